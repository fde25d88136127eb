/- PROVED HERE: a part (Ob) of the tied card of LibMatrices (floodgatelaw25): the call returns true and its arguments read as before. CONDITIONS: those of the given row and card alone. HOW: an evaluator of Go calls with unknown integers is proved sound (Eva to Evg), functions of the closure are walked and answered by readers of the heap (Wk, Wv, Oa, Ob), the runs are reckoned by the kernel (Lt), the statement itself is walked (Wm), the row and the card stand in Cf and Cp. -/
import Derived.Test.YtgbmggmblcfhkaaGreatDoorOa
import Derived.Test.YtgbmggmblcfhkaaGreatDoorWv
import Derived.KernelRfl
namespace Go.Ev
open Go.RowKit Go.Proofs.Cl Go.Proofs
variable {P : Env}

/-! # An oracle in continuation style gives one answer, or none -/

def Shape {α : Type} (F : (α → Ans) → Ans) : Prop := (∀ k, F k = .no) ∨ ∃ a, ∀ k, F k = k a
theorem Shape.no {α : Type} : Shape (fun (_ : α → Ans) => Ans.no) := .inl fun _ => rfl
theorem Shape.pure {α : Type} (a : α) : Shape (fun k => k a) := .inr ⟨a, fun _ => rfl⟩
theorem Shape.bind {α β : Type} {F : (α → Ans) → Ans} (hF : Shape F) {G : α → (β → Ans) → Ans} (hG : ∀ a, Shape (G a)) : Shape (fun k => F (fun a => G a k)) := by
  rcases hF with h | ⟨a, h⟩
  · exact .inl fun k => h _
  · rcases hG a with g | ⟨b, g⟩
    · exact .inl fun k => (h _).trans (g k)
    · exact .inr ⟨b, fun k => (h _).trans (g k)⟩
theorem Shape.bool {α : Type} (b : Bool) {F T : (α → Ans) → Ans} (hF : Shape F) (hT : Shape T) : Shape (fun k => Bool.rec (motive := fun _ => Ans) (F k) (T k) b) := by cases b; exact hF; exact hT
theorem sh_nth (i : Nat) : ∀ xs : List AV, Shape (oNth i xs) := by
  induction i with
  | zero => intro xs; cases xs with
    | nil => exact .no
    | cons x t => exact .pure x
  | succ i ih => intro xs; cases xs with
    | nil => exact .no
    | cons x t => exact ih t
theorem sh_rd (h : H) (p : AV) (i : Nat) : Shape (oRd h p i) := by
  rw [show oRd h p i = fun k => VP.rec (motive := fun _ => Ans) .no (fun f o => ld1K h f (Nat.add o i) k) (fun cs => oNth i cs k) p.vP from funext (oRd_eq h p i)]
  cases p.vP with
  | no => exact .no
  | lp cs => exact sh_nth i cs
  | ptr f o =>
    show Shape (fun k => ld1K h f (o + i) k)
    simp only [ld1K_eq]
    cases ld1F h f (o + i) with
    | no => exact .no
    | is v => exact .pure v
theorem sh_el (s : AV) (i sz : Nat) : Shape (oEl s i sz) := by
  unfold oEl
  cases s.vX with
  | no => exact .no
  | sl f o len sz' =>
    exact Shape.bool (Nat.beq sz sz') .no (Shape.bool (Nat.ble (Nat.succ i) len) .no (.pure _))
  | lst xs =>
    refine (sh_nth i xs).bind fun x => ?_
    cases x.vC with
    | no => exact .no
    | tup => exact .no
    | one => exact Shape.bool (Nat.beq sz (nat_lit 1)) .no (.pure _)
    | agg cs => exact Shape.bool (Nat.beq (lenF cs) sz) .no (.pure _)
theorem sh_ln (s : AV) : Shape (oLn s) := by
  unfold oLn
  cases s.vX with
  | no => exact .no
  | sl f o len sz' => exact .pure _
  | lst xs => exact .pure _
theorem sh_int (v : AV) : Shape (oInt v) := by
  unfold oInt
  cases v.vI with
  | no => exact .no
  | int kd n => cases kd <;> first | exact .no | exact .pure _
theorem sh_u8 (v : AV) : Shape (oU8 v) := by
  unfold oU8
  cases v.vI with
  | no => exact .no
  | int kd n => cases kd <;> first | exact .no | exact .pure _
theorem sh_z (v : AV) (kd : Int) : Shape (fun k => oZ v (k kd)) := by
  unfold oZ
  cases vZ v with
  | no => exact .no
  | int n => exact .pure _
  | sym c => exact .pure _
theorem sh_nat (v : AV) : Shape (oNat v) := by
  unfold oNat
  refine (sh_int v).bind fun n => ?_
  cases n with
  | ofNat m => exact .pure m
  | negSucc m => exact .no
theorem sh_fr {α : Type} (cs : List AV) {Kp : Nat → (α → Ans) → Ans} {Ko : Nat → Nat → (α → Ans) → Ans} (hp : ∀ q, Shape (Kp q)) (ho : ∀ a q, Shape (Ko a q)) : Shape (fun k => oFr cs (fun q => Kp q k) (fun a q => Ko a q k)) := by
  unfold oFr
  cases cs with
  | nil => exact .no
  | cons a t => cases t with
    | nil => exact .no
    | cons b t => cases t with
      | cons c t => exact .no
      | nil =>
        refine (sh_int a).bind fun n => (sh_nat b).bind fun q => ?_
        cases n with
        | ofNat m => exact ho m q
        | negSucc m => exact Shape.bool (Nat.beq m (nat_lit 0)) .no (hp q)
theorem sh_kind (h : H) (e : AV) : Shape (oKind h e) := by
  unfold oKind
  exact (sh_rd h e _).bind fun kd => (sh_u8 kd).bind fun kd => (sh_rd h e _).bind fun n => sh_z n kd
theorem sh_par (h : H) (c : AV) (q : Nat) : Shape (oPar h c q) := by
  unfold oPar
  exact (sh_rd h c _).bind fun s => (sh_el s _ _).bind fun e => sh_kind h e
theorem sh_out (h : H) (c : AV) (a q : Nat) : Shape (oOut h c a q) := by
  unfold oOut
  exact (sh_rd h c _).bind fun s => (sh_el s _ _).bind fun p => (sh_rd h p _).bind fun s => (sh_el s _ _).bind fun e => sh_kind h e
theorem sh_there (h : H) (c : AV) (xs : List AV) : Shape (oThere h c xs) := by
  induction xs with
  | nil => exact .pure []
  | cons x xs ih =>
    show Shape (fun k => VC.rec (motive := fun _ => Ans) .no .no .no (fun cs => oFr cs (fun q => oPar h c q (fun kd => oThere h c xs (fun l => k (isT kd :: l)))) (fun a q => oOut h c a q (fun kd => oThere h c xs (fun l => k (isT kd :: l))))) x.vC)
    cases x.vC with
    | agg cs => exact sh_fr cs (fun q => (sh_par h c q).bind fun kd => ih.bind fun l => .pure _) (fun a q => (sh_out h c a q).bind fun kd => ih.bind fun l => .pure _)
    | _ => exact .no
theorem sh_node {α : Type} (x : AV) {K : Int → List AV → (α → Ans) → Ans} (hK : ∀ a b, Shape (K a b)) : Shape (fun k => oNode x (fun op fs => K op fs k)) := by
  unfold oNode
  cases x.vC with
  | agg cs =>
    cases cs with
    | nil => exact .no
    | cons a t => cases t with
      | nil => exact .no
      | cons b t => cases t with
        | nil => exact .no
        | cons c t => cases t with
          | nil => exact .no
          | cons d t => cases t with
            | cons e t => exact .no
            | nil =>
              refine (sh_u8 a).bind fun op => ?_
              cases b.vS with
              | no => exact .no
              | is s =>
                refine (sh_int c).bind fun _ => ?_
                cases d.vX with
                | lst fs => exact hK op fs
                | _ => exact .no
  | _ => exact .no
theorem sh_rdy1 (op : Int) (l : List Bool) : Shape (oRdy1 op l) := by
  have hh : Shape (fun (k : Bool → Ans) => List.rec (motive := fun _ => Ans) .no (fun b _ _ => k b) l) := by
    cases l with
    | nil => exact .no
    | cons b t => exact .pure b
  unfold oRdy1
  refine Shape.bool (Nat.ble (lenF l) (nat_lit 1000)) .no ?_
  cases op with
  | negSucc m => exact .no
  | ofNat m => exact Shape.bool (Nat.beq m (nat_lit 8)) (Shape.bool (Nat.beq m (nat_lit 9)) (Shape.bool (Nat.beq m (nat_lit 6)) (.pure _) (.pure _)) hh) hh
theorem sh_nodes (h : H) (c fired : AV) (i : Nat) : ∀ (xs : List AV) (m : Nat), Shape (oNodes h c fired i xs m) := by
  intro xs
  induction xs with
  | nil => intro m; exact .pure []
  | cons x xs ih =>
    intro m
    refine sh_node x (K := fun op fs k => oEl fired m (nat_lit 1) (fun p => oRd h p (nat_lit 0) (fun r => oInt r (fun r => Bool.rec (motive := fun _ => Ans) (oThere h c fs (fun l => oRdy1 op l (fun b => Bool.rec (motive := fun _ => Ans) (oNodes h c fired i xs (Nat.succ m) k) (oNodes h c fired i xs (Nat.succ m) (fun l => k (spotA i m :: l))) b))) (oNodes h c fired i xs (Nat.succ m) k) (posB r))))) fun op fs => ?_
    refine (sh_el fired m _).bind fun p => (sh_rd h p _).bind fun r => (sh_int r).bind fun r => ?_
    refine Shape.bool (posB r) ?_ (ih _)
    exact (sh_there h c fs).bind fun l => (sh_rdy1 op l).bind fun b => Shape.bool b (ih _) ((ih _).bind fun l => .pure _)
theorem sh_ctxs (h : H) (cs bl : AV) (n : Nat) : ∀ i, Shape (oCtxs h cs bl n i) := by
  induction n with
  | zero => intro i; exact .pure []
  | succ n ih =>
    intro i
    show Shape (fun k => oCtxs h cs bl (n + 1) i k)
    simp only [oCtxs_succ]
    refine (sh_el cs i _).bind fun p => (sh_rd h p _).bind fun c => (sh_rd h c _).bind fun b => (sh_nat b).bind fun bi => (sh_el bl bi _).bind fun q => (sh_rd h q _).bind fun nodes => ?_
    cases nodes.vX with
    | no => exact .no
    | sl => exact .no
    | lst xs =>
      refine (sh_rd h c _).bind fun fired => (sh_ln fired).bind fun nf => ?_
      exact Shape.bool (Nat.beq nf (lenF xs)) .no (Shape.bool (Nat.ble nf (nat_lit 400)) .no ((sh_nodes h c fired i xs _).bind fun l => (ih _).bind fun l2 => .pure _))
theorem sh_ready (h : H) (x : AV) : Shape (fun (k : AV → Ans) => oReady h x (fun v _ => k v)) := by
  unfold oReady
  refine (sh_rd h x _).bind fun cs => (sh_rd h x _).bind fun bl => (sh_el cs _ _).bind fun _ => (sh_el bl _ _).bind fun _ => (sh_ln cs).bind fun n => ?_
  exact Shape.bool (Nat.ble n (nat_lit 400)) .no ((sh_ctxs h cs bl n _).bind fun l => .pure _)
end Go.Ev
namespace Go.Ev
open Go.RowKit Go.Proofs.Cl Go.Proofs
variable {P : Env} {α : Type}
theorem sh_mnodes (h : H) (c : AV) {F : (α → Ans) → Ans} (hF : Shape F) : ∀ xs : List AV, Shape (fun k => oMnodes h c xs (F k)) := by
  intro xs
  induction xs with
  | nil => exact hF
  | cons x xs ih =>
    refine sh_node x (K := fun op fs k => Int.rec (motive := fun _ => Ans) (fun m => Bool.rec (motive := fun _ => Ans) (oMnodes h c xs (F k)) (oThere h c fs (fun l => not2 l (oMnodes h c xs (F k)))) (Nat.beq m (nat_lit 6))) (fun _ => oMnodes h c xs (F k)) op) fun op fs => ?_
    cases op with
    | negSucc m => exact ih
    | ofNat m =>
      refine Shape.bool (Nat.beq m (nat_lit 6)) ih ((sh_there h c fs).bind fun l => ?_)
      cases l with
      | nil => exact .no
      | cons b0 t => cases t with
        | nil => exact .no
        | cons b1 t => exact Shape.bool b0 ih (Shape.bool b1 ih .no)
theorem sh_mctx (h : H) (cs bl : AV) {F : (α → Ans) → Ans} (hF : Shape F) (n : Nat) : ∀ i, Shape (fun k => oMctx h cs bl n i (F k)) := by
  induction n with
  | zero => intro i; exact hF
  | succ n ih =>
    intro i
    simp only [oMctx_succ]
    refine (sh_el cs i _).bind fun p => (sh_rd h p _).bind fun c => (sh_rd h c _).bind fun b => (sh_nat b).bind fun bi => (sh_el bl bi _).bind fun q => (sh_rd h q _).bind fun nodes => ?_
    cases nodes.vX with
    | no => exact .no
    | sl => exact .no
    | lst xs => exact Shape.bool (Nat.ble (lenF xs) (nat_lit 400)) .no (sh_mnodes h c (ih _) xs)
theorem sh_merge (h : H) (x : AV) : Shape (fun (k : AV → Ans) => oMerge h x (fun v _ => k v)) := by
  unfold oMerge
  refine (sh_rd h x _).bind fun cs => (sh_rd h x _).bind fun bl => (sh_el cs _ _).bind fun _ => (sh_el bl _ _).bind fun _ => (sh_ln cs).bind fun n => ?_
  exact Shape.bool (Nat.ble n (nat_lit 400)) .no (sh_mctx h cs bl (.pure _) n _)
theorem sh_kd (h : H) (c x : AV) : Shape (oKd h c x) := by
  unfold oKd
  cases x.vC with
  | agg cs => exact sh_fr cs (fun q => sh_par h c q) (fun a q => sh_out h c a q)
  | _ => exact .no
theorem sh_give (h : H) (ab c : AV) {F G : (α → Ans) → Ans} (hF : Shape F) (hG : Shape G) : ∀ (xs : List AV) (i : Nat), Shape (fun k => oGive h ab c xs (F k) (G k) i) := by
  intro xs
  induction xs with
  | nil => intro i; exact hF
  | cons x xs ih =>
    intro i
    exact (sh_kd h ab x).bind (G := fun kd k => Bool.rec (motive := fun _ => Ans) (oGive h ab c xs (F k) (G k) (Nat.succ i)) (oPar h c i (fun k2 => Bool.rec (motive := fun _ => Ans) (G k) (oGive h ab c xs (F k) (G k) (Nat.succ i)) (isT k2))) (isT kd)) fun kd => Shape.bool (isT kd) (ih _) ((sh_par h c i).bind fun k2 => Shape.bool (isT k2) hG (ih _))
theorem sh_given (h : H) (ab : AV) (nd i : Nat) (t : Int) {F G : (α → Ans) → Ans} (hF : Shape F) (hG : Shape G) : Shape (fun k => oGiven h ab nd i t (F k) (G k)) := by
  unfold oGiven
  refine (sh_rd h ab _).bind fun s => (sh_el s _ _).bind fun p => (sh_rd h p _).bind fun s => (sh_el s _ _).bind fun e => (sh_rd h e _).bind fun t2 => (sh_int t2).bind fun t2 => (sh_rd h e _).bind fun nx => (sh_rd h e _).bind fun is => ?_
  cases nx.vB with
  | no => exact .no
  | is b => cases is.vB with
    | no => exact .no
    | is b2 => exact Shape.bool b (Shape.bool b2 hG (Shape.bool (ibeq t2 t) hG hF)) hG
theorem sh_exits (h : H) (ab c : AV) (nd : Nat) (t : Int) {F G : (α → Ans) → Ans} (hF : Shape F) (hG : Shape G) : ∀ (xs : List AV) (i : Nat), Shape (fun k => oExits h ab c nd t xs (F k) (G k) i) := by
  intro xs
  induction xs with
  | nil => intro i; exact hF
  | cons x xs ih =>
    intro i
    exact (sh_kd h c x).bind (G := fun kd k => Bool.rec (motive := fun _ => Ans) (oExits h ab c nd t xs (F k) (G k) (Nat.succ i)) (oGiven h ab nd i t (oExits h ab c nd t xs (F k) (G k) (Nat.succ i)) (G k)) (isT kd)) fun kd => Shape.bool (isT kd) (ih _) (sh_given h ab nd i t (ih _) hG)
theorem sh_lst (s : AV) : Shape (oLst s) := by
  unfold oLst
  cases s.vX with
  | no => exact .no
  | sl => exact .no
  | lst xs => exact Shape.bool (Nat.ble (lenF xs) (nat_lit 1000)) .no (.pure _)
theorem sh_turn (h : H) (cs c : AV) (nxs : List AV) (x0 : AV) {F G : (α → Ans) → Ans} (hF : Shape F) (hG : Shape G) : Shape (fun k => oTurn h cs c nxs x0 (F k) (G k)) := by
  unfold oTurn
  refine (sh_kd h c x0).bind fun kd => Shape.bool (isT kd) hG (Shape.bool (ibeq kd (.ofNat (nat_lit 5))) ?_ hG)
  refine (sh_rd h c _).bind fun nv => (sh_int nv).bind fun nv => ?_
  cases nv with
  | negSucc m => exact hG
  | ofNat t => exact (sh_el cs _ _).bind fun p => (sh_rd h p _).bind fun tc => (sh_rd h tc _).bind fun _ => sh_give h c tc hF hG nxs _
theorem sh_next (h : H) (cs c q nx : AV) {F G : (α → Ans) → Ans} (hF : Shape F) (hG : Shape G) : Shape (fun k => oNext h cs c q nx (F k) (G k)) := by
  unfold oNext
  refine (sh_lst nx).bind fun nxs => ?_
  cases nxs with
  | nil => exact hF
  | cons x0 t =>
    refine (sh_rd h q _).bind fun nm => ?_
    unfold oStr
    cases nm.vS with
    | no => exact .no
    | is s =>
      refine (sh_rd h q _).bind fun pr => (sh_int pr).bind fun _ => (sh_rd h q _).bind fun ns => (sh_lst ns).bind fun _ => (sh_there h c _).bind fun l => ?_
      cases l with
      | nil => exact .no
      | cons b t => exact Shape.bool b hF (sh_turn h cs c _ x0 hF hG)
theorem sh_args (h : H) (bl ab c : AV) (nd : Nat) (t : Int) {F G : (α → Ans) → Ans} (hF : Shape F) (hG : Shape G) : Shape (fun k => oArgs h bl ab c nd t (F k) (G k)) := by
  unfold oArgs
  refine Shape.bool (posB t) ?_ hF
  refine (sh_rd h ab _).bind fun b2 => (sh_nat b2).bind fun bi2 => (sh_el bl _ _).bind fun q2 => (sh_rd h q2 _).bind fun nodes => (sh_lst nodes).bind fun ns => (sh_nth nd ns).bind fun x => ?_
  exact sh_node x (K := fun _ fs k => Bool.rec (motive := fun _ => Ans) .no (oGive h ab c fs (F k) (G k) (nat_lit 0)) (Nat.ble (lenF fs) (nat_lit 1000))) fun _ fs => Shape.bool (Nat.ble (lenF fs) (nat_lit 1000)) .no (sh_give h ab c hF hG fs _)
theorem sh_hand (h : H) (x i : AV) : Shape (fun (k : Bool → Ans) => oHandOn h x i (k true) (k false)) := by
  unfold oHandOn
  refine (sh_rd h x _).bind fun cs => (sh_rd h x _).bind fun bl => (sh_nat i).bind fun i => (sh_el cs _ _).bind fun p => (sh_rd h p _).bind fun c => (sh_rd h c _).bind fun par => (sh_int par).bind fun par => (sh_rd h c _).bind fun b => (sh_nat b).bind fun bi => (sh_el bl _ _).bind fun q => (sh_rd h q _).bind fun nx => ?_
  cases par with
  | negSucc a => exact Shape.bool (Nat.beq a (nat_lit 0)) .no ((sh_lst nx).bind fun _ => .pure true)
  | ofNat pa =>
    show Shape (fun (k : Bool → Ans) => oHandIn h cs bl c q nx pa (k true) (k false))
    unfold oHandIn
    refine (sh_el cs _ _).bind fun p2 => (sh_rd h p2 _).bind fun ab => (sh_rd h ab _).bind fun _ => (sh_rd h c _).bind fun nd => (sh_nat nd).bind fun nd => (sh_rd h c _).bind fun tt => (sh_int tt).bind fun t => (sh_rd h q _).bind fun ex => (sh_lst ex).bind fun exs => ?_
    exact sh_exits h ab c nd t (sh_args h bl ab c nd t (sh_next h cs c q nx (.pure true) (.pure false)) (.pure false)) (.pure false) exs _
end Go.Ev
namespace Go.Ev
open Go.RowKit Go.Proofs.Cl Go.Proofs
variable {P : Env}

/-! # What such an answer says of a call -/

theorem rb_below {j : Inj} {h : H} {w w' : World} (hR : RB P j h.blk h.next.toN w) (hB : Below w.heap.size w w') : RB P j h.blk h.next.toN w' ∧ Ext j h.blk w j h.blk w' := by
  refine ⟨hR.other hB.size (fun b hb => hB.block b (Nat.lt_of_lt_of_le hb hR.size)) (fun f l ⟨b, k1, k2⟩ hj => by
      obtain ⟨l', q1, q2, _⟩ := hR.blk f b k1
      rw [hj] at q1; cases q1
      exact hB.block _ (q2 k2)) fun b o hb => hB.block b (hR.ice_lt hb), ?_⟩
  exact ⟨Inj.le_refl j, hB.size, fun b hb _ => hB.block b hb, fun f l hl hj => .inr ⟨f, l, hl, hj, rfl⟩, hB.os, hB.output, hB.tape, fun _ h _ => h, fun _ h => h, fun _ _ h => .inl h⟩
/-- one more block that nobody writes -/
def Inj.with (j : Inj) (g : Nat) (o : Obj) : Inj := ⟨j.loc, fun b => if b = g then some o else j.fro b, j.sy⟩
theorem rb_ice {j : Inj} {h : H} {w w' : World} (hR : RB P j h.blk h.next.toN w) (hB : Below w.heap.size w w') {g : Nat} {o : Obj} (hg : w.heap.size ≤ g) (ho : w'.heap[g]? = some o) (hf : IsFro o) :
    j.le (j.with g o) ∧ RB P (j.with g o) h.blk h.next.toN w' ∧ Ext j h.blk w (j.with g o) h.blk w' := by
  obtain ⟨h1, h2⟩ := rb_below hR hB
  have hle : j.le (j.with g o) := ⟨fun _ _ h => h, fun b o' hb => by
    have := hR.ice_lt hb
    show (if b = g then some o else j.fro b) = some o'
    rw [if_neg (by omega)]; exact hb, rfl⟩
  have hlt : ∀ f l, Live h.blk f → j f = some l → l.blk < w.heap.size := fun f l ⟨b, k1, k2⟩ hj => by
    obtain ⟨l', m1, m2, _⟩ := hR.blk f b k1
    rw [hj] at m1; cases m1
    exact m2 k2
  refine ⟨hle, ⟨h1.fresh, fun f b hb => ?_, h1.apart, h1.far, fun b o' hb => ?_, h1.size, h1.inv⟩, ⟨hle, h2.size, h2.keep, h2.img, h2.os, h2.output, h2.tape, h2.dom, h2.mono, fun b o' hb => ?_⟩⟩
  · obtain ⟨l, m1, m2, m3⟩ := h1.blk f b hb
    refine ⟨l, m1, m2, ?_⟩
    cases b with
    | dead => trivial
    | ice _ _ _ => exact m3.iceKeep hle
    | imap _ => exact m3.imapKeep hle
    | _ => exact m3.keep hle rfl
  · have hb : (if b = g then some o else j.fro b) = some o' := hb
    by_cases hbg : b = g
    · subst hbg
      rw [if_pos rfl] at hb; cases hb
      exact ⟨ho, hf, fun f l hl hj e => by have := hlt f l hl hj; omega⟩
    · rw [if_neg hbg] at hb
      exact h1.ice b o' hb
  · have hb : (if b = g then some o else j.fro b) = some o' := hb
    by_cases hbg : b = g
    · subst hbg; exact .inr (.inl hg)
    · rw [if_neg hbg] at hb; exact .inl hb
theorem vrs_spots {j : Inj} : ∀ l : List (Nat × Nat), VRs j (cellsOf (l.map fun p => spotA p.1 p.2)) (spots l)
  | [] => .nil
  | a :: l => by
    show VRs j (.int .i64 (.ofNat a.1) :: .int .i64 (.ofNat a.2) :: cellsOf (l.map fun p => spotA p.1 p.2)) (.int .i64 a.1 :: .int .i64 a.2 :: spots l)
    exact .cons _ _ _ _ (.int _ _) (.cons _ _ _ _ (.int _ _) (vrs_spots l))
theorem enters_calls {f : FuncId} {vs : Array Value} {w : World} {Q : Ending → World → Prop} (hc : Calls P.toProgram f vs w Q) (n : Nat) : CallsIn Fence.wide n P f vs w Q := callsIn_wide.2 hc
variable (hP : P.toProgram = Tryz.prog)
include hP
theorem known_ready (hent : ∀ vs w, (callFunc 98 vs).run P.toProgram w = .ok (.enter 98 vs) w) {x : AV} {h : H} {L : AV} (hL : ∀ k, oReady h x k = k L h) : Known P 98 [x] h L h := by
  intro w j hR vs hvs
  refine ⟨hent _ _, fun n => enters_calls ?_ n⟩
  obtain ⟨vl⟩ := vs
  cases hvs with
  | cons _ _ xv _ hx hn =>
    cases hn
    have hk : oReady h x (fun v _ => by classical exact if v = L then .yes else .no) = .yes := by rw [hL]; simp
    obtain ⟨l, hc, hl⟩ := oReady_ok hR hx hk
    have hl : L = .lst none (l.map fun p => spotA p.1 p.2) := by
      by_cases he : (AV.lst none (l.map fun p => spotA p.1 p.2)) = L
      · exact he.symm
      · simp only [he, if_false] at hl; cases hl
    rw [hP]
    refine hc.mono ?_
    rintro e w' ⟨v, he, hown, hB⟩
    subst hl
    refine ⟨Nat.le_refl _, v, he, ?_⟩
    obtain ⟨hlen, hcase⟩ := hown
    rcases hcase with ⟨rfl, h0⟩ | ⟨g, cap, cur, rfl, hg, hcur, h1, h2, h3, h4⟩
    · obtain ⟨r1, r2⟩ := rb_below hR hB
      have : l = [] := List.eq_nil_of_length_eq_zero h0
      subst this
      exact ⟨j, .lstE none none 0 (fun _ h => by cases h) (fun _ => rfl), r1, r2⟩
    · obtain ⟨r0, r1, r2⟩ := rb_ice hR hB hg hcur (.inl ⟨_, _, _, rfl⟩)
      refine ⟨_, ?_, r1, r2⟩
      have hlm : (l.map fun p => spotA p.1 p.2).length = l.length := by simp
      have := VR.lst (j := j.with g (.cells cur 209 (0, 0))) none (l.map fun p => spotA p.1 p.2) g 0 cap 2 cur 209 (0, 0) (by show (if g = g then _ else _) = _; rw [if_pos rfl]) (by rw [hlm]; exact h1) (fun _ h => by cases h)
        (fun y hy => by obtain ⟨p, _, rfl⟩ := List.mem_map.1 hy; rfl) (by rw [hlm, h3]; have := Nat.mul_le_mul_right 2 h1; omega) (by
          rw [hlm, Nat.zero_add]
          have e : (cur.extract 0 (l.length * 2)).toList = spots l := by
            rw [Array.toList_extract, List.extract_eq_take_drop, List.drop_zero, Nat.sub_zero]; exact h4
          rw [e]; exact vrs_spots l)
      rw [hlm] at this
      exact this
theorem known_merges (hent : ∀ vs w, (callFunc 151 vs).run P.toProgram w = .ok (.enter 151 vs) w) {x : AV} {h : H} {L : AV} (hL : ∀ k, oMerge h x k = k L h) : Known P 151 [x] h L h := by
  intro w j hR vs hvs
  refine ⟨hent _ _, fun n => enters_calls ?_ n⟩
  obtain ⟨vl⟩ := vs
  cases hvs with
  | cons _ _ xv _ hx hn =>
    cases hn
    have hk : oMerge h x (fun v _ => by classical exact if v = L then .yes else .no) = .yes := by rw [hL]; simp
    obtain ⟨hc, hl⟩ := oMerge_ok hR hx hk
    have hl : L = .int .i64 0 := by
      by_cases he : (AV.int .i64 0) = L
      · exact he.symm
      · simp only [he, if_false] at hl; cases hl
    rw [hP]
    refine hc.mono ?_
    rintro e w' ⟨he, hB⟩
    subst hl
    obtain ⟨r1, r2⟩ := rb_below hR hB
    exact ⟨Nat.le_refl _, _, he, j, .int _ _, r1, r2⟩
noncomputable def tupQ : AV := .tup [.bool false, .int .i64 (.ofNat (nat_lit 0))]
theorem known_hand (hent : ∀ vs w, (callFunc 150 vs).run P.toProgram w = .ok (.enter 150 vs) w) {x i : AV} {h : H} (hL : oHandOn h x i .yes .no = .yes) : Known P 150 [x, i] h tupQ h := by
  intro w j hR vs hvs
  refine ⟨hent _ _, fun n => enters_calls ?_ n⟩
  obtain ⟨vl⟩ := vs
  cases hvs with
  | cons _ _ xv _ hx hn =>
    cases hn with
    | cons _ _ iv _ hi hn =>
      cases hn
      rcases oHandOn_ok hR hx hi hL with h0 | ⟨hc, _⟩
      · cases h0
      · rw [hP]
        refine hc.mono ?_
        rintro e w' ⟨he, hB⟩
        obtain ⟨r1, r2⟩ := rb_below hR hB
        exact ⟨Nat.le_refl _, _, he, j, .tup _ _ (.cons _ _ _ _ (.bool false) (.cons _ _ _ _ (.int _ _) .nil)), r1, r2⟩
end Go.Ev
namespace Go.Ev
open Go.RowKit Go.Proofs.Cl Go.Proofs
variable {P : Env}

/-! # The chain with answers in continuation style -/

abbrev OrcK := FuncId → List AV → H → (AV → H → Ans) → Ans → Ans
/-- what is answered, is what an oracle says; what is not, is not answered by it -/
def OrcR (ok : OrcK) (orc : Orc) : Prop := ∀ f args h k r, ok f args h k r = .yes → (∃ v h', orc f args h = some (v, h') ∧ k v h' = .yes) ∨ (orc f args h = none ∧ r = .yes)
/-- the oracle that is asked: by value only the table, else the reader and then the table -/
noncomputable def orcM (md has : FuncId → Bool) (oR : Orc) (orc : Orc) : Orc := fun f args h => match md f with
  | true => orcHas has orc f args h
  | false => orcBoth oR (orcHas has orc) f args h
theorem orcM_ok {md has : FuncId → Bool} {oR orc : Orc} (h1 : OrcOk P oR) (h2 : OrcOk P orc) : OrcOk P (orcM md has oR orc) := by
  intro f args h v h' hr
  unfold orcM at hr
  cases hm : md f with
  | true => rw [hm] at hr; exact orcHas_ok h2 f args h v h' hr
  | false => rw [hm] at hr; exact orcBoth_ok h1 (orcHas_ok h2) f args h v h' hr
noncomputable def cCall (hint : FuncId → Option Hint) (fs : FuncId → Option CF) (has : FuncId → Bool) (orc : Orc) (ok : OrcK) (md : FuncId → Bool) (n : Nat) : CallK :=
  Nat.rec (motive := fun _ => CallK) (fun _ _ _ _ => .no) (fun n ih c args h k => Callee.rec (motive := fun _ => Ans) (fun f =>
    Bool.rec (motive := fun _ => Ans) (ok f args h k (Bool.rec (motive := fun _ => Ans) (QS.rec (motive := fun _ => Ans) (fun q => q ih n args h k) (bSel fs (fs f) (hint f))) (askB orc f args h k (QS.rec (motive := fun _ => Ans) (fun q => q ih n args h k) (bSel fs (fs f) (hint f)))) (has f)))
      (valB (patchOS has orc (stepFS hint fs ih n)) f args h k) (md f)) (fun l => yieldT (runT ih n) l args h k (h.blk l)) c) n
theorem cCall_ok (hint : FuncId → Option Hint) (fs : FuncId → Option CF) (has : FuncId → Bool) (orc oR : Orc) (ok : OrcK) (hR : OrcR ok oR) (md : FuncId → Bool) : ∀ n, CallRel (cCall hint fs has orc ok md n) (cdQ fs (orcM md has oR orc) md n) := by
  intro n
  induction n with
  | zero => intro c args h k hr; cases hr
  | succ n ih =>
    have base : ∀ c args h k, stepFS hint fs (cCall hint fs has orc ok md n) n c args h k = .yes → ∃ v h', limF fs (cdQ fs (orcM md has oR orc) md n) c args h = .ok v h' ∧ k v h' = .yes := by
      intro c args h k hr
      obtain ⟨m, v, h', k1, k2⟩ := stepFS_ok ih hr
      exact ⟨v, h', limF_ok k1, k2⟩
    intro c args h k hr
    cases c with
    | yld l => exact base (.yld l) args h k hr
    | fn f =>
      show ∃ v h', Bool.rec (motive := fun _ => RC) (patchO (orcM md has oR orc) (limF fs (cdQ fs (orcM md has oR orc) md n)) (.fn f) args h) (byVal (patchO (orcM md has oR orc) (limF fs (cdQ fs (orcM md has oR orc) md n))) f h (convs (conv h 9) args)) (md f) = .ok v h' ∧ k v h' = .yes
      have ask : ∀ args h k, Bool.rec (motive := fun _ => Ans) (stepFS hint fs (cCall hint fs has orc ok md n) n (.fn f) args h k) (askB orc f args h k (stepFS hint fs (cCall hint fs has orc ok md n) n (.fn f) args h k)) (has f) = .yes →
          ∃ v h', orK (limF fs (cdQ fs (orcM md has oR orc) md n) (.fn f) args h) (orcHas has orc f args h) = .ok v h' ∧ k v h' = .yes := by
        intro args h k hr
        unfold orcHas
        cases hh : has f with
        | false => rw [hh] at hr; exact base _ _ _ _ hr
        | true =>
          rw [hh] at hr
          simp only at hr ⊢
          unfold askB at hr
          cases ho : orc f args h with
          | none => rw [ho] at hr; exact base _ _ _ _ hr
          | some p => obtain ⟨v, h'⟩ := p; rw [ho] at hr; exact ⟨v, h', rfl, hr⟩
      cases hm : md f with
      | false =>
        have hr : Bool.rec (motive := fun _ => Ans) (ok f args h k (Bool.rec (motive := fun _ => Ans) (QS.rec (motive := fun _ => Ans) (fun q => q (cCall hint fs has orc ok md n) n args h k) (bSel fs (fs f) (hint f))) (askB orc f args h k (QS.rec (motive := fun _ => Ans) (fun q => q (cCall hint fs has orc ok md n) n args h k) (bSel fs (fs f) (hint f)))) (has f)))
          (valB (patchOS has orc (stepFS hint fs (cCall hint fs has orc ok md n) n)) f args h k) (md f) = .yes := hr
        rw [hm, bSel_eq] at hr
        simp only at hr ⊢
        show ∃ v h', orK (limF fs (cdQ fs (orcM md has oR orc) md n) (.fn f) args h) (orcM md has oR orc f args h) = .ok v h' ∧ k v h' = .yes
        have he : orcM md has oR orc f args h = orcBoth oR (orcHas has orc) f args h := by unfold orcM; rw [hm]
        rw [he]
        unfold orcBoth
        rcases hR f args h k _ hr with ⟨v, h', h1, h2⟩ | ⟨h1, h2⟩
        · rw [h1]; exact ⟨v, h', rfl, h2⟩
        · rw [h1]; exact ask args h k h2
      | true =>
        have hr : Bool.rec (motive := fun _ => Ans) (ok f args h k (Bool.rec (motive := fun _ => Ans) (QS.rec (motive := fun _ => Ans) (fun q => q (cCall hint fs has orc ok md n) n args h k) (bSel fs (fs f) (hint f))) (askB orc f args h k (QS.rec (motive := fun _ => Ans) (fun q => q (cCall hint fs has orc ok md n) n args h k) (bSel fs (fs f) (hint f)))) (has f)))
          (valB (patchOS has orc (stepFS hint fs (cCall hint fs has orc ok md n) n)) f args h k) (md f) = .yes := hr
        rw [hm] at hr
        simp only at hr ⊢
        unfold valB at hr
        cases hcv : convs (conv h 9) args with
        | none => rw [hcv] at hr; cases hr
        | some p =>
          obtain ⟨args', ps⟩ := p
          rw [hcv] at hr
          have hr : Bool.rec (motive := fun _ => Ans) (stepFS hint fs (cCall hint fs has orc ok md n) n (.fn f) args' H.zero (fun v h2 => RC.rec (motive := fun _ => Ans) k .no (valK h ps (.ok v h2)))) (askB orc f args' H.zero (fun v h2 => RC.rec (motive := fun _ => Ans) k .no (valK h ps (.ok v h2))) (stepFS hint fs (cCall hint fs has orc ok md n) n (.fn f) args' H.zero (fun v h2 => RC.rec (motive := fun _ => Ans) k .no (valK h ps (.ok v h2))))) (has f) = .yes := hr
          obtain ⟨v, h2, k1, k2⟩ := ask args' H.zero _ hr
          show ∃ v h', valK h ps (patchO (orcM md has oR orc) (limF fs (cdQ fs (orcM md has oR orc) md n)) (.fn f) args' H.zero) = .ok v h' ∧ k v h' = .yes
          have he : patchO (orcM md has oR orc) (limF fs (cdQ fs (orcM md has oR orc) md n)) (.fn f) args' H.zero = .ok v h2 := by
            show orK (limF fs (cdQ fs (orcM md has oR orc) md n) (.fn f) args' H.zero) (orcM md has oR orc f args' H.zero) = .ok v h2
            have he : orcM md has oR orc f args' H.zero = orcHas has orc f args' H.zero := by unfold orcM; rw [hm]
            rw [he]; exact k1
          rw [he]
          cases hv : valK h ps (.ok v h2) with
          | fail => rw [hv] at k2; cases k2
          | ok v' h3 => rw [hv] at k2; exact ⟨v', h3, rfl, k2⟩
/-- the run, whose first call is neither by value nor answered -/
noncomputable def cRun (hint : FuncId → Option Hint) (fs : FuncId → Option CF) (has : FuncId → Bool) (orc : Orc) (ok : OrcK) (md : FuncId → Bool) (n : Nat) : CallK := fun c args h k =>
  Callee.rec (motive := fun _ => Ans) (fun f => QS.rec (motive := fun _ => Ans) (fun q => q (cCall hint fs has orc ok md n) n args h k) (bSel fs (fs f) (hint f))) (fun l => yieldT (runT (cCall hint fs has orc ok md n) n) l args h k (h.blk l)) c
theorem cRun_eq (hint : FuncId → Option Hint) (fs : FuncId → Option CF) (has : FuncId → Bool) (orc : Orc) (ok : OrcK) (md : FuncId → Bool) (n : Nat) (c : Callee) (args : List AV) (h : H) (k : AV → H → Ans) : cRun hint fs has orc ok md n c args h k = stepFS hint fs (cCall hint fs has orc ok md n) n c args h k := by
  cases c with
  | yld l => rfl
  | fn f =>
    show QS.rec (motive := fun _ => Ans) (fun q => q (cCall hint fs has orc ok md n) n args h k) (bSel fs (fs f) (hint f)) = _
    rw [bSel_eq]; rfl
theorem knownVsC (hm : P.follows .mixedOrders = true) (hname : ∀ (f : FuncId) (fn : Func), P.funcs[f]? = some fn → fn.name ≠ "runtime.NumGoroutine") {hint : FuncId → Option Hint} {has : FuncId → Bool} {orc oR : Orc} {ok : OrcK} (hR : OrcR ok oR) (hoR : OrcOk P oR) (ho : OrcOk P orc) {md : FuncId → Bool} {n : Nat} :
    ∀ {l : List Ent}, byValL (cRun hint (cF P) has orc ok md n) l = .yes → ∀ e ∈ l, KnownV P e.1 e.2.1 e.2.2 := by
  have hcd := cdQ_ok hm hname (orcM_ok (md := md) (has := has) hoR ho) (md := md) n
  intro l
  induction l with
  | nil => intro _ e he; cases he
  | cons e l ih =>
    obtain ⟨f, args, V⟩ := e
    intro hr
    have hr : Option.rec (motive := fun _ => Ans) .no (fun p => Prod.rec (motive := fun _ => Ans) (fun args ps => cRun hint (cF P) has orc ok md n (.fn f) args H.zero (endVK V ps (byValL (cRun hint (cF P) has orc ok md n) l))) p) (convs (conv H.zero 9) args) = .yes := hr
    cases hcv : convs (conv H.zero 9) args with
    | none => rw [hcv] at hr; cases hr
    | some p =>
      obtain ⟨args', ps⟩ := p
      rw [hcv] at hr
      have hr : cRun hint (cF P) has orc ok md n (.fn f) args' H.zero (endVK V ps (byValL (cRun hint (cF P) has orc ok md n) l)) = .yes := hr
      rw [cRun_eq] at hr
      obtain ⟨m, v, h', k1, k2⟩ := stepFS_ok (cCall_ok hint (cF P) has orc oR ok hR md n) hr
      unfold endVK at k2
      cases hv : isV V (valK H.zero ps (.ok v h')) with
      | false => rw [hv] at k2; cases k2
      | true =>
        rw [hv] at k2
        intro e he
        rcases List.mem_cons.1 he with rfl | he
        · refine knownV_of (call := stepF (cF P) (runCC (cdQ (cF P) (orcM md has oR orc) md n) m)) (runJ_ok' hm hname hcd m) ?_
          rw [hcv]
          show isV V (valK H.zero ps (stepF (cF P) (runCC (cdQ (cF P) (orcM md has oR orc) md n) m) (.fn f) args' H.zero)) = true
          rw [k1]; exact hv
        · exact ih k2 e he
end Go.Ev
namespace Go.Ev
open Go.RowKit Go.Proofs.Cl Go.Proofs
variable {P : Env}
noncomputable def readyA (args : List AV) (h : H) (k : AV → H → Ans) : Ans := List.rec (motive := fun _ => Ans) .no (fun x t _ => List.rec (motive := fun _ => Ans) (oReady h x k) (fun _ _ _ => .no) t) args
noncomputable def mergeA (args : List AV) (h : H) (k : AV → H → Ans) : Ans := List.rec (motive := fun _ => Ans) .no (fun x t _ => List.rec (motive := fun _ => Ans) (oMerge h x k) (fun _ _ _ => .no) t) args
noncomputable def handA (args : List AV) (h : H) (k : AV → H → Ans) (r : Ans) : Ans := List.rec (motive := fun _ => Ans) .no (fun x t _ => List.rec (motive := fun _ => Ans) .no (fun i t _ => List.rec (motive := fun _ => Ans) (oHandOn h x i (k tupQ h) r) (fun _ _ _ => .no) t) t) args
/-- ready, merges, handOn -/
noncomputable def okC : OrcK := fun f args h k r =>
  Bool.rec (motive := fun _ => Ans) (Bool.rec (motive := fun _ => Ans) (Bool.rec (motive := fun _ => Ans) r (handA args h k r) (Nat.beq f 150)) (mergeA args h k) (Nat.beq f 151)) (readyA args h k) (Nat.beq f 98)
open Classical in
noncomputable def orcC : Orc := fun f args h =>
  if f = 98 then (match args with
    | [x] => if hx : ∃ v, ∀ k, oReady h x k = k v h then some (hx.choose, h) else none
    | _ => none)
  else if f = 151 then (match args with
    | [x] => if hx : ∃ v, ∀ k, oMerge h x k = k v h then some (hx.choose, h) else none
    | _ => none)
  else if f = 150 then (match args with
    | [x, i] => if oHandOn h x i .yes .no = .yes then some (tupQ, h) else none
    | _ => none)
  else none
theorem okC_rel : OrcR okC orcC := by
  intro f args h k r hr
  unfold okC at hr
  unfold orcC
  by_cases h1 : f = 98
  · subst h1
    rw [if_pos rfl]
    have hr : readyA args h k = .yes := hr
    cases args with
    | nil => cases hr
    | cons x t => cases t with
      | cons y t => cases hr
      | nil =>
        have hr : oReady h x k = .yes := hr
        rcases sh_ready h x with hs | ⟨a, hs⟩
        · have e : oReady h x k = .no := hs (fun v => k v h)
          rw [hr] at e; cases e
        · have hx : ∃ v, ∀ k, oReady h x k = k v h := ⟨a, fun k => hs (fun v => k v h)⟩
          simp only [dif_pos hx]
          exact .inl ⟨_, _, rfl, by rw [← hx.choose_spec k]; exact hr⟩
  · have e1 : Nat.beq f 98 = false := by cases hb : Nat.beq f 98 with | false => rfl | true => exact absurd (Nat.eq_of_beq_eq_true hb) h1
    rw [if_neg h1]
    rw [e1] at hr
    by_cases h2 : f = 151
    · subst h2
      rw [if_pos rfl]
      have hr : mergeA args h k = .yes := hr
      cases args with
      | nil => cases hr
      | cons x t => cases t with
        | cons y t => cases hr
        | nil =>
          have hr : oMerge h x k = .yes := hr
          rcases sh_merge h x with hs | ⟨a, hs⟩
          · have e : oMerge h x k = .no := hs (fun v => k v h)
            rw [hr] at e; cases e
          · have hx : ∃ v, ∀ k, oMerge h x k = k v h := ⟨a, fun k => hs (fun v => k v h)⟩
            simp only [dif_pos hx]
            exact .inl ⟨_, _, rfl, by rw [← hx.choose_spec k]; exact hr⟩
    · have e2 : Nat.beq f 151 = false := by cases hb : Nat.beq f 151 with | false => rfl | true => exact absurd (Nat.eq_of_beq_eq_true hb) h2
      rw [if_neg h2]
      rw [e2] at hr
      by_cases h3 : f = 150
      · subst h3
        rw [if_pos rfl]
        have hr : handA args h k r = .yes := hr
        cases args with
        | nil => cases hr
        | cons x t => cases t with
          | nil => cases hr
          | cons i t => cases t with
            | cons y t => cases hr
            | nil =>
              have hr : oHandOn h x i (k tupQ h) r = .yes := hr
              rcases sh_hand h x i with hs | ⟨a, hs⟩
              · have := hs (fun b => Bool.rec r (k tupQ h) b)
                have e : oHandOn h x i (k tupQ h) r = .no := this
                rw [hr] at e; cases e
              · have g1 := hs (fun b => Bool.rec r (k tupQ h) b)
                have g2 := hs (fun b => Bool.rec .no .yes b)
                cases a with
                | true =>
                  have g2 : oHandOn h x i .yes .no = .yes := g2
                  have g1 : oHandOn h x i (k tupQ h) r = k tupQ h := g1
                  simp only [if_pos g2]
                  exact .inl ⟨_, _, rfl, by rw [← g1]; exact hr⟩
                | false =>
                  have g2 : oHandOn h x i .yes .no = .no := g2
                  have g1 : oHandOn h x i (k tupQ h) r = r := g1
                  refine .inr ⟨by simp [g2], by rw [← g1]; exact hr⟩
      · have e3 : Nat.beq f 150 = false := by cases hb : Nat.beq f 150 with | false => rfl | true => exact absurd (Nat.eq_of_beq_eq_true hb) h3
        rw [if_neg h3]
        rw [e3] at hr
        exact .inr ⟨rfl, hr⟩
theorem orcC_ok (hP : P.toProgram = Tryz.prog) (e1 : ∀ vs w, (callFunc 98 vs).run P.toProgram w = .ok (.enter 98 vs) w) (e2 : ∀ vs w, (callFunc 151 vs).run P.toProgram w = .ok (.enter 151 vs) w) (e3 : ∀ vs w, (callFunc 150 vs).run P.toProgram w = .ok (.enter 150 vs) w) : OrcOk P orcC := by
  intro f args h v h' hr
  unfold orcC at hr
  by_cases h1 : f = 98
  · subst h1
    rw [if_pos rfl] at hr
    split at hr
    · rename_i x
      split at hr
      · rename_i hx
        cases hr
        exact known_ready hP e1 hx.choose_spec
      · cases hr
    · cases hr
  · rw [if_neg h1] at hr
    by_cases h2 : f = 151
    · subst h2
      rw [if_pos rfl] at hr
      split at hr
      · rename_i x
        split at hr
        · rename_i hx
          cases hr
          exact known_merges hP e2 hx.choose_spec
        · cases hr
      · cases hr
    · rw [if_neg h2] at hr
      by_cases h3 : f = 150
      · subst h3
        rw [if_pos rfl] at hr
        split at hr
        · rename_i x i
          split at hr
          · rename_i hx
            cases hr
            exact known_hand hP e3 hx
          · cases hr
        · cases hr
      · rw [if_neg h3] at hr; cases hr
end Go.Ev
namespace Go.Ev
open Go.RowKit Go.Proofs.Cl Go.Proofs
variable {P : Env}
noncomputable def isNl (v : AV) : Bool :=
  AV.rec (motive_1 := fun _ => Bool) (motive_2 := fun _ => PUnit) false (fun _ => false) (fun _ _ => false) (fun _ => false) false (fun _ _ => false) true (fun _ _ _ _ _ _ => false) false (fun _ => false) false (fun _ _ _ _ _ => false) (fun _ => false) false (fun _ _ _ => false) (fun _ _ => false) (fun _ _ => false) (fun _ _ _ => false) (fun _ _ => false) (fun _ _ _ _ => false) false (fun _=>false) ⟨⟩ (fun _ _ _ _ => ⟨⟩) v
theorem isNl_eq {v : AV} (h : isNl v = true) : v = .nils := by cases v <;> first | rfl | cases h
/-- how many elements, of a slice that may be nil -/
noncomputable def oLen (s : AV) (k : Nat → Ans) : Ans := Bool.rec (motive := fun _ => Ans) (oLn s k) (k (nat_lit 0)) (isNl s)
theorem oLen_ok {j : Inj} {s : AV} {sv : Value} (hs : VR j s sv) {k : Nat → Ans} (hk : oLen s k = .yes) : ∃ p n c, sv = .slice p n c ∧ k n = .yes := by
  unfold oLen at hk
  cases hb : isNl s with
  | false => rw [hb] at hk; exact oLn_ok hs hk
  | true =>
    rw [hb] at hk
    obtain rfl := isNl_eq hb
    cases hs
    exact ⟨_, _, _, rfl, hk⟩
/-- is it a value, with so many structures? -/
noncomputable def okVB (k n : Int) (st : Nat) : Bool :=
  Int.rec (motive := fun _ => Bool) (fun k => Int.rec (motive := fun _ => Bool) (fun n =>
    Bool.rec (motive := fun _ => Bool) (Bool.rec (motive := fun _ => Bool) (Bool.rec (motive := fun _ => Bool) (Bool.rec (motive := fun _ => Bool) (Bool.rec (motive := fun _ => Bool) (Bool.rec (motive := fun _ => Bool) false (Bool.rec (motive := fun _ => Bool) false (Nat.ble (nat_lit 1) n) (Nat.ble n (nat_lit 5))) (Nat.beq k (nat_lit 5)))
      (Nat.ble (Nat.succ n) st) (Nat.beq k (nat_lit 4))) (Nat.ble n (nat_lit 1)) (Nat.beq k (nat_lit 2))) (Nat.ble n (nat_lit 1000000000)) (Nat.beq k (nat_lit 1))) (Nat.beq n (nat_lit 0)) (Nat.beq k (nat_lit 3))) (Nat.beq n (nat_lit 0)) (Nat.beq k (nat_lit 0)))
    (fun m => Bool.rec (motive := fun _ => Bool) false (Nat.ble (Nat.succ m) (nat_lit 1000000000)) (Nat.beq k (nat_lit 1))) n) (fun _ => false) k
theorem okVB_ok {k n : Int} {st : Nat} (h : okVB k n st = true) : OkV k n st := by
  cases k with
  | negSucc a => cases h
  | ofNat k =>
    cases n with
    | negSucc m =>
      have h : Bool.rec (motive := fun _ => Bool) false (Nat.ble (m + 1) 1000000000) (Nat.beq k 1) = true := h
      cases h1 : Nat.beq k 1 with
      | false => rw [h1] at h; cases h
      | true =>
        rw [h1] at h
        obtain rfl := Nat.eq_of_beq_eq_true h1
        have h9 : m + 1 ≤ 1000000000 := Nat.le_of_ble_eq_true h
        refine .inr (.inr (.inl ⟨rfl, ?_, ?_⟩)) <;> simp only [Int.negSucc_eq] <;> omega
    | ofNat n =>
      have h : Bool.rec (motive := fun _ => Bool) (Bool.rec (motive := fun _ => Bool) (Bool.rec (motive := fun _ => Bool) (Bool.rec (motive := fun _ => Bool) (Bool.rec (motive := fun _ => Bool) (Bool.rec (motive := fun _ => Bool) false (Bool.rec (motive := fun _ => Bool) false (Nat.ble 1 n) (Nat.ble n 5)) (Nat.beq k 5))
        (Nat.ble (n + 1) st) (Nat.beq k 4)) (Nat.ble n 1) (Nat.beq k 2)) (Nat.ble n 1000000000) (Nat.beq k 1)) (Nat.beq n 0) (Nat.beq k 3)) (Nat.beq n 0) (Nat.beq k 0) = true := h
      cases h0 : Nat.beq k 0 with
      | true =>
        rw [h0] at h
        obtain rfl := Nat.eq_of_beq_eq_true h0
        obtain rfl := Nat.eq_of_beq_eq_true h
        exact .inl ⟨rfl, rfl⟩
      | false =>
        rw [h0] at h
        cases h3 : Nat.beq k 3 with
        | true =>
          rw [h3] at h
          obtain rfl := Nat.eq_of_beq_eq_true h3
          obtain rfl := Nat.eq_of_beq_eq_true h
          exact .inr (.inl ⟨rfl, rfl⟩)
        | false =>
          rw [h3] at h
          cases h1 : Nat.beq k 1 with
          | true =>
            rw [h1] at h
            obtain rfl := Nat.eq_of_beq_eq_true h1
            have := Nat.le_of_ble_eq_true h
            refine .inr (.inr (.inl ⟨rfl, ?_, ?_⟩)) <;> simp only [Int.ofNat_eq_natCast] <;> omega
          | false =>
            rw [h1] at h
            cases h2 : Nat.beq k 2 with
            | true =>
              rw [h2] at h
              obtain rfl := Nat.eq_of_beq_eq_true h2
              have := Nat.le_of_ble_eq_true h
              refine .inr (.inr (.inr (.inl ⟨rfl, ?_, ?_⟩))) <;> simp only [Int.ofNat_eq_natCast] <;> omega
            | false =>
              rw [h2] at h
              cases h4 : Nat.beq k 4 with
              | true =>
                rw [h4] at h
                obtain rfl := Nat.eq_of_beq_eq_true h4
                have := Nat.le_of_ble_eq_true h
                refine .inr (.inr (.inr (.inr (.inl ⟨rfl, ?_, ?_⟩)))) <;> simp only [Int.ofNat_eq_natCast] <;> omega
              | false =>
                rw [h4] at h
                cases h5 : Nat.beq k 5 with
                | true =>
                  rw [h5] at h
                  obtain rfl := Nat.eq_of_beq_eq_true h5
                  have h7 : Bool.rec (motive := fun _ => Bool) false (Nat.ble 1 n) (Nat.ble n 5) = true := h
                  clear h
                  cases h6 : Nat.ble n 5 with
                  | false => rw [h6] at h7; cases h7
                  | true =>
                    rw [h6] at h7
                    have := Nat.le_of_ble_eq_true h7
                    have := Nat.le_of_ble_eq_true h6
                    refine .inr (.inr (.inr (.inr (.inr ⟨rfl, ?_, ?_⟩)))) <;> simp only [Int.ofNat_eq_natCast] <;> omega
                | false => rw [h5] at h; cases h
end Go.Ev
namespace Go.Ev
open Go.RowKit Go.Proofs.Cl Go.Proofs
variable {P : Env}
/-- a value, known or not -/
noncomputable def oOkV (v : AV) (kd : Int) (st : Nat) (k kf : Ans) : Ans := VZ.rec (motive := fun _ => Ans) .no (fun n => Bool.rec (motive := fun _ => Ans) kf k (okVB kd n st)) (fun _ => Bool.rec (motive := fun _ => Ans) kf k (ibeq kd (.ofNat (nat_lit 1)))) (vZ v)
theorem oOkV_ok {j : Inj} {v : AV} {cv : Value} (hv : VR j v cv) {kd : Int} {st : Nat} {k kf : Ans} (h : oOkV v kd st k kf = .yes) : ∃ n, cv = .int .i64 n ∧ (kf = .yes ∨ (OkV kd n st ∧ k = .yes)) := by
  cases v with
  | int ki n =>
    cases ki <;> first | (cases h; done) | skip
    cases hv
    have h : Bool.rec (motive := fun _ => Ans) kf k (okVB kd n st) = .yes := h
    cases hb : okVB kd n st with
    | false => rw [hb] at h; exact ⟨n, rfl, .inl h⟩
    | true => rw [hb] at h; exact ⟨n, rfl, .inr ⟨okVB_ok hb, h⟩⟩
  | sym c =>
    cases hv
    have h : Bool.rec (motive := fun _ => Ans) kf k (ibeq kd (.ofNat 1)) = .yes := h
    cases hb : ibeq kd (.ofNat 1) with
    | false => rw [hb] at h; exact ⟨_, rfl, .inl h⟩
    | true =>
      rw [hb] at h
      have hk : kd = 1 := by rw [ibeq_eq] at hb; simpa using hb
      exact ⟨_, rfl, .inr ⟨.inr (.inr (.inl ⟨hk, symF_bnd j.sy.ok c⟩)), h⟩⟩
  | _ => cases h
/-- all elements of a slice are values -/
noncomputable def oVals (h : H) (s : AV) (st : Nat) (n : Nat) (kq kf : Ans) : Nat → Ans :=
  Nat.rec (motive := fun _ => Nat → Ans) (fun _ => kq) (fun _ ih i => oEl s i (nat_lit 2) (fun e => oRd h e (nat_lit 0) (fun kd => oU8 kd (fun kd => oRd h e (nat_lit 1) (fun nn => oOkV nn kd st (ih (Nat.succ i)) kf))))) n
theorem oVals_succ (h : H) (s : AV) (st n : Nat) (kq kf : Ans) (i : Nat) : oVals h s st (n + 1) kq kf i = oEl s i (nat_lit 2) (fun e => oRd h e (nat_lit 0) (fun kd => oU8 kd (fun kd => oRd h e (nat_lit 1) (fun nn => oOkV nn kd st (oVals h s st n kq kf (Nat.succ i)) kf)))) := rfl
theorem oVals_ok {j : Inj} {h : H} {nn : Nat} {w : World} (hR : RB P j h.blk nn w) {s : AV} {st : Nat} {p : Option Addr} {m c : Nat} (hs : VR j s (.slice p m c)) {kq kf : Ans} :
    ∀ {n i : Nat}, oVals h s st n kq kf i = .yes → kf = .yes ∨ (∃ l : List (Int × Int), l.length = n ∧ ∀ t, t < n → (∃ b o, p = some ⟨b, o, none⟩ ∧ VAt w b (o + (i + t) * 2) (l.getD t (0, 0)).1 (l.getD t (0, 0)).2) ∧ OkV (l.getD t (0, 0)).1 (l.getD t (0, 0)).2 st) ∧ kq = .yes := by
  intro n
  induction n with
  | zero => intro i hk; exact .inr ⟨⟨[], rfl, fun t ht => absurd ht (Nat.not_lt_zero _)⟩, hk⟩
  | succ n ih =>
    intro i hk
    rw [oVals_succ] at hk
    obtain ⟨b, o, m', c', e, he, hi, h1, hk⟩ := oEl_ok (sz := 2) hs (by decide) hk
    cases he
    obtain ⟨v0, c0, g0, r0, hk⟩ := oRd_ok hR h1 hk
    obtain ⟨kd, rfl, _, hk⟩ := oU8_ok r0 hk
    obtain ⟨v1, c1, g1, r1, hk⟩ := oRd_ok hR h1 hk
    obtain ⟨n1, rfl, hk⟩ := oOkV_ok r1 hk
    rcases hk with hk2 | ⟨hb, hk2⟩
    · exact .inl hk2
    · rcases ih hk2 with h2 | ⟨⟨l, hl, hq⟩, h3⟩
      · exact .inl h2
      · refine .inr ⟨⟨(kd, n1) :: l, by simp [hl], fun t ht => ?_⟩, h3⟩
        cases t with
        | zero => exact ⟨⟨_, _, rfl, ⟨g0, g1⟩⟩, hb⟩
        | succ t =>
          obtain ⟨⟨b2, o2, e1, e2⟩, e3⟩ := hq t (by omega)
          rw [show i + 1 + t = i + (t + 1) by omega] at e2
          exact ⟨⟨b2, o2, e1, e2⟩, e3⟩
/-- all that waits, waits for holes -/
noncomputable def oWts (h : H) (cs ws : AV) (m : Nat) (n : Nat) (kq kf : Ans) : Nat → Ans :=
  Nat.rec (motive := fun _ => Nat → Ans) (fun _ => kq) (fun _ ih i => oEl ws i (nat_lit 2) (fun e => oRd h e (nat_lit 0) (fun q => oNat q (fun q => oRd h e (nat_lit 1) (fun rd => oInt rd (fun _ => Bool.rec (motive := fun _ => Ans) kf (oEl cs q (nat_lit 2) (fun e2 => oKind h e2 (fun kd => Bool.rec (motive := fun _ => Ans) (ih (Nat.succ i)) kf (isT kd)))) (Nat.ble (Nat.succ q) m))))))) n
theorem oWts_succ (h : H) (cs ws : AV) (m n : Nat) (kq kf : Ans) (i : Nat) : oWts h cs ws m (n + 1) kq kf i = oEl ws i (nat_lit 2) (fun e => oRd h e (nat_lit 0) (fun q => oNat q (fun q => oRd h e (nat_lit 1) (fun rd => oInt rd (fun _ => Bool.rec (motive := fun _ => Ans) kf (oEl cs q (nat_lit 2) (fun e2 => oKind h e2 (fun kd => Bool.rec (motive := fun _ => Ans) (oWts h cs ws m n kq kf (Nat.succ i)) kf (isT kd)))) (Nat.ble (Nat.succ q) m)))))) := rfl
theorem oWts_ok {j : Inj} {h : H} {nn : Nat} {w : World} (hR : RB P j h.blk nn w) {cs ws : AV} {p wp : Option Addr} {m c wm wc : Nat} (hc : VR j cs (.slice p m c)) (hw : VR j ws (.slice wp wm wc)) {kq kf : Ans} :
    ∀ {n i : Nat}, oWts h cs ws m n kq kf i = .yes → kf = .yes ∨ (∃ l : List (Nat × Int), l.length = n ∧ ∀ t, t < n → (∃ b o, wp = some ⟨b, o, none⟩ ∧ w.cell? ⟨b, o + (i + t) * 2, none⟩ = some (.int .i64 (l.getD t (0, 0)).1) ∧ w.cell? ⟨b, o + (i + t) * 2 + 1, none⟩ = some (.int .i64 (l.getD t (0, 0)).2)) ∧
      ∃ cb co, p = some ⟨cb, co, none⟩ ∧ (l.getD t (0, 0)).1 < m ∧ ∃ n0, VAt w cb (co + (l.getD t (0, 0)).1 * 2) 0 n0) ∧ kq = .yes := by
  intro n
  induction n with
  | zero => intro i hk; exact .inr ⟨⟨[], rfl, fun t ht => absurd ht (Nat.not_lt_zero _)⟩, hk⟩
  | succ n ih =>
    intro i hk
    rw [oWts_succ] at hk
    obtain ⟨b, o, m', c', e, he, hi, h1, hk⟩ := oEl_ok (sz := 2) hw (by decide) hk
    cases he
    obtain ⟨v0, c0, g0, r0, hk⟩ := oRd_ok hR h1 hk
    obtain ⟨q, rfl, _, hk⟩ := oNat_ok r0 hk
    obtain ⟨v1, c1, g1, r1, hk⟩ := oRd_ok hR h1 hk
    obtain ⟨n1, rfl, _, hk⟩ := oInt_ok r1 hk
    have hk2 : Bool.rec (motive := fun _ => Ans) kf (oEl cs q 2 (fun e2 => oKind h e2 (fun kd => Bool.rec (motive := fun _ => Ans) (oWts h cs ws m n kq kf (i + 1)) kf (isT kd)))) (Nat.ble (q + 1) m) = .yes := hk
    clear hk
    cases hb : Nat.ble (q + 1) m with
    | false => rw [hb] at hk2; exact .inl hk2
    | true =>
      rw [hb] at hk2
      obtain ⟨cb, co, m3, c3, e2, he2, hq, h2, hk3⟩ := oEl_ok (sz := 2) hc (by decide) (show oEl cs q 2 _ = .yes from hk2)
      cases he2
      obtain ⟨kd, n0, hv, hk3⟩ := oKind_ok hR h2 hk3
      cases hT : isT kd with
      | true => rw [hT] at hk3; exact .inl hk3
      | false =>
        rw [hT] at hk3
        have := isT_false hT
        subst this
        rcases ih hk3 with h4 | ⟨⟨l, hl, hq2⟩, h5⟩
        · exact .inl h4
        · refine .inr ⟨⟨(q, n1) :: l, by simp [hl], fun t ht => ?_⟩, h5⟩
          cases t with
          | zero => exact ⟨⟨_, _, rfl, g0, g1⟩, _, _, rfl, hq, n0, hv⟩
          | succ t =>
            obtain ⟨⟨b2, o2, x1, x2, x3⟩, x4⟩ := hq2 t (by omega)
            rw [show i + 1 + t = i + (t + 1) by omega] at x2 x3
            exact ⟨⟨b2, o2, x1, x2, x3⟩, x4⟩
noncomputable def oStruct (h : H) (s st : AV) (kq kf : Ans) : Ans :=
  VC.rec (motive := fun _ => Ans) .no .no .no (fun cs => List.rec (motive := fun _ => Ans) .no (fun a t _ => List.rec (motive := fun _ => Ans) .no (fun b t _ => List.rec (motive := fun _ => Ans)
    (oNat st (fun st => Bool.rec (motive := fun _ => Ans) kf (oLen a (fun n => Bool.rec (motive := fun _ => Ans) kf (oLen b (fun m => Bool.rec (motive := fun _ => Ans) kf (oVals h a st n (oWts h a b n m kq kf (nat_lit 0)) kf (nat_lit 0)) (Nat.ble m (nat_lit 1000)))) (Nat.ble n (nat_lit 100)))) (Nat.ble st (nat_lit 1000000)))) (fun _ _ _ => .no) t) t) cs) s.vC
theorem oStruct_ok {j : Inj} {h : H} {nn : Nat} {w : World} (hR : RB P j h.blk nn w) {s st : AV} {sv stv : Value} (hs : VR j s sv) (hst : VR j st stv) {kq kf : Ans} (hk : oStruct h s st kq kf = .yes) :
    kf = .yes ∨ (Calls Tryz.prog 157 #[sv, stv] w fun e w' => e = .returned (.bool true) ∧ Below w.heap.size w w') ∧ kq = .yes := by
  unfold oStruct at hk
  cases hc : s.vC with
  | agg cs =>
    rw [hc] at hk
    have hsc : s = .agg cs := by cases s <;> first | (cases hc; rfl) | cases hc
    subst hsc
    clear hc
    cases cs with
    | nil => cases hk
    | cons a t => cases t with
      | nil => cases hk
      | cons b t => cases t with
        | cons c t => cases hk
        | nil =>
          obtain ⟨st, rfl, _, hk⟩ := oNat_ok hst (show oNat st _ = .yes from hk)
          have hk2 : Bool.rec (motive := fun _ => Ans) kf (oLen a (fun n => Bool.rec (motive := fun _ => Ans) kf (oLen b (fun m => Bool.rec (motive := fun _ => Ans) kf (oVals h a st n (oWts h a b n m kq kf 0) kf 0) (Nat.ble m 1000))) (Nat.ble n 100))) (Nat.ble st 1000000) = .yes := hk
          clear hk
          cases hb : Nat.ble st 1000000 with
          | false => rw [hb] at hk2; exact .inl hk2
          | true =>
            rw [hb] at hk2
            have hst1 := Nat.le_of_ble_eq_true hb
            generalize hvl : sv = sv' at hs
            cases hs with
            | agg _ vs hvs =>
              obtain ⟨vl⟩ := vs
              cases hvs with
              | cons _ _ av _ ha hvs =>
                cases hvs with
                | cons _ _ bv _ hbv hn =>
                  cases hn
                  obtain ⟨cp, n, cc, rfl, hk3⟩ := oLen_ok ha (show oLen a _ = .yes from hk2)
                  cases hb2 : Nat.ble n 100 with
                  | false => rw [hb2] at hk3; exact .inl hk3
                  | true =>
                    rw [hb2] at hk3
                    obtain ⟨wp, m, wc, rfl, hk4⟩ := oLen_ok hbv (show oLen b _ = .yes from hk3)
                    cases hb3 : Nat.ble m 1000 with
                    | false => rw [hb3] at hk4; exact .inl hk4
                    | true =>
                      rw [hb3] at hk4
                      have hn1 := Nat.le_of_ble_eq_true hb2
                      have hm1 := Nat.le_of_ble_eq_true hb3
                      rcases oVals_ok hR ha (show oVals h a st n _ kf 0 = .yes from hk4) with h0 | ⟨⟨l, hl, hq⟩, hk5⟩
                      · exact .inl h0
                      · rcases oWts_ok hR ha hbv hk5 with h0 | ⟨⟨r, hr, hq2⟩, hk6⟩
                        · exact .inl h0
                        · subst hl
                          subst hr
                          refine .inr ⟨?_, hk6⟩
                          subst hvl
                          refine isStruct_t (st := (st : Int)) (by omega) (by omega) (l := l) (r := r) ⟨cp, cc, rfl, fun h0 => ?_⟩ hn1 (fun i hi => (hq i hi).2) ⟨wp, wc, rfl, fun h0 => ?_⟩ hm1 (fun i hi => (hq2 i hi).2)
                          · obtain ⟨⟨b1, o1, e1, _⟩, _⟩ := hq 0 (List.length_pos_iff.2 h0)
                            refine ⟨b1, o1, e1, fun i hi => ?_⟩
                            obtain ⟨⟨b2, o2, e2, e3⟩, _⟩ := hq i hi
                            rw [e1] at e2; cases e2
                            rw [Nat.zero_add] at e3; exact e3
                          · obtain ⟨⟨b1, o1, e1, _⟩, _⟩ := hq2 0 (List.length_pos_iff.2 h0)
                            refine ⟨b1, o1, e1, fun i hi => ?_⟩
                            obtain ⟨⟨b2, o2, e2, e3, e4⟩, _⟩ := hq2 i hi
                            rw [e1] at e2; cases e2
                            rw [Nat.zero_add] at e3 e4; exact ⟨e3, e4⟩
  | _ => rw [hc] at hk; cases hk
end Go.Ev
namespace Go.Ev
open Go.RowKit Go.Proofs.Cl Go.Proofs
variable {P : Env} {α : Type}
theorem OrcR.both {ok1 ok2 : OrcK} {o1 o2 : Orc} (h1 : OrcR ok1 o1) (h2 : OrcR ok2 o2) : OrcR (fun f args h k r => ok1 f args h k (ok2 f args h k r)) (orcBoth o1 o2) := by
  intro f args h k r hr
  unfold orcBoth
  rcases h1 f args h k _ hr with ⟨v, h', e, hk⟩ | ⟨e, hr⟩
  · rw [e]; exact .inl ⟨v, h', rfl, hk⟩
  · rw [e]; exact h2 f args h k r hr
theorem sh_len (s : AV) : Shape (oLen s) := by
  unfold oLen
  exact Shape.bool (isNl s) (sh_ln s) (.pure _)
theorem sh_okv (v : AV) (kd : Int) (st : Nat) {F G : (α → Ans) → Ans} (hF : Shape F) (hG : Shape G) : Shape (fun k => oOkV v kd st (F k) (G k)) := by
  unfold oOkV
  cases vZ v with
  | no => exact .no
  | int n => exact Shape.bool (okVB kd n st) hG hF
  | sym c => exact Shape.bool (ibeq kd (.ofNat (nat_lit 1))) hG hF
theorem sh_vals (h : H) (s : AV) (st : Nat) {F G : (α → Ans) → Ans} (hF : Shape F) (hG : Shape G) (n : Nat) : ∀ i, Shape (fun k => oVals h s st n (F k) (G k) i) := by
  induction n with
  | zero => intro i; exact hF
  | succ n ih =>
    intro i
    simp only [oVals_succ]
    exact (sh_el s i _).bind fun e => (sh_rd h e _).bind fun kd => (sh_u8 kd).bind fun kd => (sh_rd h e _).bind fun nn => sh_okv nn kd st (ih _) hG
theorem sh_wts (h : H) (cs ws : AV) (m : Nat) {F G : (α → Ans) → Ans} (hF : Shape F) (hG : Shape G) (n : Nat) : ∀ i, Shape (fun k => oWts h cs ws m n (F k) (G k) i) := by
  induction n with
  | zero => intro i; exact hF
  | succ n ih =>
    intro i
    simp only [oWts_succ]
    exact (sh_el ws i _).bind fun e => (sh_rd h e _).bind fun q => (sh_nat q).bind fun q => (sh_rd h e _).bind fun rd => (sh_int rd).bind fun _ => Shape.bool (Nat.ble (Nat.succ q) m) hG ((sh_el cs q _).bind fun e2 => (sh_kind h e2).bind fun kd => Shape.bool (isT kd) (ih _) hG)
theorem sh_struct (h : H) (s st : AV) : Shape (fun (k : Bool → Ans) => oStruct h s st (k true) (k false)) := by
  unfold oStruct
  cases s.vC with
  | agg cs =>
    cases cs with
    | nil => exact .no
    | cons a t => cases t with
      | nil => exact .no
      | cons b t => cases t with
        | cons c t => exact .no
        | nil =>
          refine (sh_nat st).bind fun st => Shape.bool (Nat.ble st (nat_lit 1000000)) (.pure false) ((sh_len a).bind fun n => Shape.bool (Nat.ble n (nat_lit 100)) (.pure false) ((sh_len b).bind fun m => Shape.bool (Nat.ble m (nat_lit 1000)) (.pure false) ?_))
          exact sh_vals h a st (sh_wts h a b n (.pure true) (.pure false) m _) (.pure false) n _
  | _ => exact .no
noncomputable def structA (args : List AV) (h : H) (k : AV → H → Ans) (r : Ans) : Ans := List.rec (motive := fun _ => Ans) .no (fun x t _ => List.rec (motive := fun _ => Ans) .no (fun i t _ => List.rec (motive := fun _ => Ans) (oStruct h x i (k (.bool true) h) r) (fun _ _ _ => .no) t) t) args
noncomputable def okT : OrcK := fun f args h k r => Bool.rec (motive := fun _ => Ans) r (structA args h k r) (Nat.beq f 157)
open Classical in
noncomputable def orcT : Orc := fun f args h => if f = 157 then (match args with
    | [x, i] => if oStruct h x i .yes .no = .yes then some (.bool true, h) else none
    | _ => none) else none
theorem okT_rel : OrcR okT orcT := by
  intro f args h k r hr
  unfold okT at hr
  unfold orcT
  by_cases h3 : f = 157
  · subst h3
    rw [if_pos rfl]
    have hr : structA args h k r = .yes := hr
    cases args with
    | nil => cases hr
    | cons x t => cases t with
      | nil => cases hr
      | cons i t => cases t with
        | cons y t => cases hr
        | nil =>
          have hr : oStruct h x i (k (.bool true) h) r = .yes := hr
          rcases sh_struct h x i with hs | ⟨a, hs⟩
          · have e : oStruct h x i (k (.bool true) h) r = .no := hs (fun b => Bool.rec r (k (.bool true) h) b)
            rw [hr] at e; cases e
          · have g1 := hs (fun b => Bool.rec r (k (.bool true) h) b)
            have g2 := hs (fun b => Bool.rec .no .yes b)
            cases a with
            | true =>
              have g2 : oStruct h x i .yes .no = .yes := g2
              have g1 : oStruct h x i (k (.bool true) h) r = k (.bool true) h := g1
              simp only [if_pos g2]
              exact .inl ⟨_, _, rfl, by rw [← g1]; exact hr⟩
            | false =>
              have g2 : oStruct h x i .yes .no = .no := g2
              have g1 : oStruct h x i (k (.bool true) h) r = r := g1
              exact .inr ⟨by simp [g2], by rw [← g1]; exact hr⟩
  · have e3 : Nat.beq f 157 = false := by cases hb : Nat.beq f 157 with | false => rfl | true => exact absurd (Nat.eq_of_beq_eq_true hb) h3
    rw [if_neg h3]
    rw [e3] at hr
    exact .inr ⟨rfl, hr⟩
theorem known_struct (hP : P.toProgram = Tryz.prog) (hent : ∀ vs w, (callFunc 157 vs).run P.toProgram w = .ok (.enter 157 vs) w) {x i : AV} {h : H} (hL : oStruct h x i .yes .no = .yes) : Known P 157 [x, i] h (.bool true) h := by
  intro w j hR vs hvs
  refine ⟨hent _ _, fun n => enters_calls ?_ n⟩
  obtain ⟨vl⟩ := vs
  cases hvs with
  | cons _ _ xv _ hx hn =>
    cases hn with
    | cons _ _ iv _ hi hn =>
      cases hn
      rcases oStruct_ok hR hx hi hL with h0 | ⟨hc, _⟩
      · cases h0
      · rw [hP]
        refine hc.mono ?_
        rintro e w' ⟨he, hB⟩
        obtain ⟨r1, r2⟩ := rb_below hR hB
        exact ⟨Nat.le_refl _, _, he, j, .bool true, r1, r2⟩
theorem orcT_ok (hP : P.toProgram = Tryz.prog) (e1 : ∀ vs w, (callFunc 157 vs).run P.toProgram w = .ok (.enter 157 vs) w) : OrcOk P orcT := by
  intro f args h v h' hr
  unfold orcT at hr
  by_cases h3 : f = 157
  · subst h3
    rw [if_pos rfl] at hr
    split at hr
    · rename_i x i
      split at hr
      · rename_i hx
        cases hr
        exact known_struct hP e1 hx
      · cases hr
    · cases hr
  · rw [if_neg h3] at hr; cases hr
/-- the four of them -/
noncomputable def okCT : OrcK := fun f args h k r =>
  Bool.rec (motive := fun _ => Ans) (Bool.rec (motive := fun _ => Ans) (Bool.rec (motive := fun _ => Ans) (Bool.rec (motive := fun _ => Ans) r (structA args h k r) (Nat.beq f 157)) (handA args h k (Bool.rec (motive := fun _ => Ans) r (structA args h k r) (Nat.beq f 157))) (Nat.beq f 150)) (mergeA args h k) (Nat.beq f 151)) (readyA args h k) (Nat.beq f 98)
theorem okCT_rel : OrcR okCT (orcBoth orcC orcT) := okC_rel.both okT_rel
end Go.Ev
namespace Go.Ev
open Go.RowKit Go.Proofs.Cl Go.Proofs
set_option maxRecDepth 100000
noncomputable def okV : OrcK :=
  letI oNth : Nat → List AV → (AV → Ans) → Ans := fun i => Nat.rec (motive := fun _ => List AV → (AV → Ans) → Ans) (fun xs k => List.rec (motive := fun _ => Ans) .no (fun x _ _ => k x) xs) (fun _ ih xs k => List.rec (motive := fun _ => Ans) .no (fun _ t _ => ih t k) xs) i
  letI oRd : H → AV → Nat → (AV → Ans) → Ans := fun h p i k => VP.rec (motive := fun _ => Ans) .no (fun f o => (fun (o : Nat) => H.rec (motive := fun _ => Ans) (fun _ m => WK.rec (motive := fun _ => Ans) (fun get _ _ => get m (fun b => VK.rec (motive := fun _ => Ans) .no (fun c lo hi _ _ => Bool.rec (motive := fun _ => Ans) .no (Bool.rec (motive := fun _ => Ans) .no (WK.rec (motive := fun _ => Ans) (fun get _ _ => get c k) (wayKv o : WK AV (L10 AV))) (Nat.ble (Nat.succ o) hi)) (Nat.ble lo o)) b.vK)) (ackb10 f : WK Blk (L10 Blk))) h) (Nat.add o i)) (fun cs => Nat.rec (motive := fun _ => List AV → Ans) (fun xs => List.rec (motive := fun _ => Ans) .no (fun x _ _ => k x) xs) (fun _ ih xs => List.rec (motive := fun _ => Ans) .no (fun _ t _ => ih t) xs) i cs) p.vP
  letI oEl : AV → (Nat) → (Nat) → (AV → Ans) → Ans := fun s i sz k => VX.rec (motive := fun _ => Ans) .no (fun f o len sz' => Bool.rec (motive := fun _ => Ans) .no (Bool.rec (motive := fun _ => Ans) .no (k (.ptr f (Nat.add o (Nat.mul i sz)))) (Nat.ble (Nat.succ i) len)) (Nat.beq sz sz'))
    (fun xs => oNth i xs (fun x => VC.rec (motive := fun _ => Ans) .no .no (Bool.rec (motive := fun _ => Ans) .no (k (.lp [x])) (Nat.beq sz (nat_lit 1))) (fun cs => Bool.rec (motive := fun _ => Ans) .no (k (.lp cs)) (Nat.beq (lenF cs) sz)) x.vC)) s.vX
  letI oLn : AV → (Nat → Ans) → Ans := fun s k => VX.rec (motive := fun _ => Ans) .no (fun _ _ len _ => k len) (fun xs => k (lenF xs)) s.vX
  letI oInt : AV → (Int → Ans) → Ans := fun v k => VI.rec (motive := fun _ => Ans) .no (fun kd n => IntKind.rec (motive := fun _ => Ans) .no .no .no (k n) .no .no .no .no kd) v.vI
  letI oU8 : AV → (Int → Ans) → Ans := fun v k => VI.rec (motive := fun _ => Ans) .no (fun kd n => IntKind.rec (motive := fun _ => Ans) .no .no .no .no (k n) .no .no .no kd) v.vI
  letI oNat : AV → (Nat → Ans) → Ans := fun v k => oInt v (fun n => Int.rec (motive := fun _ => Ans) k (fun _ => .no) n)
  letI oFr : List AV → (Nat → Ans) → (Nat → Nat → Ans) → Ans := fun cs kp ko => List.rec (motive := fun _ => Ans) .no (fun a t _ => List.rec (motive := fun _ => Ans) .no (fun b t2 _ => List.rec (motive := fun _ => Ans) (oInt a (fun a => oNat b (fun q => Int.rec (motive := fun _ => Ans) (fun a => ko a q) (fun a => Bool.rec (motive := fun _ => Ans) .no (kp q) (Nat.beq a (nat_lit 0))) a))) (fun _ _ _ => .no) t2) t) cs
  letI oZ : AV → Ans → Ans := fun v k => VZ.rec (motive := fun _ => Ans) .no (fun _ => k) (fun _ => k) (vZ v)
  letI oKind : H → AV → (Int → Ans) → Ans := fun h e k => oRd h e (nat_lit 0) (fun kd => oU8 kd (fun kd => oRd h e (nat_lit 1) (fun n => oZ n (k kd))))
  letI oPar : H → AV → Nat → (Int → Ans) → Ans := fun h c q k => oRd h c (nat_lit 4) (fun s => oEl s q (nat_lit 2) (fun e => oKind h e k))
  letI oOut : H → AV → (Nat) → (Nat) → (Int → Ans) → Ans := fun h c a q k => oRd h c (nat_lit 5) (fun s => oEl s a (nat_lit 1) (fun p => oRd h p (nat_lit 0) (fun s => oEl s q (nat_lit 2) (fun e => oKind h e k))))
  letI oThere : H → AV → List AV → (List Bool → Ans) → Ans := fun h c xs => List.rec (motive := fun _ => (List Bool → Ans) → Ans) (fun k => k []) (fun x _ ih k => VC.rec (motive := fun _ => Ans) .no .no .no (fun cs => oFr cs (fun q => oPar h c q (fun kd => ih (fun l => k (isT kd :: l)))) (fun a q => oOut h c a q (fun kd => ih (fun l => k (isT kd :: l))))) x.vC) xs
  letI oNode : AV → (Int → List AV → Ans) → Ans := fun x k => VC.rec (motive := fun _ => Ans) .no .no .no (fun cs => List.rec (motive := fun _ => Ans) .no (fun a t _ => List.rec (motive := fun _ => Ans) .no (fun b t _ => List.rec (motive := fun _ => Ans) .no (fun c t _ => List.rec (motive := fun _ => Ans) .no (fun d t _ => List.rec (motive := fun _ => Ans)
    (oU8 a (fun op => VS.rec (motive := fun _ => Ans) .no (fun _ => oInt c (fun _ => VX.rec (motive := fun _ => Ans) .no (fun _ _ _ _ => .no) (fun fs => k op fs) d.vX)) b.vS)) (fun _ _ _ => .no) t) t) t) t) cs) x.vC
  letI oRdy1 : Int → List Bool → (Bool → Ans) → Ans := fun op l k => Bool.rec (motive := fun _ => Ans) .no (Int.rec (motive := fun _ => Ans) (fun m => Bool.rec (motive := fun _ => Ans) (Bool.rec (motive := fun _ => Ans) (Bool.rec (motive := fun _ => Ans) (k (allB l)) (k (anyB l)) (Nat.beq m (nat_lit 6))) (List.rec (motive := fun _ => Ans) .no (fun b _ _ => k b) l) (Nat.beq m (nat_lit 9))) (List.rec (motive := fun _ => Ans) .no (fun b _ _ => k b) l) (Nat.beq m (nat_lit 8))) (fun _ => .no) op) (Nat.ble (lenF l) (nat_lit 1000))
  letI spotA : (Nat) → (Nat) → AV := fun i m => .agg [.int .i64 (.ofNat i), .int .i64 (.ofNat m)]
  letI oNodes : H → (AV) → (AV) → Nat → List AV → Nat → (List AV → Ans) → Ans := fun h c fired i xs => List.rec (motive := fun _ => Nat → (List AV → Ans) → Ans) (fun _ k => k []) (fun x _ ih m k => oNode x (fun op fs => oEl fired m (nat_lit 1) (fun p => oRd h p (nat_lit 0) (fun r => oInt r (fun r =>
    Bool.rec (motive := fun _ => Ans) (oThere h c fs (fun l => oRdy1 op l (fun b => Bool.rec (motive := fun _ => Ans) (tick (ih (Nat.succ m) k)) (tick (ih (Nat.succ m) (fun l => k (spotA i m :: l)))) b))) (tick (ih (Nat.succ m) k)) (posB r)))))) xs
  letI oCtxs : H → (AV) → (AV) → Nat → Nat → (List AV → Ans) → Ans := fun h cs bl n => Nat.rec (motive := fun _ => Nat → (List AV → Ans) → Ans) (fun _ k => k []) (fun _ ih i k => oEl cs i (nat_lit 1) (fun p => oRd h p (nat_lit 0) (fun c => oRd h c (nat_lit 0) (fun b => oNat b (fun bi => oEl bl bi (nat_lit 5) (fun q => oRd h q (nat_lit 2) (fun nodes =>
    VX.rec (motive := fun _ => Ans) .no (fun _ _ _ _ => .no) (fun xs => oRd h c (nat_lit 6) (fun fired => oLn fired (fun nf => Bool.rec (motive := fun _ => Ans) .no (Bool.rec (motive := fun _ => Ans) .no
      (oNodes h c fired i xs (nat_lit 0) (fun l => (tick (ih (Nat.succ i) (fun l2 => k (appF l l2)))))) (Nat.ble nf (nat_lit 400))) (Nat.beq nf (lenF xs))))) nodes.vX))))))) n
  letI oReady : H → AV → (AV → H → Ans) → Ans := fun h x k => oRd h x (nat_lit 2) (fun cs => oRd h x (nat_lit 0) (fun bl => oEl cs (nat_lit 0) (nat_lit 1) (fun _ => oEl bl (nat_lit 0) (nat_lit 5) (fun _ => oLn cs (fun n => Bool.rec (motive := fun _ => Ans) .no (oCtxs h cs bl n (nat_lit 0) (fun l => k (.lst none l) h)) (Nat.ble n (nat_lit 400)))))))
  letI oMnodes : H → AV → List AV → Ans → Ans := fun h c xs k => List.rec (motive := fun _ => Ans) k (fun x _ ih => oNode x (fun op fs => Int.rec (motive := fun _ => Ans) (fun m => Bool.rec (motive := fun _ => Ans) (tick ih) (oThere h c fs (fun l => not2 l (tick ih))) (Nat.beq m (nat_lit 6))) (fun _ => tick ih) op)) xs
  letI oMctx : H → (AV) → (AV) → Nat → Nat → Ans → Ans := fun h cs bl n => Nat.rec (motive := fun _ => Nat → Ans → Ans) (fun _ k => k) (fun _ ih i k => oEl cs i (nat_lit 1) (fun p => oRd h p (nat_lit 0) (fun c => oRd h c (nat_lit 0) (fun b => oNat b (fun bi => oEl bl bi (nat_lit 5) (fun q => oRd h q (nat_lit 2) (fun nodes =>
    VX.rec (motive := fun _ => Ans) .no (fun _ _ _ _ => .no) (fun xs => Bool.rec (motive := fun _ => Ans) .no (oMnodes h c xs (tick (ih (Nat.succ i) k))) (Nat.ble (lenF xs) (nat_lit 400))) nodes.vX))))))) n
  letI oMerge : H → AV → (AV → H → Ans) → Ans := fun h x k => oRd h x (nat_lit 2) (fun cs => oRd h x (nat_lit 0) (fun bl => oEl cs (nat_lit 0) (nat_lit 1) (fun _ => oEl bl (nat_lit 0) (nat_lit 5) (fun _ => oLn cs (fun n => Bool.rec (motive := fun _ => Ans) .no (oMctx h cs bl n (nat_lit 0) (k (.int .i64 (.ofNat (nat_lit 0))) h)) (Nat.ble n (nat_lit 400)))))))
  letI oKd : H → (AV) → (AV) → (Int → Ans) → Ans := fun h c x k => VC.rec (motive := fun _ => Ans) .no .no .no (fun cs => oFr cs (fun q => oPar h c q k) (fun a q => oOut h c a q k)) x.vC
  letI oGive : H → (AV) → (AV) → List AV → (Ans) → (Ans) → Nat → Ans := fun h ab c xs k kf => List.rec (motive := fun _ => Nat → Ans) (fun _ => k) (fun x _ ih i => oKd h ab x (fun kd => Bool.rec (motive := fun _ => Ans) (tick (ih (Nat.succ i))) (oPar h c i (fun k2 => Bool.rec (motive := fun _ => Ans) kf (tick (ih (Nat.succ i))) (isT k2))) (isT kd))) xs
  letI oGiven : H → AV → (Nat) → (Nat) → Int → (Ans) → (Ans) → Ans := fun h ab nd i t k kf => oRd h ab (nat_lit 8) (fun s => oEl s nd (nat_lit 1) (fun p => oRd h p (nat_lit 0) (fun s => oEl s i (nat_lit 3) (fun e => oRd h e (nat_lit 0) (fun t2 => oInt t2 (fun t2 => oRd h e (nat_lit 1) (fun nx => oRd h e (nat_lit 2) (fun is =>
    VB.rec (motive := fun _ => Ans) .no (fun nx => VB.rec (motive := fun _ => Ans) .no (fun is => Bool.rec (motive := fun _ => Ans) (Bool.rec (motive := fun _ => Ans) kf (Bool.rec (motive := fun _ => Ans) kf k (ibeq t2 t)) is) kf nx) is.vB) nx.vB))))))))
  letI oExits : H → (AV) → (AV) → Nat → Int → List AV → (Ans) → (Ans) → Nat → Ans := fun h ab c nd t xs k kf => List.rec (motive := fun _ => Nat → Ans) (fun _ => k) (fun x _ ih i => oKd h c x (fun kd => Bool.rec (motive := fun _ => Ans) (tick (ih (Nat.succ i))) (oGiven h ab nd i t (tick (ih (Nat.succ i))) kf) (isT kd))) xs
  letI oLst : AV → (List AV → Ans) → Ans := fun s k => VX.rec (motive := fun _ => Ans) .no (fun _ _ _ _ => .no) (fun xs => Bool.rec (motive := fun _ => Ans) .no (k xs) (Nat.ble (lenF xs) (nat_lit 1000))) s.vX
  letI oStr : AV → Ans → Ans := fun s k => VS.rec (motive := fun _ => Ans) .no (fun _ => k) s.vS
  letI oTurn : H → (AV) → (AV) → List AV → AV → (Ans) → (Ans) → Ans := fun h cs c nxs x0 kq kf => oKd h c x0 (fun kd => Bool.rec (motive := fun _ => Ans) kf (Bool.rec (motive := fun _ => Ans) (oRd h c (nat_lit 7) (fun nv => oInt nv (fun nv => Int.rec (motive := fun _ => Ans) (fun t => oEl cs t (nat_lit 1) (fun p => oRd h p (nat_lit 0) (fun tc => oRd h tc (nat_lit 0) (fun _ => oGive h c tc nxs kq kf (nat_lit 0))))) (fun _ => kf) nv))) kf (ibeq kd (.ofNat (nat_lit 5)))) (isT kd))
  letI oNext : H → (AV) → (AV) → (AV) → (AV) → (Ans) → (Ans) → Ans := fun h cs c q nx kq kf => oLst nx (fun nxs => List.rec (motive := fun _ => Ans) kq (fun x0 _ _ => oRd h q (nat_lit 0) (fun nm => oStr nm (oRd h q (nat_lit 1) (fun pr => oInt pr (fun _ => oRd h q (nat_lit 2) (fun ns => oLst ns (fun _ => oThere h c nxs (fun l => List.rec (motive := fun _ => Ans) .no (fun b _ _ => Bool.rec (motive := fun _ => Ans) kq (oTurn h cs c nxs x0 kq kf) b) l)))))))) nxs)
  letI oArgs : H → (AV) → (AV) → (AV) → Nat → Int → (Ans) → (Ans) → Ans := fun h bl ab c nd t k kf => Bool.rec (motive := fun _ => Ans) (oRd h ab (nat_lit 0) (fun b2 => oNat b2 (fun bi2 => oEl bl bi2 (nat_lit 5) (fun q2 => oRd h q2 (nat_lit 2) (fun nodes => oLst nodes (fun ns => oNth nd ns (fun x => oNode x (fun _ fs => Bool.rec (motive := fun _ => Ans) .no (oGive h ab c fs k kf (nat_lit 0)) (Nat.ble (lenF fs) (nat_lit 1000)))))))))) k (posB t)
  letI oHandIn : H → (AV) → (AV) → (AV) → (AV) → (AV) → Nat → (Ans) → (Ans) → Ans := fun h cs bl c q nx pa kq kf => oEl cs pa (nat_lit 1) (fun p2 => oRd h p2 (nat_lit 0) (fun ab => oRd h ab (nat_lit 0) (fun _ => oRd h c (nat_lit 2) (fun nd => oNat nd (fun nd => oRd h c (nat_lit 3) (fun tt => oInt tt (fun t => oRd h q (nat_lit 4) (fun ex => oLst ex (fun exs =>
    oExits h ab c nd t exs (oArgs h bl ab c nd t (oNext h cs c q nx kq kf) kf) kf (nat_lit 0))))))))))
  letI oHandOn : H → (AV) → (AV) → (Ans) → (Ans) → Ans := fun h x i kq kf => oRd h x (nat_lit 2) (fun cs => oRd h x (nat_lit 0) (fun bl => oNat i (fun i => oEl cs i (nat_lit 1) (fun p => oRd h p (nat_lit 0) (fun c => oRd h c (nat_lit 1) (fun par => oInt par (fun par => oRd h c (nat_lit 0) (fun b => oNat b (fun bi => oEl bl bi (nat_lit 5) (fun q => oRd h q (nat_lit 3) (fun nx =>
    Int.rec (motive := fun _ => Ans) (fun pa => oHandIn h cs bl c q nx pa kq kf) (fun a => Bool.rec (motive := fun _ => Ans) .no (oLst nx (fun _ => kq)) (Nat.beq a (nat_lit 0))) par)))))))))))
  letI oLen : AV → (Nat → Ans) → Ans := fun s k => Bool.rec (motive := fun _ => Ans) (oLn s k) (k (nat_lit 0)) (isNl s)
  letI oOkV : AV → Int → Nat → (Ans) → (Ans) → Ans := fun v kd st k kf => VZ.rec (motive := fun _ => Ans) .no (fun n => Bool.rec (motive := fun _ => Ans) kf k (okVB kd n st)) (fun _ => Bool.rec (motive := fun _ => Ans) kf k (ibeq kd (.ofNat (nat_lit 1)))) (vZ v)
  letI oVals : H → AV → Nat → Nat → (Ans) → (Ans) → Nat → Ans := fun h s st n kq kf => Nat.rec (motive := fun _ => Nat → Ans) (fun _ => kq) (fun _ ih i => oEl s i (nat_lit 2) (fun e => oRd h e (nat_lit 0) (fun kd => oU8 kd (fun kd => oRd h e (nat_lit 1) (fun nn => oOkV nn kd st (tick (ih (Nat.succ i))) kf))))) n
  letI oWts : H → (AV) → (AV) → Nat → Nat → (Ans) → (Ans) → Nat → Ans := fun h cs ws m n kq kf => Nat.rec (motive := fun _ => Nat → Ans) (fun _ => kq) (fun _ ih i => oEl ws i (nat_lit 2) (fun e => oRd h e (nat_lit 0) (fun q => oNat q (fun q => oRd h e (nat_lit 1) (fun rd => oInt rd (fun _ => Bool.rec (motive := fun _ => Ans) kf (oEl cs q (nat_lit 2) (fun e2 => oKind h e2 (fun kd => Bool.rec (motive := fun _ => Ans) (tick (ih (Nat.succ i))) kf (isT kd)))) (Nat.ble (Nat.succ q) m))))))) n
  letI oStruct : H → (AV) → (AV) → (Ans) → (Ans) → Ans := fun h s st kq kf => VC.rec (motive := fun _ => Ans) .no .no .no (fun cs => List.rec (motive := fun _ => Ans) .no (fun a t _ => List.rec (motive := fun _ => Ans) .no (fun b t _ => List.rec (motive := fun _ => Ans)
    (oNat st (fun st => Bool.rec (motive := fun _ => Ans) kf (oLen a (fun n => Bool.rec (motive := fun _ => Ans) kf (oLen b (fun m => Bool.rec (motive := fun _ => Ans) kf (oVals h a st n (oWts h a b n m kq kf (nat_lit 0)) kf (nat_lit 0)) (Nat.ble m (nat_lit 1000)))) (Nat.ble n (nat_lit 100)))) (Nat.ble st (nat_lit 1000000)))) (fun _ _ _ => .no) t) t) cs) s.vC
  letI readyA : List AV → H → (AV → H → Ans) → Ans := fun args h k => List.rec (motive := fun _ => Ans) .no (fun x t _ => List.rec (motive := fun _ => Ans) (oReady h x k) (fun _ _ _ => .no) t) args
  letI mergeA : List AV → H → (AV → H → Ans) → Ans := fun args h k => List.rec (motive := fun _ => Ans) .no (fun x t _ => List.rec (motive := fun _ => Ans) (oMerge h x k) (fun _ _ _ => .no) t) args
  letI handA : List AV → H → (AV → H → Ans) → Ans → Ans := fun args h k r => List.rec (motive := fun _ => Ans) .no (fun x t _ => List.rec (motive := fun _ => Ans) .no (fun i t _ => List.rec (motive := fun _ => Ans) (oHandOn h x i (k tupQ h) r) (fun _ _ _ => .no) t) t) args
  letI structA : List AV → H → (AV → H → Ans) → Ans → Ans := fun args h k r => List.rec (motive := fun _ => Ans) .no (fun x t _ => List.rec (motive := fun _ => Ans) .no (fun i t _ => List.rec (motive := fun _ => Ans) (oStruct h x i (k (.bool true) h) r) (fun _ _ _ => .no) t) t) args
  fun f args h k r =>
  Bool.rec (motive := fun _ => Ans) (Bool.rec (motive := fun _ => Ans) (Bool.rec (motive := fun _ => Ans) (Bool.rec (motive := fun _ => Ans) r (structA args h k r) (Nat.beq f 157)) (handA args h k (Bool.rec (motive := fun _ => Ans) r (structA args h k r) (Nat.beq f 157))) (Nat.beq f 150)) (mergeA args h k) (Nat.beq f 151)) (readyA args h k) (Nat.beq f 98)
theorem okV_eq : okV = okCT := by kernel_rfl
end Go.Ev
namespace Go.Ev
open Go.RowKit Go.Proofs.Cl Go.Proofs
variable {P : Env}
/-- is the only argument an integer of the language that is not known? -/
noncomputable def symArgs (args : List AV) : Bool :=
  List.rec (motive := fun _ => Bool) false (fun x t _ => List.rec (motive := fun _ => Bool) (VC.rec (motive := fun _ => Bool) false false false (fun cs => List.rec (motive := fun _ => Bool) false (fun a t _ => List.rec (motive := fun _ => Bool) false (fun b t _ => List.rec (motive := fun _ => Bool)
    (VZ.rec (motive := fun _ => Bool) false (fun _ => false) (fun _ => VI.rec (motive := fun _ => Bool) false (fun kd n => IntKind.rec (motive := fun _ => Bool) false false false false (ibeq n (.ofNat (nat_lit 1))) false false false kd) a.vI) (vZ b)) (fun _ _ _ => false) t) t) cs) x.vC) (fun _ _ _ => false) t) args
theorem vZ_sym {v : AV} {c : Nat} (h : vZ v = .sym c) : v = .sym c := by
  cases v with
  | int kd n => cases kd <;> cases h
  | sym d => cases h; rfl
  | _ => cases h
theorem symArgs_ok {args : List AV} (h : symArgs args = true) : ∃ c, args = [.agg [.int .u8 1, .sym c]] := by
  cases args with
  | nil => cases h
  | cons x t => cases t with
    | cons y t => cases h
    | nil =>
      cases x with
      | agg cs =>
        cases cs with
        | nil => cases h
        | cons a t => cases t with
          | nil => cases h
          | cons b t => cases t with
            | cons d t => cases h
            | nil =>
              have h : VZ.rec (motive := fun _ => Bool) false (fun _ => false) (fun _ => VI.rec (motive := fun _ => Bool) false (fun kd n => IntKind.rec (motive := fun _ => Bool) false false false false (ibeq n (.ofNat 1)) false false false kd) a.vI) (vZ b) = true := h
              cases hb : vZ b with
              | no => rw [hb] at h; cases h
              | int n => rw [hb] at h; cases h
              | sym c =>
                rw [hb] at h
                have := vZ_sym hb
                subst this
                cases a with
                | int kd n =>
                  cases kd <;> first | (cases h; done) | skip
                  have h : ibeq n (.ofNat 1) = true := h
                  rw [ibeq_eq] at h
                  have : n = 1 := by simpa using h
                  subst this
                  exact ⟨c, rfl⟩
                | _ => cases h
      | _ => cases h
noncomputable def okP : OrcK := fun f args h k r => Bool.rec (motive := fun _ => Ans) r (Bool.rec (motive := fun _ => Ans) r (k (.bool false) h) (symArgs args)) (Nat.beq f 294)
noncomputable def orcP : Orc := fun f args h => match Nat.beq f 294 with
  | true => match symArgs args with
    | true => some (.bool false, h)
    | false => none
  | false => none
theorem okP_rel : OrcR okP orcP := by
  intro f args h k r hr
  unfold okP at hr
  unfold orcP
  cases h1 : Nat.beq f 294 with
  | false => rw [h1] at hr; exact .inr ⟨rfl, hr⟩
  | true =>
    rw [h1] at hr
    cases h2 : symArgs args with
    | false => rw [h2] at hr; exact .inr ⟨rfl, hr⟩
    | true => rw [h2] at hr; exact .inl ⟨_, _, rfl, hr⟩
theorem orcP_ok (hP : P.toProgram = Tryz.prog) (hent : ∀ vs w, (callFunc 294 vs).run P.toProgram w = .ok (.enter 294 vs) w) : OrcOk P orcP := by
  intro f args h v h' hr
  unfold orcP at hr
  cases h1 : Nat.beq f 294 with
  | false => rw [h1] at hr; cases hr
  | true =>
    rw [h1] at hr
    cases h2 : symArgs args with
    | false => rw [h2] at hr; cases hr
    | true =>
      rw [h2] at hr
      cases hr
      obtain rfl := Nat.eq_of_beq_eq_true h1
      obtain ⟨c, rfl⟩ := symArgs_ok h2
      intro w j hR vs hvs
      refine ⟨hent _ _, fun n => enters_calls ?_ n⟩
      obtain ⟨vl⟩ := vs
      cases hvs with
      | cons _ _ xv _ hx hn =>
        cases hn
        generalize hxv : xv = xv' at hx
        cases hx with
        | agg _ vs2 hv2 =>
          obtain ⟨v2⟩ := vs2
          cases hv2 with
          | cons _ _ av _ ha hv2 =>
            cases hv2 with
            | cons _ _ bv _ hb hn =>
              cases hn
              cases ha
              cases hb
              subst hxv
              rw [hP]
              have hbd := symF_bnd j.sy.ok c
              refine (prim1_t hbd.1 hbd.2 w).mono ?_
              rintro e w' ⟨he, hB⟩
              obtain ⟨r1, r2⟩ := rb_below hR hB
              exact ⟨Nat.le_refl _, _, he, j, .bool false, r1, r2⟩
/-- the five of them -/
noncomputable def okS : OrcK := fun f args h k r => Bool.rec (motive := fun _ => Ans) (okV f args h k r) (Bool.rec (motive := fun _ => Ans) (okV f args h k r) (k (.bool false) h) (symArgs args)) (Nat.beq f 294)
theorem okS_rel : OrcR okS (orcBoth orcP (orcBoth orcC orcT)) := okP_rel.both (by rw [okV_eq]; exact okCT_rel)
end Go.Ev
