/- PROVED HERE: a part (Eve) of the tied card of LibAccepted (floodgatelaw25). CONDITIONS: those of the given row and card alone. -/
import Derived.Test.YtbelbhnfjejnmaaGreatDoorEvd
namespace Go.Ev
noncomputable section
inductive RQ where
 | ok (x:Ex) (g:RG) (h:H)
 | fail
structure BR where
 f:CallF→Nat→E→RG→H→RQ
inductive K where
 | done
 | more (f:Cx→BR)
def BR.bad:BR:=⟨fun _ _ _ _ _=>.fail⟩
def kE (k:K) (cx:Cx):BR:=K.rec ⟨fun _ _ _ g h=>.ok .norm g h⟩ (fun f=>f cx) k
structure NX where
 f:CallF→Nat→E→RG→AV→H→RQ
section
variable (base:T Nat)
inductive LO where | no | is (lc:Lc)
def lcOf (cx:Cx) (x:CA):LO:=CA.rec (fun p=>Fd.rec .no (fun lc=>.is lc) (T.fd p cx.m)) (fun v=>.is (.con v)) x
inductive MO where | no | is (x:CA)
def mvOf:CO→MO
 | .mv x=>.is x
 | _=>.no
end
variable {base:T Nat} {cx:Cx} {e:E} {g g':RG} {tm:Tm} {h h':H} {x:Ex} {call:CallF} {n:Nat}
theorem wrD_is {d:Pos} {i:Nat} (hd:T.fd d base = .is i):wrD base d=rgS i:=by unfold wrD; rw [hd]
theorem wrD_no {d:Pos} (hd:T.fd d base = .no):wrD base d=⟨fun _ g=>g⟩:=by unfold wrD; rw [hd]
theorem wanted_bool {p:Pos} {w b:Bool} (hp:(CA.t p).ev tm = .bool b):wantedA tm (some (p,w))=some (match w with | true=>b | false=>not b):=by
 rw [CA.ev_t] at hp
 unfold wantedA
 cases hq:T.get p tm with
 | none=>rw [hq] at hp; cases hp
 | some u=>rw [hq] at hp; have hp:u = .bool b:=hp; subst hp; simp only [hq]; cases w <;> rfl
theorem wanted_tup {p:Pos} {w:Bool} {vs:List AV} (hp:(CA.t p).ev tm = .tup vs):wantedA tm (some (p,w))=some false:=by
 rw [CA.ev_t] at hp
 unfold wantedA
 cases hq:T.get p tm with
 | none=>rw [hq] at hp; cases hp
 | some u=>rw [hq] at hp; have hp:u = .tup vs:=hp; subst hp; simp only [hq]
theorem cG_cases {ρ:Type} {v:AV} {z t:ρ} {a:Bool→ρ}:(v.cG z t a=z)∨((∃ vs,v = .tup vs)∧v.cG z t a=t)∨∃ b,v = .bool b∧v.cG z t a=a b:=by
 cases v <;> first | exact .inl rfl | exact .inr (.inl ⟨⟨_,rfl⟩,rfl⟩) | exact .inr (.inr ⟨_,rfl,rfl⟩)
theorem ali_spec (hb : BaseOk base) (hR : Rel base cx e g tm) {v : CA} {lc : Lc} (hl : lcOf cx v = .is lc) (d : Pos) :
    Rel base (cx.ali d lc) e ((wrD base d).f (v.ev tm) g) (T.set (v.ev tm) d tm) := by
  refine hR.ali hb d ?_
  cases v with
  | c u => cases hl; rfl
  | t p =>
    have hl : Fd.rec (motive := fun _ => LO) .no (fun lc => .is lc) (T.fd p cx.m) = .is lc := hl
    cases hq : T.fd p cx.m with
    | no => rw [hq] at hl; cases hl
    | is lc' =>
      rw [hq] at hl; cases hl
      rw [CA.ev_t]
      cases lc with
      | env l => exact hR.env p l (by rw [fd_get, hq]; rfl)
      | con u => exact hR.con p u (by rw [fd_get, hq]; rfl)
theorem mvOf_is {op:CO} {v:CA} (h:mvOf op = .is v):op = .mv v:=by
 unfold mvOf at h
 split at h
 · cases h; rfl
 · cases h
end
end Go.Ev
namespace Go.Ev
structure DB where
 f:CallF→Nat→Pos→E→RG→List H→H→T Blk→RQ
structure DN where
 f:CallF→Nat→Pos→E→RG→AV→List H→H→T Blk→RQ
noncomputable def DB.bad:DB:=⟨fun _ _ _ _ _ _ _ _=>.fail⟩
section
variable (base:T Nat)
end
variable {base:T Nat} {cx:Cx} {e:E} {g g':RG} {tm:Tm} {h h':H} {x:Ex} {call:CallF} {n:Nat} {b:Pos} {hist:List H} {cur:H} {ab:T Blk}
theorem ldSame_congr {op:CO} {tm tm':Tm} (he:∀ x∈op.reads,x.ev tm=x.ev tm') (b:Pos) (ab:T Blk) (as:List (Nat × Nat × Nat)) (v:AV):∀ (c k:Nat) (hs:List H),ldSame op tm b ab as v c k hs=ldSame op tm' b ab as v c k hs:=by
 intro c
 induction c with
 | zero=>intro k hs; cases hs <;> rfl
 | succ c ih =>
  intro k hs
  cases hs with
  | nil=>rfl
  | cons h hs =>
   unfold ldSame
   rw [reads_congr he]
   cases op.run tm' (putAs b ab k h as) with
   | val v' h'=>simp only; rw [ih]
   | call=>rfl
   | fail=>rfl
end Go.Ev
namespace Go.Ev
noncomputable def seqQ (k:K) (call:CallF) (n:Nat) (r:RQ):RQ :=
 K.rec r (fun f=>RQ.rec (fun x g h=>Ex.rec ((f cx0).f call n .nil g h) (fun id=>.ok (.exit id) g h) (.ok .ret g h) x) .fail r) k
noncomputable def isSkip (c:CC):Bool:=CC.rec false true (fun _=>false) (fun _ _ _ _=>false) (fun _ _ _ _ _=>false) (fun _ _ _=>false) (fun _ _=>false) (fun _=>false) false (fun _ _ _ _ _ _=>false) (fun _ _=>false) c
theorem runCC_mono {call:CallF}:∀ {m:Nat} {c:CC} {tm:Tm} {h:H} {x:Ex} {tm':Tm} {h':H},runCC call m c tm h = .ok x tm' h'→∀ {m':Nat},m≤m'→runCC call m' c tm h = .ok x tm' h':=by
 intro m
 induction m with
 | zero=>intro c tm h x tm' h' hr; cases hr
 | succ m ih =>
  intro c tm h x tm' h' hr m' hm
  obtain _ | m':=m'
  · omega
  have hm:m≤m':=by omega
  rw [runCC_succ] at hr ⊢
  cases c with
  | seq a b =>
   have hr:seqK (runCC call m) b (runCC call m a tm h) = .ok x tm' h':=hr
   show seqK (runCC call m') b (runCC call m' a tm h) = .ok x tm' h'
   rcases seqK_ok hr with ⟨tm1,h1,ha,hb⟩ | ⟨ha,hne⟩
   · rw [ih ha hm]; exact ih hb hm
   · rw [ih ha hm]; cases x <;> first | exact absurd rfl hne | rfl
  | cond c a b =>
   have hr:condK (runCC call m) a b tm h (c.ev tm) = .ok x tm' h':=hr
   show condK (runCC call m') a b tm h (c.ev tm) = .ok x tm' h'
   generalize c.ev tm=v at hr ⊢
   cases v <;> first | (cases hr; done) | skip
   rename_i z
   cases z
   · exact ih hr hm
   · exact ih hr hm
  | block id b =>
   have hr:blockK id (runCC call m b tm h) = .ok x tm' h':=hr
   show blockK id (runCC call m' b tm h) = .ok x tm' h'
   cases hx:runCC call m b tm h with
   | fail=>rw [hx] at hr; cases hr
   | ok e1 tm1 h1=>rw [ih hx hm,← hx]; exact hr
  | loop b =>
   have hr:seqK (runCC call m) (.loop b) (runCC call m b tm h) = .ok x tm' h':=hr
   show seqK (runCC call m') (.loop b) (runCC call m' b tm h) = .ok x tm' h'
   rcases seqK_ok hr with ⟨tm1,h1,ha,hb⟩ | ⟨ha,hne⟩
   · rw [ih ha hm]; exact ih hb hm
   · rw [ih ha hm]; cases x <;> first | exact absurd rfl hne | rfl
  | _=>exact hr
variable {base:T Nat}
def Ran (base:T Nat) (call:CallF) (n:Nat) (k:K) (c:CC) (tm:Tm) (h:H) (x:Ex) (g':RG) (h':H):Prop :=
 (∃ m tm1 h1 cx1 e1 g1,runCC call m c tm h = .ok .norm tm1 h1∧Rel base cx1 e1 g1 tm1∧(kE k cx1).f call n e1 g1 h1 = .ok x g' h') ∨
 (x≠.norm∧∃ m tm1,runCC call m c tm h = .ok x tm1 h'∧RelB base g' tm1)
theorem Ran.done {call:CallF} {n:Nat} {c:CC} {tm:Tm} {h:H} {x:Ex} {g':RG} {h':H} (hr:Ran base call n .done c tm h x g' h'):∃ m tm1,runCC call m c tm h = .ok x tm1 h'∧RelB base g' tm1:=by
 rcases hr with ⟨m,tm1,h1,cx1,e1,g1,k1,k2,k3⟩ | ⟨_,hr⟩
 · have k3:RQ.ok .norm g1 h1 = .ok x g' h':=k3
   cases k3
   exact ⟨m,tm1,k1,k2.reg⟩
 · exact hr
theorem seqQ_ok {k:K} {call:CallF} {n:Nat} {r:RQ} {x:Ex} {g':RG} {h':H} (hr:seqQ k call n r = .ok x g' h') :
 (∃ g1 h1,r = .ok .norm g1 h1∧(kE k cx0).f call n .nil g1 h1 = .ok x g' h')∨(x≠.norm∧r = .ok x g' h'):=by
 cases k with
 | done =>
  have hr:r = .ok x g' h':=hr
  cases x with
  | norm=>exact .inl ⟨g',h',hr,rfl⟩
  | exit id=>exact .inr ⟨(fun h=>by cases h),hr⟩
  | ret=>exact .inr ⟨(fun h=>by cases h),hr⟩
 | more f =>
  cases r with
  | fail=>cases hr
  | ok x1 g1 h1 =>
   cases x1 with
   | norm=>exact .inl ⟨g1,h1,rfl,hr⟩
   | exit id=>cases hr; exact .inr ⟨(fun h=>by cases h),rfl⟩
   | ret=>cases hr; exact .inr ⟨(fun h=>by cases h),rfl⟩
theorem Ran.of_seq {k:K} {call:CallF} {n:Nat} {c:CC} {tm:Tm} {h:H} {r:RQ} {x:Ex} {g':RG} {h':H} (hr:seqQ k call n r = .ok x g' h')
 (hc:∀ x1 g1 h1,r = .ok x1 g1 h1→∃ m tm1,runCC call m c tm h = .ok x1 tm1 h1∧RelB base g1 tm1):Ran base call n k c tm h x g' h':=by
 rcases seqQ_ok hr with ⟨g1,h1,q1,q2⟩ | ⟨hne,q1⟩
 · obtain ⟨m,tm1,k1,k2⟩:=hc _ _ _ q1
   exact .inl ⟨m,tm1,h1,cx0,.nil,g1,k1,Rel.zero k2,q2⟩
 · exact .inr ⟨hne,hc _ _ _ q1⟩
theorem cB_cases {ρ:Type} {v:AV} {z:ρ} {a:Bool→ρ}:(v.cB z a=z)∨∃ b,v = .bool b∧v.cB z a=a b:=by
 cases v <;> first | exact .inl rfl | exact .inr ⟨_,rfl,rfl⟩
theorem isSkip_eq {c:CC} (h:isSkip c=true):c = .skip:=by cases c <;> first | rfl | cases h
end Go.Ev
namespace Go.Ev
noncomputable section
structure Hint where
 np:Nat
 lv:List Pos
structure PQ where
 f:List AV→E→RG→(E→RG→RC)→RC
def cxN (np:Nat):Nat→Cx→Cx:=Nat.rec (fun _ cx=>cx) (fun _ ih i cx=>ih (Nat.succ i) (cx.put (Pos.ofNat i))) np
structure RsF where
 f:RG→H→VL
structure NQ where
 f:CallF→Nat→List AV→H→RC
structure SQ where
 f:(FuncId→Option CF)→CallF→Nat→List AV→H→RC
variable {base:T Nat}
theorem rgZ_junk (i:Nat):(rgW i).f .nil rgZ = .junk:=by
 match i with
 | 0 | 1 | 2 | 3 | 4 | 5 | 6 | 7 | 8 | 9 | 10 | 11 | 12 | 13 | 14 | 15=>rfl
 | n+16=>rfl
theorem RelB.zero (hb:BaseOk base):RelB base rgZ .nil:=fun p i hp=>⟨hb.lt p i hp,by rw [T.get_nil]; exact rgZ_junk i⟩
theorem cJ_ok {ρ:Type} {v:AV} {z a:ρ}:v.cJ z a=z∨(v≠.junk∧v.cJ z a=a):=by
 cases v <;> first | exact .inl rfl | exact .inr ⟨(fun h=>by cases h),rfl⟩
theorem get_of_ev {p:Pos} {tm:Tm} {v:AV} (h:(CA.t p).ev tm=v) (hv:v≠.junk):T.get p tm=some v:=by
 rw [CA.ev_t] at h
 cases hq:T.get p tm with
 | none=>rw [hq] at h; exact absurd h.symm hv
 | some u=>rw [hq] at h; have h:u=v:=h; rw [h]
variable {P:Env}
def hintF (l:List (Nat × Nat × List Nat)):T Hint :=
 List.rec .nil (fun x _ ih=>Prod.rec (fun f r=>Prod.rec (fun np lv=>T.set ⟨np,List.rec [] (fun i _ ih=>Pos.ofNat i :: ih) lv⟩ (Pos.ofNat f) ih) r) x) l
def hintOf (l:T Hint) (f:FuncId):Option Hint:=T.get (Pos.ofNat f) l
end
end Go.Ev
namespace Go.Ev
noncomputable section
inductive Ans where
 | yes
 | no
structure WK (α β:Type) where
 get:β→(α→Ans)→Ans
 set:α→β→(β→Ans)→Ans
 abs:β→Ans→Ans
def ack0 {α:Type} (p:Pos):WK α (T0 α):=⟨fun t k=>Fd.rec (motive:=fun _=>Ans) .no k (fdO (T0.get p t)),fun x t k=>k (T0.set x p t),fun t k=>Fd.rec (motive:=fun _=>Ans) k (fun _=>.no) (fdO (T0.get p t))⟩
structure WKOk {α β:Type} (W:Way α β) (K:WK α β):Prop where
 get:∀ t k,K.get t k=Fd.rec (motive:=fun _=>Ans) .no k (W.get t)
 set:∀ x t k,K.set x t k=k (W.set x t)
 abs:∀ t k,K.abs t k=Fd.rec (motive:=fun _=>Ans) k (fun _=>.no) (W.get t)
theorem ack0_ok {α:Type} (p:Pos):WKOk (acc0 p:Way α (T0 α)) (ack0 p):=⟨fun _ _=>rfl,fun _ _ _=>rfl,fun _ _=>rfl⟩
def ackS {α β:Type} (A:Pos→WK α β) (p:Pos):WK α (Nd α β) :=
 Pos.rec (motive:=fun _=>WK α (Nd α β)) ⟨fun t k=>Nd.rec (motive:=fun _=>Ans) (fun a _ _ _ _ _ _=>Fd.rec (motive:=fun _=>Ans) .no k a) t,fun x t k=>Nd.rec (motive:=fun _=>Ans) (fun _ b c d e f g=>k (.mk (.is x) b c d e f g)) t,fun t k=>Nd.rec (motive:=fun _=>Ans) (fun a _ _ _ _ _ _=>Fd.rec (motive:=fun _=>Ans) k (fun _=>.no) a) t⟩
  (fun p _=>Pos.rec (motive:=fun _=>WK α (Nd α β)) ⟨fun t k=>Nd.rec (motive:=fun _=>Ans) (fun _ b _ _ _ _ _=>Fd.rec (motive:=fun _=>Ans) .no k b) t,fun x t k=>Nd.rec (motive:=fun _=>Ans) (fun a _ c d e f g=>k (.mk a (.is x) c d e f g)) t,fun t k=>Nd.rec (motive:=fun _=>Ans) (fun _ b _ _ _ _ _=>Fd.rec (motive:=fun _=>Ans) k (fun _=>.no) b) t⟩
   (fun q _=>⟨fun t k=>Nd.rec (motive:=fun _=>Ans) (fun _ _ _ d _ _ _=>WK.rec (motive:=fun _=>Ans) (fun get _ _=>get d k) (A q)) t,fun x t k=>Nd.rec (motive:=fun _=>Ans) (fun a b c d e f g=>WK.rec (motive:=fun _=>Ans) (fun _ set _=>set x d (fun y=>k (.mk a b c y e f g))) (A q)) t,fun t k=>Nd.rec (motive:=fun _=>Ans) (fun _ _ _ d _ _ _=>WK.rec (motive:=fun _=>Ans) (fun _ _ abs=>abs d k) (A q)) t⟩)
   (fun q _=>⟨fun t k=>Nd.rec (motive:=fun _=>Ans) (fun _ _ _ _ e _ _=>WK.rec (motive:=fun _=>Ans) (fun get _ _=>get e k) (A q)) t,fun x t k=>Nd.rec (motive:=fun _=>Ans) (fun a b c d e f g=>WK.rec (motive:=fun _=>Ans) (fun _ set _=>set x e (fun y=>k (.mk a b c d y f g))) (A q)) t,fun t k=>Nd.rec (motive:=fun _=>Ans) (fun _ _ _ _ e _ _=>WK.rec (motive:=fun _=>Ans) (fun _ _ abs=>abs e k) (A q)) t⟩) p)
  (fun p _=>Pos.rec (motive:=fun _=>WK α (Nd α β)) ⟨fun t k=>Nd.rec (motive:=fun _=>Ans) (fun _ _ c _ _ _ _=>Fd.rec (motive:=fun _=>Ans) .no k c) t,fun x t k=>Nd.rec (motive:=fun _=>Ans) (fun a b _ d e f g=>k (.mk a b (.is x) d e f g)) t,fun t k=>Nd.rec (motive:=fun _=>Ans) (fun _ _ c _ _ _ _=>Fd.rec (motive:=fun _=>Ans) k (fun _=>.no) c) t⟩
   (fun q _=>⟨fun t k=>Nd.rec (motive:=fun _=>Ans) (fun _ _ _ _ _ f _=>WK.rec (motive:=fun _=>Ans) (fun get _ _=>get f k) (A q)) t,fun x t k=>Nd.rec (motive:=fun _=>Ans) (fun a b c d e f g=>WK.rec (motive:=fun _=>Ans) (fun _ set _=>set x f (fun y=>k (.mk a b c d e y g))) (A q)) t,fun t k=>Nd.rec (motive:=fun _=>Ans) (fun _ _ _ _ _ f _=>WK.rec (motive:=fun _=>Ans) (fun _ _ abs=>abs f k) (A q)) t⟩)
   (fun q _=>⟨fun t k=>Nd.rec (motive:=fun _=>Ans) (fun _ _ _ _ _ _ g=>WK.rec (motive:=fun _=>Ans) (fun get _ _=>get g k) (A q)) t,fun x t k=>Nd.rec (motive:=fun _=>Ans) (fun a b c d e f g=>WK.rec (motive:=fun _=>Ans) (fun _ set _=>set x g (fun y=>k (.mk a b c d e f y))) (A q)) t,fun t k=>Nd.rec (motive:=fun _=>Ans) (fun _ _ _ _ _ _ g=>WK.rec (motive:=fun _=>Ans) (fun _ _ abs=>abs g k) (A q)) t⟩) p) p
theorem ackS_ok {α β:Type} {W:Pos→Way α β} {A:Pos→WK α β} (hA:∀ q,WKOk (W q) (A q)) (p:Pos):WKOk (accS W p) (ackS A p):=by
 have step:∀ q (d:β) (k:α→Ans),WK.rec (motive:=fun _=>Ans) (fun get _ _=>get d k) (A q)=Fd.rec (motive:=fun _=>Ans) .no k ((W q).get d):=fun q d k=>(hA q).get d k
 have step2:∀ q (x:α) (d:β) (k:β→Ans),WK.rec (motive:=fun _=>Ans) (fun _ set _=>set x d k) (A q)=k ((W q).set x d):=fun q x d k=>(hA q).set x d k
 have step3:∀ q (d:β) (k:Ans),WK.rec (motive:=fun _=>Ans) (fun _ _ abs=>abs d k) (A q)=Fd.rec (motive:=fun _=>Ans) k (fun _=>.no) ((W q).get d):=fun q d k=>(hA q).abs d k
 cases p with
 | h=>exact ⟨fun t k=>by cases t; rfl,fun x t k=>by cases t; rfl,fun t k=>by cases t; rfl⟩
 | o p=>cases p with
  | h=>exact ⟨fun t k=>by cases t; rfl,fun x t k=>by cases t; rfl,fun t k=>by cases t; rfl⟩
  | o q=>exact ⟨fun t k=>by cases t; exact step q _ k,fun x t k=>by cases t with | mk a b c d e f g=>exact step2 q x d (fun y=>k (.mk a b c y e f g)),fun t k=>by cases t; exact step3 q _ k⟩
  | i q=>exact ⟨fun t k=>by cases t; exact step q _ k,fun x t k=>by cases t with | mk a b c d e f g=>exact step2 q x e (fun y=>k (.mk a b c d y f g)),fun t k=>by cases t; exact step3 q _ k⟩
 | i p=>cases p with
  | h=>exact ⟨fun t k=>by cases t; rfl,fun x t k=>by cases t; rfl,fun t k=>by cases t; rfl⟩
  | o q=>exact ⟨fun t k=>by cases t; exact step q _ k,fun x t k=>by cases t with | mk a b c d e f g=>exact step2 q x f (fun y=>k (.mk a b c d e y g)),fun t k=>by cases t; exact step3 q _ k⟩
  | i q=>exact ⟨fun t k=>by cases t; exact step q _ k,fun x t k=>by cases t with | mk a b c d e f g=>exact step2 q x g (fun y=>k (.mk a b c d e f y)),fun t k=>by cases t; exact step3 q _ k⟩
def ack1 {α:Type} (p:Pos):WK α (L1 α):=ackS ack0 p
theorem ack1_ok {α:Type} (p:Pos):WKOk (acc1 p:Way α (L1 α)) (ack1 p):=ackS_ok ack0_ok p
def ack2 {α:Type} (p:Pos):WK α (L2 α):=ackS ack1 p
theorem ack2_ok {α:Type} (p:Pos):WKOk (acc2 p:Way α (L2 α)) (ack2 p):=ackS_ok ack1_ok p
def ack3 {α:Type} (p:Pos):WK α (L3 α):=ackS ack2 p
theorem ack3_ok {α:Type} (p:Pos):WKOk (acc3 p:Way α (L3 α)) (ack3 p):=ackS_ok ack2_ok p
def ack4 {α:Type} (p:Pos):WK α (L4 α):=ackS ack3 p
theorem ack4_ok {α:Type} (p:Pos):WKOk (acc4 p:Way α (L4 α)) (ack4 p):=ackS_ok ack3_ok p
def ack5 {α:Type} (p:Pos):WK α (L5 α):=ackS ack4 p
theorem ack5_ok {α:Type} (p:Pos):WKOk (acc5 p:Way α (L5 α)) (ack5 p):=ackS_ok ack4_ok p
def ack6 {α:Type} (p:Pos):WK α (L6 α):=ackS ack5 p
theorem ack6_ok {α:Type} (p:Pos):WKOk (acc6 p:Way α (L6 α)) (ack6 p):=ackS_ok ack5_ok p
def ack7 {α:Type} (p:Pos):WK α (L7 α):=ackS ack6 p
theorem ack7_ok {α:Type} (p:Pos):WKOk (acc7 p:Way α (L7 α)) (ack7 p):=ackS_ok ack6_ok p
def ack8 {α:Type} (p:Pos):WK α (L8 α):=ackS ack7 p
theorem ack8_ok {α:Type} (p:Pos):WKOk (acc8 p:Way α (L8 α)) (ack8 p):=ackS_ok ack7_ok p
def ack9 {α:Type} (p:Pos):WK α (L9 α):=ackS ack8 p
theorem ack9_ok {α:Type} (p:Pos):WKOk (acc9 p:Way α (L9 α)) (ack9 p):=ackS_ok ack8_ok p
def ack10 {α:Type} (p:Pos):WK α (L10 α):=ackS ack9 p
theorem ack10_ok {α:Type} (p:Pos):WKOk (acc10 p:Way α (L10 α)) (ack10 p):=ackS_ok ack9_ok p
def ackv0 (p:Pos):WK AV (T0 AV):=⟨fun t k=>Fd.rec (motive:=fun _=>Ans) .no k (fdO (T0.get p t)),fun x t k=>k (T0.set x p t),fun t k=>Fd.rec (motive:=fun _=>Ans) k (fun _=>.no) (fdO (T0.get p t))⟩
theorem ackv0_eq (p:Pos):ackv0 p=ack0 p:=rfl
def ackv1 (p : Pos) : WK AV (L1 AV) := letI a : WK AV (L1 AV) := _; haveI h : a = ackS ackv0 p := (by unfold ackS; rfl); a
theorem ackv1_eq (p : Pos) : ackv1 p = ack1 p := congrArg (ackS · p) (funext ackv0_eq)
def ackv2 (p : Pos) : WK AV (L2 AV) := letI a : WK AV (L2 AV) := _; haveI h : a = ackS ackv1 p := (by unfold ackS; rfl); a
theorem ackv2_eq (p : Pos) : ackv2 p = ack2 p := congrArg (ackS · p) (funext ackv1_eq)
def ackv3 (p : Pos) : WK AV (L3 AV) := letI a : WK AV (L3 AV) := _; haveI h : a = ackS ackv2 p := (by unfold ackS; rfl); a
theorem ackv3_eq (p : Pos) : ackv3 p = ack3 p := congrArg (ackS · p) (funext ackv2_eq)
def ackv4 (p : Pos) : WK AV (L4 AV) := letI a : WK AV (L4 AV) := _; haveI h : a = ackS ackv3 p := (by unfold ackS; rfl); a
theorem ackv4_eq (p : Pos) : ackv4 p = ack4 p := congrArg (ackS · p) (funext ackv3_eq)
def ackv5 (p : Pos) : WK AV (L5 AV) := letI a : WK AV (L5 AV) := _; haveI h : a = ackS ackv4 p := (by unfold ackS; rfl); a
theorem ackv5_eq (p : Pos) : ackv5 p = ack5 p := congrArg (ackS · p) (funext ackv4_eq)
def ackv6 (p : Pos) : WK AV (L6 AV) := letI a : WK AV (L6 AV) := _; haveI h : a = ackS ackv5 p := (by unfold ackS; rfl); a
theorem ackv6_eq (p : Pos) : ackv6 p = ack6 p := congrArg (ackS · p) (funext ackv5_eq)
def ackv7 (p : Pos) : WK AV (L7 AV) := letI a : WK AV (L7 AV) := _; haveI h : a = ackS ackv6 p := (by unfold ackS; rfl); a
theorem ackv7_eq (p : Pos) : ackv7 p = ack7 p := congrArg (ackS · p) (funext ackv6_eq)
def ackv8 (p : Pos) : WK AV (L8 AV) := letI a : WK AV (L8 AV) := _; haveI h : a = ackS ackv7 p := (by unfold ackS; rfl); a
theorem ackv8_eq (p : Pos) : ackv8 p = ack8 p := congrArg (ackS · p) (funext ackv7_eq)
def ackv9 (p : Pos) : WK AV (L9 AV) := letI a : WK AV (L9 AV) := _; haveI h : a = ackS ackv8 p := (by unfold ackS; rfl); a
theorem ackv9_eq (p : Pos) : ackv9 p = ack9 p := congrArg (ackS · p) (funext ackv8_eq)
def ackv10 (p : Pos) : WK AV (L10 AV) := letI a : WK AV (L10 AV) := _; haveI h : a = ackS ackv9 p := (by unfold ackS; rfl); a
theorem ackv10_eq (p : Pos) : ackv10 p = ack10 p := congrArg (ackS · p) (funext ackv9_eq)
def ackb0 (p:Pos):WK Blk (T0 Blk):=⟨fun t k=>Fd.rec (motive:=fun _=>Ans) .no k (fdO (T0.get p t)),fun x t k=>k (T0.set x p t),fun t k=>Fd.rec (motive:=fun _=>Ans) k (fun _=>.no) (fdO (T0.get p t))⟩
theorem ackb0_eq (p:Pos):ackb0 p=ack0 p:=rfl
def ackb1 (p : Pos) : WK Blk (L1 Blk) := letI a : WK Blk (L1 Blk) := _; haveI h : a = ackS ackb0 p := (by unfold ackS; rfl); a
theorem ackb1_eq (p : Pos) : ackb1 p = ack1 p := congrArg (ackS · p) (funext ackb0_eq)
def ackb2 (p : Pos) : WK Blk (L2 Blk) := letI a : WK Blk (L2 Blk) := _; haveI h : a = ackS ackb1 p := (by unfold ackS; rfl); a
theorem ackb2_eq (p : Pos) : ackb2 p = ack2 p := congrArg (ackS · p) (funext ackb1_eq)
def ackb3 (p : Pos) : WK Blk (L3 Blk) := letI a : WK Blk (L3 Blk) := _; haveI h : a = ackS ackb2 p := (by unfold ackS; rfl); a
theorem ackb3_eq (p : Pos) : ackb3 p = ack3 p := congrArg (ackS · p) (funext ackb2_eq)
def ackb4 (p : Pos) : WK Blk (L4 Blk) := letI a : WK Blk (L4 Blk) := _; haveI h : a = ackS ackb3 p := (by unfold ackS; rfl); a
theorem ackb4_eq (p : Pos) : ackb4 p = ack4 p := congrArg (ackS · p) (funext ackb3_eq)
def ackb5 (p : Pos) : WK Blk (L5 Blk) := letI a : WK Blk (L5 Blk) := _; haveI h : a = ackS ackb4 p := (by unfold ackS; rfl); a
theorem ackb5_eq (p : Pos) : ackb5 p = ack5 p := congrArg (ackS · p) (funext ackb4_eq)
def ackb6 (p : Pos) : WK Blk (L6 Blk) := letI a : WK Blk (L6 Blk) := _; haveI h : a = ackS ackb5 p := (by unfold ackS; rfl); a
theorem ackb6_eq (p : Pos) : ackb6 p = ack6 p := congrArg (ackS · p) (funext ackb5_eq)
def ackb7 (p : Pos) : WK Blk (L7 Blk) := letI a : WK Blk (L7 Blk) := _; haveI h : a = ackS ackb6 p := (by unfold ackS; rfl); a
theorem ackb7_eq (p : Pos) : ackb7 p = ack7 p := congrArg (ackS · p) (funext ackb6_eq)
def ackb8 (p : Pos) : WK Blk (L8 Blk) := letI a : WK Blk (L8 Blk) := _; haveI h : a = ackS ackb7 p := (by unfold ackS; rfl); a
theorem ackb8_eq (p : Pos) : ackb8 p = ack8 p := congrArg (ackS · p) (funext ackb7_eq)
def ackb9 (p : Pos) : WK Blk (L9 Blk) := letI a : WK Blk (L9 Blk) := _; haveI h : a = ackS ackb8 p := (by unfold ackS; rfl); a
theorem ackb9_eq (p : Pos) : ackb9 p = ack9 p := congrArg (ackS · p) (funext ackb8_eq)
def ackb10 (p : Pos) : WK Blk (L10 Blk) := letI a : WK Blk (L10 Blk) := _; haveI h : a = ackS ackb9 p := (by unfold ackS; rfl); a
theorem ackb10_eq (p : Pos) : ackb10 p = ack10 p := congrArg (ackS · p) (funext ackb9_eq)
def wayKv (o:Nat):WK AV (L10 AV):=Nat.rec (motive:=fun _=>WK AV (L10 AV)) (ackv10 .h) (fun m _=>ackv10 (Pos.ofNat (Nat.succ m))) o
def getK {α:Type} (p:Pos) (t:T α) (k:α→Ans):Ans:=WK.rec (motive:=fun _=>Ans) (fun get _ _=>get t k) (ack10 p:WK α (L10 α))
def setK {α:Type} (x:α) (p:Pos) (t:T α) (k:T α→Ans):Ans:=WK.rec (motive:=fun _=>Ans) (fun _ set _=>set x t k) (ack10 p:WK α (L10 α))
def absK {α:Type} (p:Pos) (t:T α) (k:Ans):Ans:=WK.rec (motive:=fun _=>Ans) (fun _ _ abs=>abs t k) (ack10 p:WK α (L10 α))
theorem absK_eq {α:Type} (p:Pos) (t:T α) (k:Ans):absK p t k=Fd.rec (motive:=fun _=>Ans) k (fun _=>.no) (T.fd p t):=(ack10_ok p).abs t k
theorem getK_eq {α:Type} (p:Pos) (t:T α) (k:α→Ans):getK p t k=Fd.rec (motive:=fun _=>Ans) .no k (T.fd p t):=(ack10_ok p).get t k
theorem setK_eq {α:Type} (x:α) (p:Pos) (t:T α) (k:T α→Ans):setK x p t k=k (T.set x p t):=(ack10_ok p).set x t k
def wayK {α:Type} (o:Nat):WK α (L10 α):=Nat.rec (motive:=fun _=>WK α (L10 α)) (ack10 .h) (fun m _=>ack10 (Pos.ofNat (Nat.succ m))) o
theorem wayKv_eq (o:Nat):wayKv o=wayK o:=by
 cases o with
 | zero=>exact ackv10_eq .h
 | succ m=>exact ackv10_eq (Pos.ofNat (m+1))
theorem wayK_eq {α:Type} (o:Nat):(wayK o:WK α (L10 α))=ack10 (Pos.ofNat o):=by cases o <;> rfl
def getN {α:Type} (o:Nat) (t:T α) (k:α→Ans):Ans:=WK.rec (motive:=fun _=>Ans) (fun get _ _=>get t k) (wayK o:WK α (L10 α))
def setNK {α:Type} (x:α) (o:Nat) (t:T α) (k:T α→Ans):Ans:=WK.rec (motive:=fun _=>Ans) (fun _ set _=>set x t k) (wayK o:WK α (L10 α))
theorem getN_eq {α:Type} (o:Nat) (t:T α) (k:α→Ans):getN o t k=Fd.rec (motive:=fun _=>Ans) .no k (fdN o t):=by
 unfold getN; rw [wayK_eq,fdN_eq]; exact getK_eq (Pos.ofNat o) t k
theorem setNK_eq {α:Type} (x:α) (o:Nat) (t:T α) (k:T α→Ans):setNK x o t k=k (setN x o t):=by
 unfold setNK; rw [wayK_eq,setN_eq]; exact setK_eq x (Pos.ofNat o) t k
def setFromK (vs:List AV):T AV→Nat→(T AV→Ans)→Ans :=
 List.rec (motive:=fun _=>T AV→Nat→(T AV→Ans)→Ans) (fun c _ k=>k c) (fun v _ ih c o k=>setNK v o c (fun c'=>ih c' (Nat.succ o) k)) vs
theorem setFromK_eq (vs:List AV):∀ c o k,setFromK vs c o k=k (setFromF vs c o):=by
 induction vs with
 | nil=>intro c o k; rfl
 | cons v vs ih=>intro c o k; show setNK v o c (fun c'=>setFromK vs c' (Nat.succ o) k)=k (setFromF vs (setN v o c) (Nat.succ o)); rw [setNK_eq,ih]
def ldFromK (c:T AV) (n:Nat):Nat→(List AV→Ans)→Ans :=
 Nat.rec (motive:=fun _=>Nat→(List AV→Ans)→Ans) (fun _ k=>k []) (fun _ ih o k=>getN o c (fun v=>ih (Nat.succ o) (fun vs=>k (v :: vs)))) n
theorem ldFromK_eq (c:T AV) (n:Nat):∀ o k,ldFromK c n o k=VL.rec (motive:=fun _=>Ans) .no k (ldFromF c n o):=by
 induction n with
 | zero=>intro o k; rfl
 | succ n ih =>
  intro o k
  show getN o c (fun v=>ldFromK c n (Nat.succ o) (fun vs=>k (v :: vs)))=VL.rec (motive:=fun _=>Ans) .no k (Fd.rec (motive:=fun _=>VL) .no (fun v=>VL.rec (motive:=fun _=>VL) .no (fun vs=>.is (v :: vs)) (ldFromF c n (Nat.succ o))) (fdN o c))
  rw [getN_eq]
  cases fdN o c with
  | no=>rfl
  | is v =>
   simp only [ih]
   cases ldFromF c n (Nat.succ o) <;> rfl
def forceK (n:Nat) (k:Nat→Ans):Ans:=Nat.rec (motive:=fun _=>Ans) (k (nat_lit 0)) (fun m _=>k (Nat.succ m)) n
theorem forceK_eq (n:Nat) (k:Nat→Ans):forceK n k=k n:=by cases n <;> rfl
def forceI (n:Int) (k:Int→Ans):Ans:=Int.rec (motive:=fun _=>Ans) (fun m=>Nat.rec (motive:=fun _=>Ans) (k (.ofNat (nat_lit 0))) (fun m _=>k (.ofNat (Nat.succ m))) m) (fun m=>Nat.rec (motive:=fun _=>Ans) (k (.negSucc (nat_lit 0))) (fun m _=>k (.negSucc (Nat.succ m))) m) n
theorem forceI_eq (n:Int) (k:Int→Ans):forceI n k=k n:=by cases n with | ofNat m=>cases m <;> rfl | negSucc m=>cases m <;> rfl
def forceB (b:Bool) (k:Bool→Ans):Ans:=Bool.rec (k false) (k true) b
theorem forceB_eq (b:Bool) (k:Bool→Ans):forceB b k=k b:=by cases b <;> rfl
def forceP (p:Pos) (k:Pos→Ans):Ans:=Pos.rec (motive:=fun _=>Ans) (k .h) (fun p _=>k (.o p)) (fun p _=>k (.i p)) p
theorem forceP_eq (p:Pos) (k:Pos→Ans):forceP p k=k p:=by cases p <;> rfl
structure EK where
 f:E→RG→(AV→Ans)→Ans
def envKs (ih:Nat→EK) (i:Nat):EK:=Nat.rec (motive:=fun _=>EK) ⟨fun e _ k=>E.rec (motive:=fun _=>Ans) .no (fun v _ _=>k v) e⟩ (fun i _=>Nat.rec (motive:=fun _=>EK) ⟨fun e _ k=>E.rec (motive:=fun _=>Ans) .no (fun _ t _=>E.rec (motive:=fun _=>Ans) .no (fun v _ _=>k v) t) e⟩ (fun i _=>Nat.rec (motive:=fun _=>EK) ⟨fun e _ k=>E.rec (motive:=fun _=>Ans) .no (fun _ t _=>E.rec (motive:=fun _=>Ans) .no (fun _ t _=>E.rec (motive:=fun _=>Ans) .no (fun v _ _=>k v) t) t) e⟩ (fun i _=>Nat.rec (motive:=fun _=>EK) ⟨fun e _ k=>E.rec (motive:=fun _=>Ans) .no (fun _ t _=>E.rec (motive:=fun _=>Ans) .no (fun _ t _=>E.rec (motive:=fun _=>Ans) .no (fun _ t _=>E.rec (motive:=fun _=>Ans) .no (fun v _ _=>k v) t) t) t) e⟩ (fun i _=>Nat.rec (motive:=fun _=>EK) ⟨fun e _ k=>E.rec (motive:=fun _=>Ans) .no (fun _ t _=>E.rec (motive:=fun _=>Ans) .no (fun _ t _=>E.rec (motive:=fun _=>Ans) .no (fun _ t _=>E.rec (motive:=fun _=>Ans) .no (fun _ t _=>E.rec (motive:=fun _=>Ans) .no (fun v _ _=>k v) t) t) t) t) e⟩ (fun i _=>Nat.rec (motive:=fun _=>EK) ⟨fun e _ k=>E.rec (motive:=fun _=>Ans) .no (fun _ t _=>E.rec (motive:=fun _=>Ans) .no (fun _ t _=>E.rec (motive:=fun _=>Ans) .no (fun _ t _=>E.rec (motive:=fun _=>Ans) .no (fun _ t _=>E.rec (motive:=fun _=>Ans) .no (fun _ t _=>E.rec (motive:=fun _=>Ans) .no (fun v _ _=>k v) t) t) t) t) t) e⟩ (fun i _=>Nat.rec (motive:=fun _=>EK) ⟨fun e _ k=>E.rec (motive:=fun _=>Ans) .no (fun _ t _=>E.rec (motive:=fun _=>Ans) .no (fun _ t _=>E.rec (motive:=fun _=>Ans) .no (fun _ t _=>E.rec (motive:=fun _=>Ans) .no (fun _ t _=>E.rec (motive:=fun _=>Ans) .no (fun _ t _=>E.rec (motive:=fun _=>Ans) .no (fun _ t _=>E.rec (motive:=fun _=>Ans) .no (fun v _ _=>k v) t) t) t) t) t) t) e⟩ (fun i _=>Nat.rec (motive:=fun _=>EK) ⟨fun e _ k=>E.rec (motive:=fun _=>Ans) .no (fun _ t _=>E.rec (motive:=fun _=>Ans) .no (fun _ t _=>E.rec (motive:=fun _=>Ans) .no (fun _ t _=>E.rec (motive:=fun _=>Ans) .no (fun _ t _=>E.rec (motive:=fun _=>Ans) .no (fun _ t _=>E.rec (motive:=fun _=>Ans) .no (fun _ t _=>E.rec (motive:=fun _=>Ans) .no (fun _ t _=>E.rec (motive:=fun _=>Ans) .no (fun v _ _=>k v) t) t) t) t) t) t) t) e⟩ (fun i _=>Nat.rec (motive:=fun _=>EK) ⟨fun e _ k=>E.rec (motive:=fun _=>Ans) .no (fun _ t _=>E.rec (motive:=fun _=>Ans) .no (fun _ t _=>E.rec (motive:=fun _=>Ans) .no (fun _ t _=>E.rec (motive:=fun _=>Ans) .no (fun _ t _=>E.rec (motive:=fun _=>Ans) .no (fun _ t _=>E.rec (motive:=fun _=>Ans) .no (fun _ t _=>E.rec (motive:=fun _=>Ans) .no (fun _ t _=>E.rec (motive:=fun _=>Ans) .no (fun _ t _=>E.rec (motive:=fun _=>Ans) .no (fun v _ _=>k v) t) t) t) t) t) t) t) t) e⟩ (fun i _=>Nat.rec (motive:=fun _=>EK) ⟨fun e _ k=>E.rec (motive:=fun _=>Ans) .no (fun _ t _=>E.rec (motive:=fun _=>Ans) .no (fun _ t _=>E.rec (motive:=fun _=>Ans) .no (fun _ t _=>E.rec (motive:=fun _=>Ans) .no (fun _ t _=>E.rec (motive:=fun _=>Ans) .no (fun _ t _=>E.rec (motive:=fun _=>Ans) .no (fun _ t _=>E.rec (motive:=fun _=>Ans) .no (fun _ t _=>E.rec (motive:=fun _=>Ans) .no (fun _ t _=>E.rec (motive:=fun _=>Ans) .no (fun _ t _=>E.rec (motive:=fun _=>Ans) .no (fun v _ _=>k v) t) t) t) t) t) t) t) t) t) e⟩ (fun i _=>⟨fun e g k=>E.rec (motive:=fun _=>Ans) .no (fun _ t _=>E.rec (motive:=fun _=>Ans) .no (fun _ t _=>E.rec (motive:=fun _=>Ans) .no (fun _ t _=>E.rec (motive:=fun _=>Ans) .no (fun _ t _=>E.rec (motive:=fun _=>Ans) .no (fun _ t _=>E.rec (motive:=fun _=>Ans) .no (fun _ t _=>E.rec (motive:=fun _=>Ans) .no (fun _ t _=>E.rec (motive:=fun _=>Ans) .no (fun _ t _=>E.rec (motive:=fun _=>Ans) .no (fun _ t _=>E.rec (motive:=fun _=>Ans) .no (fun _ t _=>EK.rec (motive:=fun _=>Ans) (fun f=>f t g k) (ih i)) t) t) t) t) t) t) t) t) t) e⟩) i) i) i) i) i) i) i) i) i) i
def envKf (n:Nat):Nat→EK:=Nat.rec (motive:=fun _=>Nat→EK) (fun _=>⟨fun _ _ _=>.no⟩) (fun _ ih i=>envKs ih i) n
def envK (i:Nat):EK:=envKf (nat_lit 40) i
def rgK (i:Nat):EK:=Nat.rec (motive:=fun _=>EK) ⟨fun _ g k=>RG.rec (motive:=fun _=>Ans) (fun v _ _ _ _ _ _ _ _ _ _ _ _ _ _ _=>k v) g⟩ (fun i _=>Nat.rec (motive:=fun _=>EK) ⟨fun _ g k=>RG.rec (motive:=fun _=>Ans) (fun _ v _ _ _ _ _ _ _ _ _ _ _ _ _ _=>k v) g⟩ (fun i _=>Nat.rec (motive:=fun _=>EK) ⟨fun _ g k=>RG.rec (motive:=fun _=>Ans) (fun _ _ v _ _ _ _ _ _ _ _ _ _ _ _ _=>k v) g⟩ (fun i _=>Nat.rec (motive:=fun _=>EK) ⟨fun _ g k=>RG.rec (motive:=fun _=>Ans) (fun _ _ _ v _ _ _ _ _ _ _ _ _ _ _ _=>k v) g⟩ (fun i _=>Nat.rec (motive:=fun _=>EK) ⟨fun _ g k=>RG.rec (motive:=fun _=>Ans) (fun _ _ _ _ v _ _ _ _ _ _ _ _ _ _ _=>k v) g⟩ (fun i _=>Nat.rec (motive:=fun _=>EK) ⟨fun _ g k=>RG.rec (motive:=fun _=>Ans) (fun _ _ _ _ _ v _ _ _ _ _ _ _ _ _ _=>k v) g⟩ (fun i _=>Nat.rec (motive:=fun _=>EK) ⟨fun _ g k=>RG.rec (motive:=fun _=>Ans) (fun _ _ _ _ _ _ v _ _ _ _ _ _ _ _ _=>k v) g⟩ (fun i _=>Nat.rec (motive:=fun _=>EK) ⟨fun _ g k=>RG.rec (motive:=fun _=>Ans) (fun _ _ _ _ _ _ _ v _ _ _ _ _ _ _ _=>k v) g⟩ (fun i _=>Nat.rec (motive:=fun _=>EK) ⟨fun _ g k=>RG.rec (motive:=fun _=>Ans) (fun _ _ _ _ _ _ _ _ v _ _ _ _ _ _ _=>k v) g⟩ (fun i _=>Nat.rec (motive:=fun _=>EK) ⟨fun _ g k=>RG.rec (motive:=fun _=>Ans) (fun _ _ _ _ _ _ _ _ _ v _ _ _ _ _ _=>k v) g⟩ (fun i _=>Nat.rec (motive:=fun _=>EK) ⟨fun _ g k=>RG.rec (motive:=fun _=>Ans) (fun _ _ _ _ _ _ _ _ _ _ v _ _ _ _ _=>k v) g⟩ (fun i _=>Nat.rec (motive:=fun _=>EK) ⟨fun _ g k=>RG.rec (motive:=fun _=>Ans) (fun _ _ _ _ _ _ _ _ _ _ _ v _ _ _ _=>k v) g⟩ (fun i _=>Nat.rec (motive:=fun _=>EK) ⟨fun _ g k=>RG.rec (motive:=fun _=>Ans) (fun _ _ _ _ _ _ _ _ _ _ _ _ v _ _ _=>k v) g⟩ (fun i _=>Nat.rec (motive:=fun _=>EK) ⟨fun _ g k=>RG.rec (motive:=fun _=>Ans) (fun _ _ _ _ _ _ _ _ _ _ _ _ _ v _ _=>k v) g⟩ (fun i _=>Nat.rec (motive:=fun _=>EK) ⟨fun _ g k=>RG.rec (motive:=fun _=>Ans) (fun _ _ _ _ _ _ _ _ _ _ _ _ _ _ v _=>k v) g⟩ (fun i _=>Nat.rec (motive:=fun _=>EK) ⟨fun _ g k=>RG.rec (motive:=fun _=>Ans) (fun _ _ _ _ _ _ _ _ _ _ _ _ _ _ _ v=>k v) g⟩ (fun _i _=>⟨fun _ _ _=>.no⟩) i) i) i) i) i) i) i) i) i) i) i) i) i) i) i) i
theorem rgK_eq {i:Nat} (hi:i < 16) (e:E) (g:RG) (k:AV→Ans):(rgK i).f e g k=k ((rgW i).f e g):=by
 obtain ⟨a0,a1,a2,a3,a4,a5,a6,a7,a8,a9,a10,a11,a12,a13,a14,a15⟩:=g
 match i,hi with
 | 0,_=>rfl
 | 1,_=>rfl
 | 2,_=>rfl
 | 3,_=>rfl
 | 4,_=>rfl
 | 5,_=>rfl
 | 6,_=>rfl
 | 7,_=>rfl
 | 8,_=>rfl
 | 9,_=>rfl
 | 10,_=>rfl
 | 11,_=>rfl
 | 12,_=>rfl
 | 13,_=>rfl
 | 14,_=>rfl
 | 15,_=>rfl
 | n+16,h=>omega
theorem envKs_eq {ih:Nat→EK} (h:∀ i e g k,(ih i).f e g k = .yes→k ((envW i).f e g) = .yes) (i:Nat) (e:E) (g:RG) (k:AV→Ans) (hr:(envKs ih i).f e g k = .yes):k ((envW i).f e g) = .yes:=by
 iterate 10
  cases i with
  | zero=>exact (by cases e with | nil=>cases hr | c v t=>exact hr)
  | succ i=>?_
  cases e with
  | nil=>exact (by (iterate 12 (all_goals first | (cases hr; done) | cases i | (rename_i i; cases i))))
  | c v e=>?_
 exact h i e g k hr
theorem envKf_eq (n:Nat):∀ (i:Nat) (e:E) (g:RG) (k:AV→Ans),(envKf n i).f e g k = .yes→k ((envW i).f e g) = .yes:=by
 induction n with
 | zero=>intro i e g k hr; cases hr
 | succ n ih=>intro i e g k hr; exact envKs_eq ih i e g k hr
theorem envK_eq {i:Nat} {e:E} {g:RG} {k:AV→Ans} (hr:(envK i).f e g k = .yes):k ((envW i).f e g) = .yes:=envKf_eq 40 i e g k hr
end
end Go.Ev
