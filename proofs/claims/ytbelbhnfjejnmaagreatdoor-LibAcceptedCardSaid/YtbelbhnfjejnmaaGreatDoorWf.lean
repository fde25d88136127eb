/- PROVED HERE: a part (Wf) of the tied card of LibAccepted (floodgatelaw25). CONDITIONS: those of the given row and card alone. -/
import Derived.OrdersHeld
import Derived.Test.YtbelbhnfjejnmaaGreatDoorWa
import Derived.Deep.AppendLies
import Derived.Test.YtbelbhnfjejnmaaGreatDoorWb
import Derived.Test.YtbelbhnfjejnmaaGreatDoorWe
namespace Go
section
variable {P:Program} {ops:Array Oper} {Q:Exit→Act→World→Prop} {md:Region.Mode} {S:World→Prop} {st:Nat}
def wpU (P:Program) (md:Region.Mode) (ops:Array Oper) (Q:Exit→Act→World→Prop) (S:World→Prop) (st:Nat):Nat→Array Bool→Act→World→Prop
 | 0,listed,a,w=>Region.ready md ops listed = []∧Q .normal a w
 | fuel+1,listed,a,w =>
  (Region.ready md ops listed = []→Q .normal a w) ∧
  ∀ i∈Region.ready md ops listed,wpOp P ops Q i (fun a' w'=>((listed.setIfInBounds i true).getD st true=false→S w')∧wpU P md ops Q S st fuel (listed.setIfInBounds i true) a' w') a w
theorem wpAny_of_u:∀ (fuel:Nat) (listed:Array Bool) (a:Act) (w:World),wpU P md ops Q S st fuel listed a w→wpAny P md ops Q fuel listed a w
 | 0,_,_,_,h=>h
 | fuel+1,_,_,_,h=>⟨h.1,fun i hi=>wpOp_mono (fun a' w' h'=>wpAny_of_u fuel _ a' w' h'.2) (h.2 i hi)⟩
theorem wpU_first {i:Nat} {oi:Oper} {v:Value} (hi:ops[i]? = some oi) (hsel:∀ (j:Nat) (o:Oper) cs b,ops[j]? = some o→o.op≠.select cs b)
 (hQ:∀ c a w,Q (.panic c) (a.put oi.dst v) w→Q (.panic c) a w) (his:i≠st) (hbind:∀ o,ops[st]? = some o→∃ e∈o.after,Region.binds md e=true∧e.on=i) :
 ∀ (fuel:Nat) (listed:Array Bool) (a:Act) (w:World),
  (∀ j oj,ops[j]? = some oj→j≠i→listed.getD j true=false→(∀ e∈oj.after,Region.binds md e=true→e.on≠i)→oi.apart ops oj=true) →
  i∈Region.ready md ops listed→YieldsIf P ops S oi v a→listed.getD st true=false→S w →
  wpU P md ops Q S st fuel (listed.setIfInBounds i true) (a.put oi.dst v) w→wpU P md ops Q S st (fuel+1) listed a w:=by
 intro fuel
 induction fuel with
 | zero =>
  intro listed a w _ hr hy _ hS H
  refine ⟨fun h=>(by rw [h] at hr; cases hr),fun j hj=>?_⟩
  by_cases hji:j=i
  · subst hji; exact hy.wpOp hi hS ⟨fun _=>hS,H⟩
  · have:=ready_mono hj hji
    rw [H.1] at this
    cases this
 | succ fuel ih =>
  intro listed a w hfree hr hy hst hS H
  refine ⟨fun h=>(by rw [h] at hr; cases hr),fun j hj=>?_⟩
  by_cases hji:j=i
  · subst hji; exact hy.wpOp hi hS ⟨fun _=>hS,H⟩
  · have h1:=H.2 j (ready_mono hj hji)
    obtain ⟨hjun,oj,hoj,hall⟩:=mem_ready.1 hj
    have hnot:∀ e∈oj.after,Region.binds md e=true→e.on≠i:=fun e he hb heq=>by
     have h1:=hall e he hb
     have h0:=(mem_ready.1 hr).1
     rw [heq] at h1
     rcases Nat.lt_or_ge i listed.size with h' | h'
     · simp [h'] at h0 h1; rw [h0] at h1; cases h1
     · simp [Array.getElem?_eq_none h'] at h1
    have hjs:j≠st:=fun h=>by
     subst h
     obtain ⟨e,he,hb,heq⟩:=hbind oj hoj
     exact hnot e he hb heq
    have h2:=wpOp_putIf hoj (hfree j oj hoj hji hjun hnot) (fun cs b=>hsel i oi cs b hi) (fun cs b=>hsel j oj cs b hoj) hQ hy h1
    have hfree':∀ k ok,ops[k]? = some ok→k≠i→(listed.setIfInBounds j true).getD k true=false →
     (∀ e∈ok.after,Region.binds md e=true→e.on≠i)→oi.apart ops ok=true:=fun k ok hk hki hun hno=>by
     refine hfree k ok hk hki ?_ hno
     by_cases hjk:j=k
     · subst hjk; exact hjun
     · rw [getD_set_ne true hjk] at hun; exact hun
    have hsj:(listed.setIfInBounds j true).getD st true=false:=by rw [getD_set_ne true hjs]; exact hst
    refine wpOp_mono (fun a' w' h3=>?_) h2
    have hSw:S w':=h3.2.1 (by rw [getD_set_ne true hjs,getD_set_ne true his]; exact hst)
    refine ⟨fun _=>hSw,ih (listed.setIfInBounds j true) a' w' hfree' (ready_mono hr (Ne.symm hji)) h3.1 hsj hSw ?_⟩
    rw [Array.setIfInBounds_comm _ _ hji]
    exact h3.2.2
theorem wpU_take {i:Nat} {oi:Oper} {v:Value} {fuel:Nat} {listed:Array Bool} {a:Act} {w:World} (hi:ops[i]? = some oi)
 (hs:Region.noSelect ops=true) (hf:Region.free md ops listed i=true) (hr:(Region.ready md ops listed).contains i=true)
 (hQ:∀ c a w,Q (.panic c) (a.put oi.dst v) w→Q (.panic c) a w) (his:i≠st) (hbind:∀ o,ops[st]? = some o→∃ e∈o.after,Region.binds md e=true∧e.on=i)
 (hst:listed.getD st true=false) (hy:YieldsIf P ops S oi v a) (hS:S w)
 (h:wpU P md ops Q S st fuel (listed.setIfInBounds i true) (a.put oi.dst v) w):wpU P md ops Q S st (fuel+1) listed a w :=
 wpU_first hi (Region.noSelect_spec hs) hQ his hbind fuel listed a w (Region.free_spec hi hf) (by simpa using hr) hy hst hS h
theorem wpU_first2 {i k:Nat} {oi:Oper} {v:Value} (hi:ops[i]? = some oi) (hsel:∀ (j:Nat) (o:Oper) cs b,ops[j]? = some o→o.op≠.select cs b)
 (hQ:∀ c a w,Q (.panic c) (a.put oi.dst v) w→Q (.panic c) a w) (his:i≠st) (hki:∀ o,ops[k]? = some o→∃ e∈o.after,Region.binds md e=true∧e.on=i) (hks:k≠i) (hbind:∀ o,ops[st]? = some o→∃ e∈o.after,Region.binds md e=true∧e.on=k) :
 ∀ (fuel:Nat) (listed:Array Bool) (a:Act) (w:World),
  (∀ j oj,ops[j]? = some oj→j≠i→listed.getD j true=false→(∀ e∈oj.after,Region.binds md e=true→e.on≠i)→oi.apart ops oj=true) →
  i∈Region.ready md ops listed→YieldsIf P ops S oi v a→listed.getD st true=false→listed.getD k true=false→S w →
  wpU P md ops Q S st fuel (listed.setIfInBounds i true) (a.put oi.dst v) w→wpU P md ops Q S st (fuel+1) listed a w:=by
 intro fuel
 induction fuel with
 | zero =>
  intro listed a w _ hr hy _ _ hS H
  refine ⟨fun h=>(by rw [h] at hr; cases hr),fun j hj=>?_⟩
  by_cases hji:j=i
  · subst hji; exact hy.wpOp hi hS ⟨fun _=>hS,H⟩
  · have:=ready_mono hj hji
    rw [H.1] at this
    cases this
 | succ fuel ih =>
  intro listed a w hfree hr hy hst hlk hS H
  refine ⟨fun h=>(by rw [h] at hr; cases hr),fun j hj=>?_⟩
  by_cases hji:j=i
  · subst hji; exact hy.wpOp hi hS ⟨fun _=>hS,H⟩
  · have h1:=H.2 j (ready_mono hj hji)
    obtain ⟨hjun,oj,hoj,hall⟩:=mem_ready.1 hj
    have hnot:∀ e∈oj.after,Region.binds md e=true→e.on≠i:=fun e he hb heq=>by
     have h1:=hall e he hb
     have h0:=(mem_ready.1 hr).1
     rw [heq] at h1
     rcases Nat.lt_or_ge i listed.size with h' | h'
     · simp [h'] at h0 h1; rw [h0] at h1; cases h1
     · simp [Array.getElem?_eq_none h'] at h1
    have hjk:j≠k:=fun h=>by
     subst h
     obtain ⟨e,he,hb,heq⟩:=hki oj hoj
     exact hnot e he hb heq
    have hjs:j≠st:=fun h=>by
     subst h
     obtain ⟨e,he,hb,heq⟩:=hbind oj hoj
     have h1:=hall e he hb
     rw [heq] at h1
     rcases Nat.lt_or_ge k listed.size with h' | h'
     · simp [h'] at hlk h1; rw [hlk] at h1; cases h1
     · simp [Array.getElem?_eq_none h'] at h1
    have h2:=wpOp_putIf hoj (hfree j oj hoj hji hjun hnot) (fun cs b=>hsel i oi cs b hi) (fun cs b=>hsel j oj cs b hoj) hQ hy h1
    have hfree':∀ k ok,ops[k]? = some ok→k≠i→(listed.setIfInBounds j true).getD k true=false →
     (∀ e∈ok.after,Region.binds md e=true→e.on≠i)→oi.apart ops ok=true:=fun k ok hk hki hun hno=>by
     refine hfree k ok hk hki ?_ hno
     by_cases hjk:j=k
     · subst hjk; exact hjun
     · rw [getD_set_ne true hjk] at hun; exact hun
    have hkj:(listed.setIfInBounds j true).getD k true=false:=by rw [getD_set_ne true hjk]; exact hlk
    have hsj:(listed.setIfInBounds j true).getD st true=false:=by rw [getD_set_ne true hjs]; exact hst
    refine wpOp_mono (fun a' w' h3=>?_) h2
    have hSw:S w':=h3.2.1 (by rw [getD_set_ne true hjs,getD_set_ne true his]; exact hst)
    refine ⟨fun _=>hSw,ih (listed.setIfInBounds j true) a' w' hfree' (ready_mono hr (Ne.symm hji)) h3.1 hsj hkj hSw ?_⟩
    rw [Array.setIfInBounds_comm _ _ hji]
    exact h3.2.2
theorem wpU_take2 {i:Nat} (k:Nat) {oi:Oper} {v:Value} {fuel:Nat} {listed:Array Bool} {a:Act} {w:World} (hi:ops[i]? = some oi)
 (hs:Region.noSelect ops=true) (hf:Region.free md ops listed i=true) (hr:(Region.ready md ops listed).contains i=true)
 (hQ:∀ c a w,Q (.panic c) (a.put oi.dst v) w→Q (.panic c) a w) (his:i≠st) (hki:∀ o,ops[k]? = some o→∃ e∈o.after,Region.binds md e=true∧e.on=i) (hks:k≠i) (hbind:∀ o,ops[st]? = some o→∃ e∈o.after,Region.binds md e=true∧e.on=k)
 (hst:listed.getD st true=false) (hlk:listed.getD k true=false) (hy:YieldsIf P ops S oi v a) (hS:S w)
 (h:wpU P md ops Q S st fuel (listed.setIfInBounds i true) (a.put oi.dst v) w):wpU P md ops Q S st (fuel+1) listed a w :=
 wpU_first2 hi (Region.noSelect_spec hs) hQ his hki hks hbind fuel listed a w (Region.free_spec hi hf) (by simpa using hr) hy hst hlk hS h
theorem wpU_all {rs:List Nat} {fuel:Nat} {listed:Array Bool} {a:Act} {w:World} (hr:Region.ready md ops listed=rs) (hne:rs≠[])
 (h:∀ i∈rs,wpOp P ops Q i (fun a' w'=>((listed.setIfInBounds i true).getD st true=false→S w')∧wpU P md ops Q S st fuel (listed.setIfInBounds i true) a' w') a w):wpU P md ops Q S st (fuel+1) listed a w :=
 ⟨fun h0=>absurd (hr ▸ h0) hne,hr ▸ h⟩
theorem wp_region_u {id:Nat} {a:Act} {w:World} (hm:P.follows .mixedOrders=true)
 (h:wpU P .any ops Q S st ops.size (Array.replicate ops.size false) a { w with drawn:=w.drawn+1 }):(Code.region id ops true).wp P Q a w :=
 wp_region_any hm (wpAny_of_u _ _ _ _ h)
end
end Go
namespace Go.Proofs
open Go.RowKit
namespace Lb
def regOf (n:Nat):Code→Option (Array Oper)
 | .region id ops _=>if id=n then some ops else none
 | .seq a b=>(regOf n a).orElse fun _=>regOf n b
 | .cond _ a b=>(regOf n a).orElse fun _=>regOf n b
 | .block _ b=>regOf n b
 | .loop b=>regOf n b
 | .scope b=>regOf n b
 | _=>none
def regIn (n:Nat) (f:Func):Array Oper:=((f.body).bind (regOf n)).getD #[]
section
variable {P:Program} {ops:Array Oper} {Q:Exit→Act→World→Prop} {S:World→Prop} {o:Oper} {a:Act} {w:World} {K:Act→World→Prop}
theorem wpOp_at {i:Nat} (ho:ops[i]? = some o) (hg:o.guard=none) (h:o.wp P a w K Q):wpOp P ops Q i K a w:=by
 unfold wpOp
 simp only [ho]
 rw [if_pos (by unfold Region.wanted; rw [hg])]
 exact .inl h
theorem wanted_at (hg:o.guard=none) (y:Nat→Option Bool):Region.wanted o y=true:=by unfold Region.wanted; rw [hg]
theorem yif_field {t:TypeId} {x:Operand} {k:Nat} {v p:Value} (hg:o.guard=none) (ho:o.op = .fieldAddr t x k) (hx:a.eval x=v) (hf:∀ w,(Instr.fieldAt t v k).run P w = .ok p w):YieldsIf P ops S o p a :=
 .inl ⟨wanted_at hg _,fun w _=>by unfold execOp; simp only [ho,hx,Sem.run_bind,hf,Result.andThen_ok]; rfl⟩
theorem yif_load {t:TypeId} {x:Operand} {v p:Value} (hg:o.guard=none) (ho:o.op = .load t x) (hx:a.eval x=v) (hf:∀ w,S w→(Instr.loadAt t v).run P w = .ok p w):YieldsIf P ops S o p a :=
 .inl ⟨wanted_at hg _,fun w hS=>by unfold execOp; simp only [ho,hx,Sem.run_bind,hf w hS,Result.andThen_ok]; rfl⟩
theorem yif_move {x:Operand} {v:Value} (hg:o.guard=none) (ho:o.op = .move x) (hx:a.eval x=v):YieldsIf P ops S o v a :=
 .inl ⟨wanted_at hg _,fun w _=>by unfold execOp; simp only [ho,hx]; rfl⟩
theorem wp_slice_at {t:TypeId} {n:Nat} {parts:Array (Nat × Operand)} {v:Value} {w':World} (ho:o.op = .buildSlice t n parts) (hf:(Instr.buildSlice t n (parts.map fun (i,x)=>(i,a.eval x))).run P w = .ok v w') (h:K (a.put o.dst v) w'):o.wp P a w K Q:=by
 unfold Oper.wp execOp
 simp only [ho,Sem.run_bind,hf,Result.andThen_ok]
 exact h
theorem wp_store_at {t:TypeId} {x y:Operand} {v u:Value} {w':World} (ho:o.op = .store t x y) (hx:a.eval x=v) (hy:a.eval y=u) (hf:(Instr.storeAt t v u).run P w = .ok () w') (h:K (a.put o.dst undef) w'):o.wp P a w K Q:=by
 unfold Oper.wp execOp
 simp only [ho,hx,hy,Sem.run_bind,hf,Result.andThen_ok]
 exact h
theorem run_callFunc_body {f:FuncId} {args:Array Value} (hf:((P.funcs[f]?).map fun fn=>(fn.name == "runtime.NumGoroutine",fn.body.isNone))=some (false,false)):(callFunc f args).run P w = .ok (.enter f args) w:=by
 cases h:P.funcs[f]? with
 | none=>rw [h] at hf; cases hf
 | some fn =>
  rw [h] at hf
  simp only [Option.map_some,Option.some.injEq,Prod.mk.injEq] at hf
  have h1:¬ fn.name = "runtime.NumGoroutine":=by simpa using hf.1
  have h2:¬ fn.body=none:=by intro e; rw [e] at hf; cases hf.2
  simp [callFunc,h,h1,h2]
theorem wp_call_at {f:FuncId} {x:Operand} {t:TypeId} {v:Value} (hc:((P.funcs[f]?).map fun fn=>(fn.name == "runtime.NumGoroutine",fn.body.isNone))=some (false,false)) (ho:o.op = .call { callee:=.value (.func f),args:=#[x],argTypes:=#[t] }) (hx:a.eval x=v)
 (h:Calls P f #[v] w fun e w'=>match e with | .returned u=>K (a.put o.dst u) w' | _=>False):o.wp P a w K Q:=by
 unfold Oper.wp execOp
 simp only [ho,resolve,Sem.run_bind,List.map_toArray,List.map_cons,List.map_nil,hx]
 rw [show Deferred.ofValue (a.eval (.func f)) #[v]=pure { target:=.fn (.func f) #[],args:=#[v] } by simp [Deferred.ofValue,Act.eval]]
 simp only [Sem.run_pure,Result.andThen_ok,invoke,Array.append_empty,run_callFunc_body hc,Oper.upon]
 exact h.mono fun e w' he=>by
  cases e with
  | returned u=>exact he
  | panicked c=>exact False.elim he
  | outgrown=>exact False.elim he
theorem wp_call2_at {f:FuncId} {x y:Operand} {t t':TypeId} {v u:Value} (hc:((P.funcs[f]?).map fun fn=>(fn.name == "runtime.NumGoroutine",fn.body.isNone))=some (false,false)) (ho:o.op = .call { callee:=.value (.func f),args:=#[x,y],argTypes:=#[t,t'] }) (hx:a.eval x=v) (hy:a.eval y=u)
 (h:Calls P f #[v,u] w fun e w'=>match e with | .returned r=>K (a.put o.dst r) w' | _=>False):o.wp P a w K Q:=by
 unfold Oper.wp execOp
 simp only [ho,resolve,Sem.run_bind,List.map_toArray,List.map_cons,List.map_nil,hx,hy]
 rw [show Deferred.ofValue (a.eval (.func f)) #[v,u]=pure { target:=.fn (.func f) #[],args:=#[v,u] } by simp [Deferred.ofValue,Act.eval]]
 simp only [Sem.run_pure,Result.andThen_ok,invoke,Array.append_empty,run_callFunc_body hc,Oper.upon]
 exact h.mono fun e w' he=>by
  cases e with
  | returned u=>exact he
  | panicked c=>exact False.elim he
  | outgrown=>exact False.elim he
theorem eval_const {v:Value}:a.eval (.const v)=v:=rfl
theorem eval_same {t:Nat} {v:Value} (h:t < a.tmps.size):(a.put (some t) v).eval (.tmp t)=v:=by
 simp [Act.put,Act.eval,h]
theorem eval_ne {t d:Nat} {v:Value} (h:d≠t):(a.put (some d) v).eval (.tmp t)=a.eval (.tmp t):=by
 simp [Act.put,Act.eval,h]
theorem size_put (d:Option Tmp) (v:Value):(a.put d v).tmps.size=a.tmps.size:=by
 cases d <;> simp [Act.put]
end
theorem yif_add {ops:Array Oper} {S:World→Prop} {o:Oper} {a:Act} {x y:Operand} {s t:ByteArray} (hg:o.guard=none) (ho:o.op = .binOp .add 9 x y 9) (hx:a.eval x = .string s) (hy:a.eval y = .string t) (hl:s.size+t.size≤9223372036854775807):YieldsIf Tryz.prog ops S o (.string (s++t)) a :=
 .inl ⟨wanted_at hg _,fun w _=>by unfold execOp; simp only [ho,hx,hy]; simp [go_sem]; exact hl⟩
theorem fld90_3 (b:Nat) (w:World):(Instr.fieldAt 110 (.pointer (some ⟨b,0,none⟩)) 3).run Tryz.prog w = .ok (.pointer (some ⟨b,3,none⟩)) w:=by simp [go_sem]
theorem fld90_0 (b:Nat) (w:World):(Instr.fieldAt 110 (.pointer (some ⟨b,0,none⟩)) 0).run Tryz.prog w = .ok (.pointer (some ⟨b,0,none⟩)) w:=by simp [go_sem]
theorem ld36 (ad:Addr) (v:Value) (w:World) (h:w.cell? ad=some v):(Instr.loadAt 108 (.pointer (some ad))).run Tryz.prog w = .ok v w:=by simp [go_sem,h]
theorem ld9 (ad:Addr) (v:Value) (w:World) (h:w.cell? ad=some v):(Instr.loadAt 9 (.pointer (some ad))).run Tryz.prog w = .ok v w:=by simp [go_sem,h]
theorem fld79_0 (b:Nat) (w:World):(Instr.fieldAt 69 (.pointer (some ⟨b,0,none⟩)) 0).run Tryz.prog w = .ok (.pointer (some ⟨b,0,none⟩)) w:=by simp [go_sem]
theorem fld79_1 (b:Nat) (w:World):(Instr.fieldAt 30 (.pointer (some ⟨b,0,none⟩)) 1).run Tryz.prog w = .ok (.pointer (some ⟨b,1,none⟩)) w:=by simp [go_sem]
theorem fld30_0 (b:Nat) (w:World):(Instr.fieldAt 30 (.pointer (some ⟨b,0,none⟩)) 0).run Tryz.prog w = .ok (.pointer (some ⟨b,0,none⟩)) w:=by simp [go_sem]
theorem st28 (ad:Addr) (v:Value) (w:World) (u:Value) (h:w.cell? ad=some u) (hf:w.frozen? ad=false) (p:Option Addr) (n c:Nat) (hv:v = .slice p n c):(Instr.storeAt 28 (.pointer (some ad)) v).run Tryz.prog w = .ok () (w.setCell ad v):=by subst hv; simp [go_sem,h,hf]
theorem ld28 (ad:Addr) (v:Value) (w:World) (h:w.cell? ad=some v):(Instr.loadAt 28 (.pointer (some ad))).run Tryz.prog w = .ok v w:=by simp [go_sem,h]
theorem ld45 (ad:Addr) (v:Value) (w:World) (h:w.cell? ad=some v):(Instr.loadAt 37 (.pointer (some ad))).run Tryz.prog w = .ok v w:=by simp [go_sem,h]
theorem fld60_2 (b:Nat) (w:World):(Instr.fieldAt 49 (.pointer (some ⟨b,0,none⟩)) 2).run Tryz.prog w = .ok (.pointer (some ⟨b,2,none⟩)) w:=by simp [go_sem]
theorem ld27 (ad:Addr) (v:Value) (w:World) (h:w.cell? ad=some v):(Instr.loadAt 27 (.pointer (some ad))).run Tryz.prog w = .ok v w:=by simp [go_sem,h]
theorem st27 (ad:Addr) (v:Value) (w:World) (u:Value) (h:w.cell? ad=some u) (hf:w.frozen? ad=false) (p:Option Addr) (n c:Nat) (hv:v = .slice p n c):(Instr.storeAt 27 (.pointer (some ad)) v).run Tryz.prog w = .ok () (w.setCell ad v):=by subst hv; simp [go_sem,h,hf]
theorem bs27 (w:World) (p:Option Addr) (n c:Nat):(Instr.buildSlice 27 1 #[(0,.slice p n c)]).run Tryz.prog w = .ok (.slice (some ⟨w.heap.size,0,none⟩) 1 1) (w.alloc (.cells #[.slice p n c] 37)):=by simp [go_sem]
theorem bs28 (w:World):(Instr.buildSlice 28 1 #[(0,.bool true)]).run Tryz.prog w = .ok (.slice (some ⟨w.heap.size,0,none⟩) 1 1) (w.alloc (.cells #[.bool true] 4)):=by simp [go_sem]
def Same (lo hi:Nat) (a a':Act):Prop:=a'.tmps.size=a.tmps.size∧a'.defers=a.defers∧∀ t,(t < lo∨hi < t)→a'.eval (.tmp t)=a.eval (.tmp t)
theorem Same.refl (lo hi:Nat) (a:Act):Same lo hi a a:=⟨rfl,rfl,fun _ _=>rfl⟩
theorem Same.put {lo hi d:Nat} {a a':Act} {v:Value} (h:Same lo hi a a') (h1:lo≤d) (h2:d≤hi):Same lo hi a (a'.put (some d) v) :=
 ⟨by rw [size_put]; exact h.1,h.2.1,fun t ht=>by rw [eval_ne (by omega)]; exact h.2.2 t ht⟩
theorem Same.next {lo hi:Nat} {a a':Act} (h:Same lo hi a a') (hl:lo < a.tmps.size):Same (lo+1) hi (a.put (some lo) (a'.eval (.tmp lo))) a' :=
 ⟨by rw [size_put]; exact h.1,h.2.1,fun t ht=>by
  by_cases e:lo=t
  · subst e; rw [eval_same hl]
  · rw [eval_ne e]; exact h.2.2 t (by omega)⟩
theorem Same.eq {lo hi:Nat} {a a':Act} (h:Same lo hi a a') (hlh:hi < lo):a'=a:=by
 obtain ⟨t,d⟩:=a
 obtain ⟨t',d'⟩:=a'
 obtain ⟨h1,h2,h3⟩:=h
 have:t'=t:=by
  apply Array.ext h1
  intro i hi1 hi2
  have:=h3 i (by omega)
  simpa [Act.eval,hi1,hi2] using this
 subst this
 cases h2
 rfl
theorem Same.act17 {lo:Nat} {a a':Act} (h:Same lo (lo+16) a a') (hs:lo+16 < a.tmps.size):∃ v0 v1 v2 v3 v4 v5 v6 v7 v8 v9 v10 v11 v12 v13 v14 v15 v16,a'=(((((((((((((((((a.put (some lo) v0).put (some (lo+1)) v1).put (some (lo+2)) v2).put (some (lo+3)) v3).put (some (lo+4)) v4).put (some (lo+5)) v5).put (some (lo+6)) v6).put (some (lo+7)) v7).put (some (lo+8)) v8).put (some (lo+9)) v9).put (some (lo+10)) v10).put (some (lo+11)) v11).put (some (lo+12)) v12).put (some (lo+13)) v13).put (some (lo+14)) v14).put (some (lo+15)) v15).put (some (lo+16)) v16):=by
 have h:=h.next (by (try simp only [size_put]); omega)
 have h:=h.next (by (try simp only [size_put]); omega)
 have h:=h.next (by (try simp only [size_put]); omega)
 have h:=h.next (by (try simp only [size_put]); omega)
 have h:=h.next (by (try simp only [size_put]); omega)
 have h:=h.next (by (try simp only [size_put]); omega)
 have h:=h.next (by (try simp only [size_put]); omega)
 have h:=h.next (by (try simp only [size_put]); omega)
 have h:=h.next (by (try simp only [size_put]); omega)
 have h:=h.next (by (try simp only [size_put]); omega)
 have h:=h.next (by (try simp only [size_put]); omega)
 have h:=h.next (by (try simp only [size_put]); omega)
 have h:=h.next (by (try simp only [size_put]); omega)
 have h:=h.next (by (try simp only [size_put]); omega)
 have h:=h.next (by (try simp only [size_put]); omega)
 have h:=h.next (by (try simp only [size_put]); omega)
 have h:=h.next (by (try simp only [size_put]); omega)
 exact ⟨_,_,_,_,_,_,_,_,_,_,_,_,_,_,_,_,_,h.eq (by omega)⟩
theorem Same.act18 {lo:Nat} {a a':Act} (h:Same lo (lo+17) a a') (hs:lo+17 < a.tmps.size):∃ v0 v1 v2 v3 v4 v5 v6 v7 v8 v9 v10 v11 v12 v13 v14 v15 v16 v17,a'=((((((((((((((((((a.put (some lo) v0).put (some (lo+1)) v1).put (some (lo+2)) v2).put (some (lo+3)) v3).put (some (lo+4)) v4).put (some (lo+5)) v5).put (some (lo+6)) v6).put (some (lo+7)) v7).put (some (lo+8)) v8).put (some (lo+9)) v9).put (some (lo+10)) v10).put (some (lo+11)) v11).put (some (lo+12)) v12).put (some (lo+13)) v13).put (some (lo+14)) v14).put (some (lo+15)) v15).put (some (lo+16)) v16).put (some (lo+17)) v17):=by
 have h:=h.next (by (try simp only [size_put]); omega)
 have h:=h.next (by (try simp only [size_put]); omega)
 have h:=h.next (by (try simp only [size_put]); omega)
 have h:=h.next (by (try simp only [size_put]); omega)
 have h:=h.next (by (try simp only [size_put]); omega)
 have h:=h.next (by (try simp only [size_put]); omega)
 have h:=h.next (by (try simp only [size_put]); omega)
 have h:=h.next (by (try simp only [size_put]); omega)
 have h:=h.next (by (try simp only [size_put]); omega)
 have h:=h.next (by (try simp only [size_put]); omega)
 have h:=h.next (by (try simp only [size_put]); omega)
 have h:=h.next (by (try simp only [size_put]); omega)
 have h:=h.next (by (try simp only [size_put]); omega)
 have h:=h.next (by (try simp only [size_put]); omega)
 have h:=h.next (by (try simp only [size_put]); omega)
 have h:=h.next (by (try simp only [size_put]); omega)
 have h:=h.next (by (try simp only [size_put]); omega)
 have h:=h.next (by (try simp only [size_put]); omega)
 exact ⟨_,_,_,_,_,_,_,_,_,_,_,_,_,_,_,_,_,_,h.eq (by omega)⟩
theorem bind_of {ops:Array Oper} {md:Region.Mode} {st i:Nat} (h:((ops[st]?).map fun o=>o.after.any fun e=>Region.binds md e && e.on==i)=some true):∀ o,ops[st]? = some o→∃ e∈o.after,Region.binds md e=true∧e.on=i:=by
 intro o ho
 rw [ho] at h
 simp only [Option.map_some,Option.some.injEq,Array.any_eq_true,Bool.and_eq_true,beq_iff_eq] at h
 obtain ⟨k,hk,h1,h2⟩:=h
 exact ⟨_,Array.getElem_mem hk,h1,h2⟩
end Lb
end Go.Proofs
namespace Go.Proofs
open Go.RowKit
namespace Lb
noncomputable def opsA:Array Oper:=regIn 10 Tryz.f35
noncomputable def opA (i:Nat):Oper:=opsA.getD i default
theorem atA_0:opsA[0]? = some (opA 0):=by kernel_rfl
theorem fA_0:(opA 0).op = .fieldAddr 69 (.tmp 6) 0∧(opA 0).dst=some 45∧(opA 0).guard=none∧(opA 0).type=0:=by refine ⟨?_,?_,?_,?_⟩ <;> kernel_rfl
theorem atA_1:opsA[1]? = some (opA 1):=by kernel_rfl
theorem fA_1:(opA 1).op = .fieldAddr 30 (.tmp 45) 0∧(opA 1).dst=some 46∧(opA 1).guard=none∧(opA 1).type=0:=by refine ⟨?_,?_,?_,?_⟩ <;> kernel_rfl
theorem atA_2:opsA[2]? = some (opA 2):=by kernel_rfl
theorem fA_2:(opA 2).op = .load 27 (.tmp 46)∧(opA 2).dst=some 47∧(opA 2).guard=none∧(opA 2).type=27:=by refine ⟨?_,?_,?_,?_⟩ <;> kernel_rfl
theorem atA_3:opsA[3]? = some (opA 3):=by kernel_rfl
theorem fA_3:(opA 3).op = .fieldAddr 49 (.tmp 11) 2∧(opA 3).dst=some 48∧(opA 3).guard=none∧(opA 3).type=0:=by refine ⟨?_,?_,?_,?_⟩ <;> kernel_rfl
theorem atA_4:opsA[4]? = some (opA 4):=by kernel_rfl
theorem fA_4:(opA 4).op = .load 37 (.tmp 48)∧(opA 4).dst=some 49∧(opA 4).guard=none∧(opA 4).type=37:=by refine ⟨?_,?_,?_,?_⟩ <;> kernel_rfl
theorem atA_5:opsA[5]? = some (opA 5):=by kernel_rfl
theorem fA_5:(opA 5).op = .call { callee:=.value (.func 79),args:=#[.tmp 49],argTypes:=#[37] }∧(opA 5).dst=some 50∧(opA 5).guard=none∧(opA 5).type=37:=by refine ⟨?_,?_,?_,?_⟩ <;> kernel_rfl
theorem atA_6:opsA[6]? = some (opA 6):=by kernel_rfl
theorem fA_6:(opA 6).op = .buildSlice 27 1 #[(0,.tmp 50)]∧(opA 6).dst=some 51∧(opA 6).guard=none∧(opA 6).type=27:=by refine ⟨?_,?_,?_,?_⟩ <;> kernel_rfl
theorem atA_7:opsA[7]? = some (opA 7):=by kernel_rfl
theorem fA_7:(opA 7).op = .call { callee:=.builtin .append,args:=#[.tmp 47,.tmp 51],argTypes:=#[27,27] }∧(opA 7).dst=some 52∧(opA 7).guard=none∧(opA 7).type=27:=by refine ⟨?_,?_,?_,?_⟩ <;> kernel_rfl
theorem atA_8:opsA[8]? = some (opA 8):=by kernel_rfl
theorem fA_8:(opA 8).op = .fieldAddr 69 (.tmp 6) 0∧(opA 8).dst=some 53∧(opA 8).guard=none∧(opA 8).type=0:=by refine ⟨?_,?_,?_,?_⟩ <;> kernel_rfl
theorem atA_9:opsA[9]? = some (opA 9):=by kernel_rfl
theorem fA_9:(opA 9).op = .fieldAddr 30 (.tmp 53) 1∧(opA 9).dst=some 54∧(opA 9).guard=none∧(opA 9).type=0:=by refine ⟨?_,?_,?_,?_⟩ <;> kernel_rfl
theorem atA_10:opsA[10]? = some (opA 10):=by kernel_rfl
theorem fA_10:(opA 10).op = .load 28 (.tmp 54)∧(opA 10).dst=some 55∧(opA 10).guard=none∧(opA 10).type=28:=by refine ⟨?_,?_,?_,?_⟩ <;> kernel_rfl
theorem atA_11:opsA[11]? = some (opA 11):=by kernel_rfl
theorem fA_11:(opA 11).op = .buildSlice 28 1 #[(0,.const (.bool true))]∧(opA 11).dst=some 56∧(opA 11).guard=none∧(opA 11).type=28:=by refine ⟨?_,?_,?_,?_⟩ <;> kernel_rfl
theorem atA_12:opsA[12]? = some (opA 12):=by kernel_rfl
theorem fA_12:(opA 12).op = .call { callee:=.builtin .append,args:=#[.tmp 55,.tmp 56],argTypes:=#[28,28] }∧(opA 12).dst=some 57∧(opA 12).guard=none∧(opA 12).type=28:=by refine ⟨?_,?_,?_,?_⟩ <;> kernel_rfl
theorem atA_13:opsA[13]? = some (opA 13):=by kernel_rfl
theorem fA_13:(opA 13).op = .fieldAddr 69 (.tmp 6) 0∧(opA 13).dst=some 58∧(opA 13).guard=none∧(opA 13).type=0:=by refine ⟨?_,?_,?_,?_⟩ <;> kernel_rfl
theorem atA_14:opsA[14]? = some (opA 14):=by kernel_rfl
theorem fA_14:(opA 14).op = .fieldAddr 30 (.tmp 58) 0∧(opA 14).dst=some 59∧(opA 14).guard=none∧(opA 14).type=0:=by refine ⟨?_,?_,?_,?_⟩ <;> kernel_rfl
theorem atA_15:opsA[15]? = some (opA 15):=by kernel_rfl
theorem fA_15:(opA 15).op = .store 27 (.tmp 59) (.tmp 52)∧(opA 15).dst=none∧(opA 15).guard=none∧(opA 15).type=0:=by refine ⟨?_,?_,?_,?_⟩ <;> kernel_rfl
theorem atA_16:opsA[16]? = some (opA 16):=by kernel_rfl
theorem fA_16:(opA 16).op = .fieldAddr 69 (.tmp 6) 0∧(opA 16).dst=some 60∧(opA 16).guard=none∧(opA 16).type=0:=by refine ⟨?_,?_,?_,?_⟩ <;> kernel_rfl
theorem atA_17:opsA[17]? = some (opA 17):=by kernel_rfl
theorem fA_17:(opA 17).op = .fieldAddr 30 (.tmp 60) 1∧(opA 17).dst=some 61∧(opA 17).guard=none∧(opA 17).type=0:=by refine ⟨?_,?_,?_,?_⟩ <;> kernel_rfl
theorem atA_18:opsA[18]? = some (opA 18):=by kernel_rfl
theorem fA_18:(opA 18).op = .store 28 (.tmp 61) (.tmp 57)∧(opA 18).dst=none∧(opA 18).guard=none∧(opA 18).type=0:=by refine ⟨?_,?_,?_,?_⟩ <;> kernel_rfl
theorem infoInts:(Tryz.prog.info? 37).map (fun i=>(i.zero,i.size,i.bytes))=some (some (.slice none 0 0),1,24):=by kernel_rfl
theorem infoBool:(Tryz.prog.info? 4).map (fun i=>(i.zero,i.size,i.bytes))=some (some (.bool false),1,1):=by kernel_rfl
theorem cell_of_heap {w:World} {b j:Nat} {cs:Array Value} {t:TypeId} {fr:Nat × Nat} (h:w.heap[b]? = some (.cells cs t fr)):w.cell? ⟨b,j,none⟩=cs[j]?:=by
 unfold World.cell?
 rw [show w.heap[(⟨b,j,none⟩:Addr).block]? = _ from h]; simp
theorem froz_of_heap {w:World} {b j:Nat} {cs:Array Value} {t:TypeId} (h:w.heap[b]? = some (.cells cs t (0,0))):w.frozen? ⟨b,j,none⟩=false:=by
 unfold World.frozen?
 rw [show w.heap[(⟨b,j,none⟩:Addr).block]? = _ from h]; simp
theorem grown_trans {w w1 w2:World} {r:Option Nat} (h:w.grownBy w1 none) (k:w1.grownBy w2 r):w.grownBy w2 r :=
 ⟨k.os.trans h.os,k.tape.trans h.tape,k.output.trans h.output,Nat.le_trans h.size k.size,fun i hi hr=>(k.block i (Nat.lt_of_lt_of_le hi h.size) hr).trans (h.block i hi (by simp))⟩
structure Rx (B bp tp nL:Nat) (ad:Addr) (l:List Int) (rest:List Value) (Lv Cv av:Value) (lvs:List Value) (w3:World):Prop where
 hp:w3.heap[bp]? = some (.cells (Lv :: Cv :: rest).toArray tp (0,0))
 k2:w3.cell? ad=some av
 ne:some ad.block≠Lv.ownBlock
 oL:w3.ownsRow B 37 1 Lv nL lvs
 oC:w3.ownsRow B 4 1 Cv nL (List.replicate nL (.bool true))
 neC:some ad.block≠Cv.ownBlock
 sB:B≤w3.heap.size
 n6:nL≤100
 t45:tp≠37
 t4:tp≠4
def Sx (bp:Nat) (ad:Addr) (Lv Cv av:Value) (w:World):Prop:=w.cell? ad=some av∧w.cell? ⟨bp,0,none⟩=some Lv∧w.cell? ⟨bp,1,none⟩=some Cv
def W1 (B:Nat) (l:List Int) (w3 w:World) (lv:Value):Prop:=∃ w1,w3.grownBy w1 none∧w1.ownsRow B 3 1 lv l.length (l.map (.int .i64))∧w1.grownBy w none
def W3 (B nL:Nat) (l:List Int) (Lv:Value) (lvs:List Value) (w3 w:World) (lv L':Value):Prop :=
 ∃ w1 w2 wL,w3.grownBy w1 none∧w1.ownsRow B 3 1 lv l.length (l.map (.int .i64))∧w1.grownBy w2 none∧wL.ownsRow B 37 1 L' (nL+1) (lvs ++ [lv])∧w2.grownBy wL Lv.ownBlock∧wL.grownBy w none
def Bk (w3 w:World) (v x:Value) (ty:Nat):Prop:=∃ b,v = .slice (some ⟨b,0,none⟩) 1 1∧w.heap[b]? = some (.cells #[x] ty (0,0))∧w3.heap.size≤b
def Px (B bp nL:Nat) (l:List Int) (Lv Cv:Value) (lvs:List Value) (w3 w':World):Prop :=
 ∃ lv L' C' w1 w2 wL w4 w5,w3.grownBy w1 none∧w1.ownsRow B 3 1 lv l.length (l.map (.int .i64))∧w1.grownBy w2 none∧wL.ownsRow B 37 1 L' (nL+1) (lvs ++ [lv])∧w2.grownBy wL Lv.ownBlock ∧
  wL.grownBy w4 none∧w5.ownsRow B 4 1 C' (nL+1) (List.replicate nL (.bool true) ++ [.bool true])∧w4.grownBy w5 Cv.ownBlock∧w'=(w5.setCell ⟨bp,0,none⟩ L').setCell ⟨bp,1,none⟩ C'
section
variable {B bp tp nL:Nat} {ad:Addr} {l:List Int} {rest:List Value} {Lv Cv av:Value} {lvs:List Value} {w3 w w':World} {lv L' v x:Value}
theorem Rx.s0 (h:Rx B bp tp nL ad l rest Lv Cv av lvs w3) (g:w3.grownBy w none):Sx bp ad Lv Cv av w:=by
 have hp:=row_keep h.hp g (by simp)
 exact ⟨g.cell h.k2 (by simp),(cell_of_heap hp).trans rfl,(cell_of_heap hp).trans rfl⟩
theorem W1.g (h:W1 B l w3 w lv):w3.grownBy w none:=by
 obtain ⟨w1,a,_,b⟩:=h
 exact grown_trans a b
theorem W1.on (h:W1 B l w3 w lv) (g:w.grownBy w' none):W1 B l w3 w' lv:=by
 obtain ⟨w1,a,o,b⟩:=h
 exact ⟨w1,a,o,grown_trans b g⟩
theorem W3.g (h:W3 B nL l Lv lvs w3 w lv L'):w3.grownBy w Lv.ownBlock:=by
 obtain ⟨w1,w2,wL,a,_,b,_,c,d⟩:=h
 refine ⟨d.os.trans ((c.os.trans (b.os.trans a.os))),d.tape.trans ((c.tape.trans (b.tape.trans a.tape))),d.output.trans ((c.output.trans (b.output.trans a.output))),Nat.le_trans a.size (Nat.le_trans b.size (Nat.le_trans c.size d.size)),fun i hi hr=>?_⟩
 have h1:=Nat.lt_of_lt_of_le hi a.size
 have h2:=Nat.lt_of_lt_of_le h1 b.size
 have h3:=Nat.lt_of_lt_of_le h2 c.size
 rw [d.block i h3 (by simp),c.block i h2 hr,b.block i h1 (by simp),a.block i hi (by simp)]
theorem W3.on (h:W3 B nL l Lv lvs w3 w lv L') (g:w.grownBy w' none):W3 B nL l Lv lvs w3 w' lv L':=by
 obtain ⟨w1,w2,wL,a,o,b,o2,c,d⟩:=h
 exact ⟨w1,w2,wL,a,o,b,o2,c,grown_trans d g⟩
theorem Rx.bL (h:Rx B bp tp nL ad l rest Lv Cv av lvs w3):some bp≠Lv.ownBlock:=bp_ne h.hp h.oL h.t45
theorem Rx.bC (h:Rx B bp tp nL ad l rest Lv Cv av lvs w3):some bp≠Cv.ownBlock:=bp_ne h.hp h.oC h.t4
theorem Rx.s3 (h:Rx B bp tp nL ad l rest Lv Cv av lvs w3) (g:W3 B nL l Lv lvs w3 w lv L'):Sx bp ad Lv Cv av w:=by
 have hp:=row_keep h.hp g.g h.bL
 exact ⟨g.g.cell h.k2 h.ne,(cell_of_heap hp).trans rfl,(cell_of_heap hp).trans rfl⟩
theorem Bk.on {ty:Nat} (h:Bk w3 w v x ty) (g:w.grownBy w' none):Bk w3 w' v x ty:=by
 obtain ⟨b,a,c,d⟩:=h
 exact ⟨b,a,row_keep c g (by simp),d⟩
theorem Bk.onL {ty:Nat} (h:Bk w3 w v x ty) (hR:Rx B bp tp nL ad l rest Lv Cv av lvs w3) (g:w.grownBy w' Lv.ownBlock):Bk w3 w' v x ty:=by
 obtain ⟨b,a,c,d⟩:=h
 exact ⟨b,a,row_keep c g (fun e=>by have:=(hR.oL.lt _ e.symm).2; omega),d⟩
theorem Bk.new {ty:Nat} (g:w3.heap.size≤w.heap.size):Bk w3 (w.alloc (.cells #[x] ty)) (.slice (some ⟨w.heap.size,0,none⟩) 1 1) x ty:=⟨_,rfl,heap_alloc_new w _,g⟩
end
def lsA (l:List Nat):Array Bool:=l.foldl (fun a i=>a.setIfInBounds i true) (Array.replicate 19 false)
theorem wpU_list {P:Program} {md:Region.Mode} {ops:Array Oper} {Q:Exit→Act→World→Prop} {S:World→Prop} {st n:Nat} {l l':Array Bool} {a:Act} {w:World} (h:l=l') (hh:wpU P md ops Q S st n l' a w):wpU P md ops Q S st n l a w:=h ▸ hh
def QA_ (a0:Act) (X:World→Prop):Exit→Act→World→Prop:=fun e a' w'=>e = .normal∧Same 45 61 a0 a'∧X w'
section
variable {B bp nL:Nat} {ad:Addr} {l:List Int} {rest:List Value} {Lv Cv av:Value} {lvs:List Value} {w3 w:World} {lv L' v56:Value} {a0 a:Act}
theorem rA_fin (h:Rx B bp 69 nL ad l rest Lv Cv av lvs w3) (hs:Same 45 61 a0 a) (sz:a0.tmps.size=124) (e6:a0.eval (.tmp 6) = .pointer (some ⟨bp,0,none⟩))
 (e52:a.eval (.tmp 52)=L') (hL':∃ g c,L' = .slice (some ⟨g,0,none⟩) (nL+1) c) (e55:a.eval (.tmp 55)=Cv) (e56:a.eval (.tmp 56)=v56) (e59:a.eval (.tmp 59) = .pointer (some ⟨bp,0,none⟩))
 (hW:W3 B nL l Lv lvs w3 w lv L') (hb:Bk w3 w v56 (.bool true) 4) :
 wpU Tryz.prog .any opsA (QA_ a0 (Px B bp nL l Lv Cv lvs w3)) (Sx bp ad Lv Cv av) 15 5 (lsA [0,1,2,3,4,5,6,7,8,9,10,11,13,14]) a w:=by
 obtain ⟨i4,hi4,h40,h41,h42⟩:=info_parts infoBool
 obtain ⟨b,rfl,hbk,hb3⟩:=hb
 have n6:=h.n6
 have hsz:a.tmps.size=124:=hs.1.trans sz
 have hp:=row_keep h.hp hW.g h.bL
 have hoC:w.ownsRow B 4 1 Cv nL (List.replicate nL (.bool true)):=h.oC.kept hW.g (own_ne h.oC h.oL (by decide))
 have hBs:B≤w.heap.size:=Nat.le_trans h.sB hW.g.size
 refine wpU_all (rs:=[12]) (by kernel_rfl) (by simp) (fun i hi=>?_)
 obtain rfl:i=12:=by simpa using hi
 refine wpOp_at atA_12 fA_12.2.2.1 ?_
 refine wp_append_lies w (.tmp 55) (.tmp 56) 28 fA_12.1 B 4 i4 (.bool false) 1 1 Tryz.underlying28 hi4 h40 h41 h42 rfl (by omega) Cv nL _ e55 hoC ⟨b,0,none⟩ 1 1 [.bool true] e56 (by rfl)
  (World.news_of_block hbk) (by simp [Value.oneCell']) (by omega) (by unfold maxLen; omega) (by omega) hBs _ rfl ?_
 intro gP capP wP hownP hgP hatP hltP
 have hpP:=row_keep hp hgP h.bC
 rw [fA_12.2.1]
 have hsA:=hs.put (d:=57) (v:=.slice (some ⟨gP,0,none⟩) (nL+1) capP) (by decide) (by decide)
 refine ⟨fun _=>?_,?_⟩
 · have k2:=hgP.cell (hW.g.cell h.k2 h.ne) (fun e=>?_)
   · exact ⟨k2,(cell_of_heap hpP).trans rfl,(cell_of_heap hpP).trans rfl⟩
   · exact h.neC e
 obtain ⟨gL,cL,rfl⟩:=hL'
 refine wpU_all (rs:=[15]) (by kernel_rfl) (by simp) (fun i hi=>?_)
 obtain rfl:i=15:=by simpa using hi
 refine wpOp_at atA_15 fA_15.2.2.1 ?_
 refine wp_store_at fA_15.1 ((eval_ne (by decide)).trans e59) ((eval_ne (by decide)).trans e52) (st27 _ _ _ _ ((cell_of_heap hpP).trans rfl) (froz_of_heap hpP) _ _ _ rfl) ?_
 rw [fA_15.2.1]
 refine ⟨fun h=>absurd h (by decide),?_⟩
 refine wpU_all (rs:=[16]) (by kernel_rfl) (by simp) (fun i hi=>?_)
 obtain rfl:i=16:=by simpa using hi
 refine (yif_field (S:=fun _=>True) fA_16.2.2.1 fA_16.1 ((hsA.2.2 6 (by decide)).trans e6) (fld79_0 bp)).wpOp atA_16 trivial ?_
 refine ⟨fun h=>absurd h (by decide),?_⟩
 rw [fA_16.2.1]
 have hsB:=hsA.put (d:=60) (v:=.pointer (some ⟨bp,0,none⟩)) (by decide) (by decide)
 refine wpU_all (rs:=[17]) (by kernel_rfl) (by simp) (fun i hi=>?_)
 obtain rfl:i=17:=by simpa using hi
 refine (yif_field (S:=fun _=>True) fA_17.2.2.1 fA_17.1 (eval_same (by rw [size_put]; omega)) (fld79_1 bp)).wpOp atA_17 trivial ?_
 refine ⟨fun h=>absurd h (by decide),?_⟩
 rw [fA_17.2.1]
 have hsC:=hsB.put (d:=61) (v:=.pointer (some ⟨bp,1,none⟩)) (by decide) (by decide)
 refine wpU_all (rs:=[18]) (by kernel_rfl) (by simp) (fun i hi=>?_)
 obtain rfl:i=18:=by simpa using hi
 have hpQ:=heap_setCell_same wP bp 0 _ _ (.slice (some ⟨gL,0,none⟩) (nL+1) cL) hpP
 refine wpOp_at atA_18 fA_18.2.2.1 ?_
 refine wp_store_at fA_18.1 (eval_same (by rw [size_put,size_put]; omega)) (((eval_ne (by decide)).trans (eval_ne (by decide))).trans (eval_same (by omega))) (st28 _ _ _ _ ((cell_of_heap hpQ).trans rfl) (froz_of_heap hpQ) _ _ _ rfl) ?_
 rw [fA_18.2.1]
 refine ⟨fun h=>absurd h (by decide),?_⟩
 refine ⟨by kernel_rfl,rfl,hsC,?_⟩
 obtain ⟨w1,w2,wL,g1,o1,g2,o2,g3,g4⟩:=hW
 exact ⟨lv,_,_,w1,w2,wL,w,wP,g1,o1,g2,o2,g3,g4,hownP,hgP,rfl⟩
theorem rA_3t (h:Rx B bp 69 nL ad l rest Lv Cv av lvs w3) (hs:Same 45 61 a0 a) (sz:a0.tmps.size=124) (e6:a0.eval (.tmp 6) = .pointer (some ⟨bp,0,none⟩))
 (e52:a.eval (.tmp 52)=L') (hL':∃ g c,L' = .slice (some ⟨g,0,none⟩) (nL+1) c) (e55:a.eval (.tmp 55)=Cv) (e56:a.eval (.tmp 56)=v56)
 (hW:W3 B nL l Lv lvs w3 w lv L') (hb:Bk w3 w v56 (.bool true) 4) :
 wpU Tryz.prog .any opsA (QA_ a0 (Px B bp nL l Lv Cv lvs w3)) (Sx bp ad Lv Cv av) 15 7 (lsA [0,1,2,3,4,5,6,7,8,9,10,11]) a w:=by
 have hsz:a.tmps.size=124:=hs.1.trans sz
 have hS:=h.s3 hW
 refine wpU_take2 (i:=13) 14 atA_13 (by kernel_rfl) (by kernel_rfl) (by kernel_rfl) (fun _ _ _ h=>by cases h.1) (by decide) (bind_of (by kernel_rfl)) (by decide) (bind_of (by kernel_rfl)) (by kernel_rfl) (by kernel_rfl) (yif_field (p:=.pointer (some ⟨bp,0,none⟩)) fA_13.2.2.1 fA_13.1 ((hs.2.2 6 (by decide)).trans e6) (fld79_0 bp)) hS ?_
 rw [fA_13.2.1]
 refine wpU_take (i:=14) atA_14 (by kernel_rfl) (by kernel_rfl) (by kernel_rfl) (fun _ _ _ h=>by cases h.1) (by decide) (bind_of (by kernel_rfl)) (by kernel_rfl) (yif_field fA_14.2.2.1 fA_14.1 (eval_same (by omega)) (fld30_0 bp)) hS ?_
 rw [fA_14.2.1]
 refine wpU_list (l':=lsA [0,1,2,3,4,5,6,7,8,9,10,11,13,14]) (by kernel_rfl) ?_
 refine rA_fin h ((hs.put (by decide) (by decide)).put (by decide) (by decide)) sz e6 ?_ hL' ?_ ?_ (eval_same (by rw [size_put]; omega)) hW hb
 · exact (eval_ne (by decide)).trans ((eval_ne (by decide)).trans e52)
 · exact (eval_ne (by decide)).trans ((eval_ne (by decide)).trans e55)
 · exact (eval_ne (by decide)).trans ((eval_ne (by decide)).trans e56)
theorem op11 {K:Act→World→Prop} {Q:Exit→Act→World→Prop} (hw:w3.heap.size≤w.heap.size) (h:∀ v56,Bk w3 (w.alloc (.cells #[.bool true] 4)) v56 (.bool true) 4→K (a.put (some 56) v56) (w.alloc (.cells #[.bool true] 4))):wpOp Tryz.prog opsA Q 11 K a w:=by
 refine wpOp_at atA_11 fA_11.2.2.1 ?_
 have h1:=fA_11.1
 have h2:=fA_11.2.1
 generalize opA 11=o at *
 refine wp_slice_at h1 (v:=.slice (some ⟨w.heap.size,0,none⟩) 1 1) (w':=w.alloc (.cells #[.bool true] 4)) (by simp only [List.map_toArray,List.map_cons,List.map_nil]; exact bs28 w) ?_
 rw [h2]
 exact h _ (Bk.new hw)
theorem rA_3f (h:Rx B bp 69 nL ad l rest Lv Cv av lvs w3) (hs:Same 45 61 a0 a) (sz:a0.tmps.size=124) (e6:a0.eval (.tmp 6) = .pointer (some ⟨bp,0,none⟩))
 (e52:a.eval (.tmp 52)=L') (hL':∃ g c,L' = .slice (some ⟨g,0,none⟩) (nL+1) c) (e55:a.eval (.tmp 55)=Cv) (hW:W3 B nL l Lv lvs w3 w lv L') :
 wpU Tryz.prog .any opsA (QA_ a0 (Px B bp nL l Lv Cv lvs w3)) (Sx bp ad Lv Cv av) 15 8 (lsA [0,1,2,3,4,5,6,7,8,9,10]) a w:=by
 have hsz:a.tmps.size=124:=hs.1.trans sz
 have hS:=h.s3 hW
 refine wpU_take2 (i:=13) 14 atA_13 (by kernel_rfl) (by kernel_rfl) (by kernel_rfl) (fun _ _ _ h=>by cases h.1) (by decide) (bind_of (by kernel_rfl)) (by decide) (bind_of (by kernel_rfl)) (by kernel_rfl) (by kernel_rfl) (yif_field (p:=.pointer (some ⟨bp,0,none⟩)) fA_13.2.2.1 fA_13.1 ((hs.2.2 6 (by decide)).trans e6) (fld79_0 bp)) hS ?_
 rw [fA_13.2.1]
 refine wpU_take (i:=14) atA_14 (by kernel_rfl) (by kernel_rfl) (by kernel_rfl) (fun _ _ _ h=>by cases h.1) (by decide) (bind_of (by kernel_rfl)) (by kernel_rfl) (yif_field fA_14.2.2.1 fA_14.1 (eval_same (by omega)) (fld30_0 bp)) hS ?_
 rw [fA_14.2.1]
 refine wpU_all (rs:=[11]) (by kernel_rfl) (by simp) (fun i hi=>?_)
 obtain rfl:i=11:=by simpa using hi
 refine op11 hW.g.size fun v56 hb=>?_
 have hW':=hW.on (World.grownBy_alloc w (.cells #[.bool true] 4) none)
 refine ⟨fun _=>h.s3 hW',?_⟩
 refine wpU_list (l':=lsA [0,1,2,3,4,5,6,7,8,9,10,11,13,14]) (by kernel_rfl) ?_
 refine rA_fin h (((hs.put (by decide) (by decide)).put (by decide) (by decide)).put (by decide) (by decide)) sz e6 ?_ hL' ?_ (eval_same (by rw [size_put,size_put]; omega)) ?_ hW' hb
 · exact (eval_ne (by decide)).trans ((eval_ne (by decide)).trans ((eval_ne (by decide)).trans e52))
 · exact (eval_ne (by decide)).trans ((eval_ne (by decide)).trans ((eval_ne (by decide)).trans e55))
 · exact (eval_ne (by decide)).trans (eval_same (by rw [size_put]; omega))
theorem op7 {K:Act→World→Prop} {Q:Exit→Act→World→Prop} (h:Rx B bp 69 nL ad l rest Lv Cv av lvs w3) (e47:a.eval (.tmp 47)=Lv) {v51:Value} (e51:a.eval (.tmp 51)=v51) (hl:lv.oneCell'=true) (hW:W1 B l w3 w lv) (hb:Bk w3 w v51 lv 37)
 (hK:∀ g c w',W3 B nL l Lv lvs w3 w' lv (.slice (some ⟨g,0,none⟩) (nL+1) c)→w.grownBy w' Lv.ownBlock→K (a.put (some 52) (.slice (some ⟨g,0,none⟩) (nL+1) c)) w'):wpOp Tryz.prog opsA Q 7 K a w:=by
 obtain ⟨i45,hi45,h450,h451,h452⟩:=info_parts infoInts
 obtain ⟨b,rfl,hbk,hb3⟩:=hb
 have n6:=h.n6
 refine wpOp_at atA_7 fA_7.2.2.1 ?_
 refine wp_append_lies w (.tmp 47) (.tmp 51) 27 fA_7.1 B 37 i45 (.slice none 0 0) 1 24 Tryz.underlying27 hi45 h450 h451 h452 rfl (by omega) Lv nL _ e47 (own_none h.oL hW.g) ⟨b,0,none⟩ 1 1 [lv] e51 (by rfl)
  (World.news_of_block hbk) (by simp [hl]) (by omega) (by unfold maxLen; omega) (by omega) (Nat.le_trans h.sB hW.g.size) _ rfl ?_
 intro gP capP wP hownP hgP hatP hltP
 rw [fA_7.2.1]
 obtain ⟨w1,g1,o1,g2⟩:=hW
 exact hK _ _ _ ⟨w1,w,wP,g1,o1,g2,hownP,hgP,⟨rfl,rfl,rfl,Nat.le_refl _,fun _ _ _=>rfl⟩⟩ hgP
theorem rA_2t (h:Rx B bp 69 nL ad l rest Lv Cv av lvs w3) (hs:Same 45 61 a0 a) (sz:a0.tmps.size=124) (e6:a0.eval (.tmp 6) = .pointer (some ⟨bp,0,none⟩))
 (e47:a.eval (.tmp 47)=Lv) {v51:Value} (e51:a.eval (.tmp 51)=v51) (e55:a.eval (.tmp 55)=Cv) (e56:a.eval (.tmp 56)=v56) (hl:lv.oneCell'=true)
 (hW:W1 B l w3 w lv) (hb1:Bk w3 w v51 lv 37) (hb:Bk w3 w v56 (.bool true) 4) :
 wpU Tryz.prog .any opsA (QA_ a0 (Px B bp nL l Lv Cv lvs w3)) (Sx bp ad Lv Cv av) 15 8 (lsA [0,1,2,3,4,5,6,8,9,10,11]) a w:=by
 have hsz:a.tmps.size=124:=hs.1.trans sz
 refine wpU_all (rs:=[7]) (by kernel_rfl) (by simp) (fun i hi=>?_)
 obtain rfl:i=7:=by simpa using hi
 refine op7 h e47 e51 hl hW hb1 fun g c w' hW' hg=>⟨fun _=>h.s3 hW',?_⟩
 refine wpU_list (l':=lsA [0,1,2,3,4,5,6,7,8,9,10,11]) (by kernel_rfl) ?_
 exact rA_3t h (hs.put (by decide) (by decide)) sz e6 (eval_same (by omega)) ⟨_,_,rfl⟩ ((eval_ne (by decide)).trans e55) ((eval_ne (by decide)).trans e56) hW' (hb.onL h hg)
theorem rA_2f (h:Rx B bp 69 nL ad l rest Lv Cv av lvs w3) (hs:Same 45 61 a0 a) (sz:a0.tmps.size=124) (e6:a0.eval (.tmp 6) = .pointer (some ⟨bp,0,none⟩))
 (e47:a.eval (.tmp 47)=Lv) {v51:Value} (e51:a.eval (.tmp 51)=v51) (e55:a.eval (.tmp 55)=Cv) (hl:lv.oneCell'=true)
 (hW:W1 B l w3 w lv) (hb1:Bk w3 w v51 lv 37) :
 wpU Tryz.prog .any opsA (QA_ a0 (Px B bp nL l Lv Cv lvs w3)) (Sx bp ad Lv Cv av) 15 9 (lsA [0,1,2,3,4,5,6,8,9,10]) a w:=by
 have hsz:a.tmps.size=124:=hs.1.trans sz
 refine wpU_all (rs:=[7,11]) (by kernel_rfl) (by simp) (fun i hi=>?_)
 have hi':i=7∨i=11:=by simpa using hi
 rcases hi' with rfl | rfl
 · refine op7 h e47 e51 hl hW hb1 fun g c w' hW' hg=>⟨fun _=>h.s3 hW',?_⟩
   refine wpU_list (l':=lsA [0,1,2,3,4,5,6,7,8,9,10]) (by kernel_rfl) ?_
   exact rA_3f h (hs.put (by decide) (by decide)) sz e6 (eval_same (by omega)) ⟨_,_,rfl⟩ ((eval_ne (by decide)).trans e55) hW'
 · have g:=World.grownBy_alloc w (.cells #[.bool true] 4) none
   refine op11 hW.g.size fun v56 hb=>⟨fun _=>h.s0 (hW.on g).g,?_⟩
   refine wpU_list (l':=lsA [0,1,2,3,4,5,6,8,9,10,11]) (by kernel_rfl) ?_
   exact rA_2t h (hs.put (by decide) (by decide)) sz e6 ((eval_ne (by decide)).trans e47) ((eval_ne (by decide)).trans e51) ((eval_ne (by decide)).trans e55) (eval_same (by omega)) hl (hW.on g) (hb1.on g) hb
theorem op6 {K:Act→World→Prop} {Q:Exit→Act→World→Prop} (e50:a.eval (.tmp 50)=lv) (hl:∃ p n c,lv = .slice p n c) (hW:W1 B l w3 w lv) (hK:∀ v51,Bk w3 (w.alloc (.cells #[lv] 37)) v51 lv 37→K (a.put (some 51) v51) (w.alloc (.cells #[lv] 37))):wpOp Tryz.prog opsA Q 6 K a w:=by
 obtain ⟨p,n,c,rfl⟩:=hl
 refine wpOp_at atA_6 fA_6.2.2.1 ?_
 have h1:=fA_6.1
 have h2:=fA_6.2.1
 generalize opA 6=o at *
 refine wp_slice_at h1 (v:=.slice (some ⟨w.heap.size,0,none⟩) 1 1) (w':=w.alloc (.cells #[.slice p n c] 37)) (by simp only [List.map_toArray,List.map_cons,List.map_nil,e50]; exact bs27 w p n c) ?_
 rw [h2]
 exact hK _ (Bk.new hW.g.size)
theorem rA_1t (h:Rx B bp 69 nL ad l rest Lv Cv av lvs w3) (hs:Same 45 61 a0 a) (sz:a0.tmps.size=124) (e6:a0.eval (.tmp 6) = .pointer (some ⟨bp,0,none⟩))
 (e47:a.eval (.tmp 47)=Lv) (e50:a.eval (.tmp 50)=lv) (e55:a.eval (.tmp 55)=Cv) (e56:a.eval (.tmp 56)=v56) (hl:∃ p n c,lv = .slice p n c)
 (hW:W1 B l w3 w lv) (hb:Bk w3 w v56 (.bool true) 4) :
 wpU Tryz.prog .any opsA (QA_ a0 (Px B bp nL l Lv Cv lvs w3)) (Sx bp ad Lv Cv av) 15 9 (lsA [0,1,2,3,4,5,8,9,10,11]) a w:=by
 have hsz:a.tmps.size=124:=hs.1.trans sz
 have g:=World.grownBy_alloc w (.cells #[lv] 37) none
 refine wpU_all (rs:=[6]) (by kernel_rfl) (by simp) (fun i hi=>?_)
 obtain rfl:i=6:=by simpa using hi
 refine op6 e50 hl hW fun v51 hb1=>⟨fun _=>h.s0 (hW.on g).g,?_⟩
 refine wpU_list (l':=lsA [0,1,2,3,4,5,6,8,9,10,11]) (by kernel_rfl) ?_
 exact rA_2t h (hs.put (by decide) (by decide)) sz e6 ((eval_ne (by decide)).trans e47) (eval_same (by omega)) ((eval_ne (by decide)).trans e55) ((eval_ne (by decide)).trans e56) (by obtain ⟨p,n,c,rfl⟩:=hl; rfl) (hW.on g) hb1 (hb.on g)
theorem rA_1f (h:Rx B bp 69 nL ad l rest Lv Cv av lvs w3) (hs:Same 45 61 a0 a) (sz:a0.tmps.size=124) (e6:a0.eval (.tmp 6) = .pointer (some ⟨bp,0,none⟩))
 (e47:a.eval (.tmp 47)=Lv) (e50:a.eval (.tmp 50)=lv) (e55:a.eval (.tmp 55)=Cv) (hl:∃ p n c,lv = .slice p n c) (hW:W1 B l w3 w lv) :
 wpU Tryz.prog .any opsA (QA_ a0 (Px B bp nL l Lv Cv lvs w3)) (Sx bp ad Lv Cv av) 15 10 (lsA [0,1,2,3,4,5,8,9,10]) a w:=by
 have hsz:a.tmps.size=124:=hs.1.trans sz
 refine wpU_all (rs:=[6,11]) (by kernel_rfl) (by simp) (fun i hi=>?_)
 have hi':i=6∨i=11:=by simpa using hi
 rcases hi' with rfl | rfl
 · have g:=World.grownBy_alloc w (.cells #[lv] 37) none
   refine op6 e50 hl hW fun v51 hb1=>⟨fun _=>h.s0 (hW.on g).g,?_⟩
   refine wpU_list (l':=lsA [0,1,2,3,4,5,6,8,9,10]) (by kernel_rfl) ?_
   exact rA_2f h (hs.put (by decide) (by decide)) sz e6 ((eval_ne (by decide)).trans e47) (eval_same (by omega)) ((eval_ne (by decide)).trans e55) (by obtain ⟨p,n,c,rfl⟩:=hl; rfl) (hW.on g) hb1
 · have g:=World.grownBy_alloc w (.cells #[.bool true] 4) none
   refine op11 hW.g.size fun v56 hb=>⟨fun _=>h.s0 (hW.on g).g,?_⟩
   refine wpU_list (l':=lsA [0,1,2,3,4,5,8,9,10,11]) (by kernel_rfl) ?_
   exact rA_1t h (hs.put (by decide) (by decide)) sz e6 ((eval_ne (by decide)).trans e47) ((eval_ne (by decide)).trans e50) ((eval_ne (by decide)).trans e55) (eval_same (by omega)) hl (hW.on g) hb
theorem op5 {K:Act→World→Prop} {Q:Exit→Act→World→Prop} (hcl:∀ w2,w3.grownBy w2 none→Calls Tryz.prog 79 #[av] w2 fun e w'=>∃ v',e = .returned v'∧w'.ownsRow B 3 1 v' l.length (l.map (Value.int .i64))∧w2.grownBy w' none)
 (e49:a.eval (.tmp 49)=av) (hg:w3.grownBy w none) (hK:∀ lv w',(∃ p n c,lv = .slice p n c)→W1 B l w3 w' lv→w.grownBy w' none→K (a.put (some 50) lv) w'):wpOp Tryz.prog opsA Q 5 K a w:=by
 refine wpOp_at atA_5 fA_5.2.2.1 ?_
 have h1:=fA_5.1
 have h2:=fA_5.2.1
 generalize opA 5=o at *
 refine wp_call_at (by kernel_rfl) h1 e49 ((hcl w hg).mono ?_)
 rintro e w' ⟨v',rfl,ho,hg'⟩
 rw [h2]
 refine hK v' w' ?_ ⟨w',grown_trans hg hg',ho,⟨rfl,rfl,rfl,Nat.le_refl _,fun _ _ _=>rfl⟩⟩ hg'
 rcases ho.2 with ⟨rfl,_⟩ | ⟨g,c,cur,rfl,_⟩
 · exact ⟨_,_,_,rfl⟩
 · exact ⟨_,_,_,rfl⟩
theorem rA_0t (h:Rx B bp 69 nL ad l rest Lv Cv av lvs w3) (hcl:∀ w2,w3.grownBy w2 none→Calls Tryz.prog 79 #[av] w2 fun e w'=>∃ v',e = .returned v'∧w'.ownsRow B 3 1 v' l.length (l.map (Value.int .i64))∧w2.grownBy w' none)
 (hs:Same 45 61 a0 a) (sz:a0.tmps.size=124) (e6:a0.eval (.tmp 6) = .pointer (some ⟨bp,0,none⟩))
 (e47:a.eval (.tmp 47)=Lv) (e49:a.eval (.tmp 49)=av) (e55:a.eval (.tmp 55)=Cv) (e56:a.eval (.tmp 56)=v56) (hg:w3.grownBy w none) (hb:Bk w3 w v56 (.bool true) 4) :
 wpU Tryz.prog .any opsA (QA_ a0 (Px B bp nL l Lv Cv lvs w3)) (Sx bp ad Lv Cv av) 15 10 (lsA [0,1,2,3,4,8,9,10,11]) a w:=by
 have hsz:a.tmps.size=124:=hs.1.trans sz
 refine wpU_all (rs:=[5]) (by kernel_rfl) (by simp) (fun i hi=>?_)
 obtain rfl:i=5:=by simpa using hi
 refine op5 hcl e49 hg fun lv w' hl hW hg'=>⟨fun _=>h.s0 hW.g,?_⟩
 refine wpU_list (l':=lsA [0,1,2,3,4,5,8,9,10,11]) (by kernel_rfl) ?_
 exact rA_1t h (hs.put (by decide) (by decide)) sz e6 ((eval_ne (by decide)).trans e47) (eval_same (by omega)) ((eval_ne (by decide)).trans e55) ((eval_ne (by decide)).trans e56) hl hW (hb.on hg')
theorem rA_0f (h:Rx B bp 69 nL ad l rest Lv Cv av lvs w3) (hcl:∀ w2,w3.grownBy w2 none→Calls Tryz.prog 79 #[av] w2 fun e w'=>∃ v',e = .returned v'∧w'.ownsRow B 3 1 v' l.length (l.map (Value.int .i64))∧w2.grownBy w' none)
 (hs:Same 45 61 a0 a) (sz:a0.tmps.size=124) (e6:a0.eval (.tmp 6) = .pointer (some ⟨bp,0,none⟩))
 (e47:a.eval (.tmp 47)=Lv) (e49:a.eval (.tmp 49)=av) (e55:a.eval (.tmp 55)=Cv) (hg:w3.grownBy w none) :
 wpU Tryz.prog .any opsA (QA_ a0 (Px B bp nL l Lv Cv lvs w3)) (Sx bp ad Lv Cv av) 15 11 (lsA [0,1,2,3,4,8,9,10]) a w:=by
 have hsz:a.tmps.size=124:=hs.1.trans sz
 refine wpU_all (rs:=[5,11]) (by kernel_rfl) (by simp) (fun i hi=>?_)
 have hi':i=5∨i=11:=by simpa using hi
 rcases hi' with rfl | rfl
 · refine op5 hcl e49 hg fun lv w' hl hW hg'=>⟨fun _=>h.s0 hW.g,?_⟩
   refine wpU_list (l':=lsA [0,1,2,3,4,5,8,9,10]) (by kernel_rfl) ?_
   exact rA_1f h (hs.put (by decide) (by decide)) sz e6 ((eval_ne (by decide)).trans e47) (eval_same (by omega)) ((eval_ne (by decide)).trans e55) hl hW
 · have g:=World.grownBy_alloc w (.cells #[.bool true] 4) none
   refine op11 hg.size fun v56 hb=>⟨fun _=>h.s0 (grown_trans hg g),?_⟩
   refine wpU_list (l':=lsA [0,1,2,3,4,8,9,10,11]) (by kernel_rfl) ?_
   exact rA_0t h hcl (hs.put (by decide) (by decide)) sz e6 ((eval_ne (by decide)).trans e47) ((eval_ne (by decide)).trans e49) ((eval_ne (by decide)).trans e55) (eval_same (by omega)) (grown_trans hg g) hb
theorem rA_c (h:Rx B bp 69 nL ad l rest Lv Cv av lvs w3) (hcl:∀ w2,w3.grownBy w2 none→Calls Tryz.prog 79 #[av] w2 fun e w'=>∃ v',e = .returned v'∧w'.ownsRow B 3 1 v' l.length (l.map (Value.int .i64))∧w2.grownBy w' none)
 (sz:a0.tmps.size=124) (e6:a0.eval (.tmp 6) = .pointer (some ⟨bp,0,none⟩)) {ba:Nat} (e11:a0.eval (.tmp 11) = .pointer (some ⟨ba,0,none⟩)) (had:ad=⟨ba,2,none⟩) :
 (Code.region 10 opsA true).wp Tryz.prog (QA_ a0 (Px B bp nL l Lv Cv lvs w3)) a0 w3:=by
 subst had
 have hg:w3.grownBy w3.drew none:=⟨rfl,rfl,rfl,Nat.le_refl _,fun _ _ _=>rfl⟩
 have hS:=h.s0 hg
 refine wp_region_u (S:=Sx bp ⟨ba,2,none⟩ Lv Cv av) (st:=15) (by kernel_rfl) ?_
 rw [show opsA.size=19 by kernel_rfl]
 show wpU Tryz.prog .any opsA _ _ 15 19 _ a0 w3.drew
 refine wpU_take (i:=0) atA_0 (by kernel_rfl) (by kernel_rfl) (by kernel_rfl) (fun _ _ _ h=>by cases h.1) (by decide) (bind_of (by kernel_rfl)) (by kernel_rfl) (yif_field fA_0.2.2.1 fA_0.1 e6 (fld79_0 bp)) hS ?_
 rw [fA_0.2.1]
 refine wpU_take (i:=1) atA_1 (by kernel_rfl) (by kernel_rfl) (by kernel_rfl) (fun _ _ _ h=>by cases h.1) (by decide) (bind_of (by kernel_rfl)) (by kernel_rfl) (yif_field fA_1.2.2.1 fA_1.1 (eval_same (by omega)) (fld30_0 bp)) hS ?_
 rw [fA_1.2.1]
 refine wpU_take (i:=2) atA_2 (by kernel_rfl) (by kernel_rfl) (by kernel_rfl) (fun _ _ _ h=>by cases h.1) (by decide) (bind_of (by kernel_rfl)) (by kernel_rfl) (yif_load fA_2.2.2.1 fA_2.1 (eval_same (by simp only [size_put]; omega)) (fun w hw=>ld27 _ _ w hw.2.1)) hS ?_
 rw [fA_2.2.1]
 refine wpU_take (i:=3) atA_3 (by kernel_rfl) (by kernel_rfl) (by kernel_rfl) (fun _ _ _ h=>by cases h.1) (by decide) (bind_of (by kernel_rfl)) (by kernel_rfl) (yif_field fA_3.2.2.1 fA_3.1 (by simp only [eval_ne,ne_eq,Nat.reduceEqDiff,not_false_eq_true]; exact e11) (fld60_2 ba)) hS ?_
 rw [fA_3.2.1]
 refine wpU_take (i:=4) atA_4 (by kernel_rfl) (by kernel_rfl) (by kernel_rfl) (fun _ _ _ h=>by cases h.1) (by decide) (bind_of (by kernel_rfl)) (by kernel_rfl) (yif_load fA_4.2.2.1 fA_4.1 (eval_same (by simp only [size_put]; omega)) (fun w hw=>ld45 _ _ w hw.1)) hS ?_
 rw [fA_4.2.1]
 refine wpU_take (i:=8) atA_8 (by kernel_rfl) (by kernel_rfl) (by kernel_rfl) (fun _ _ _ h=>by cases h.1) (by decide) (bind_of (by kernel_rfl)) (by kernel_rfl) (yif_field fA_8.2.2.1 fA_8.1 (by simp only [eval_ne,ne_eq,Nat.reduceEqDiff,not_false_eq_true]; exact e6) (fld79_0 bp)) hS ?_
 rw [fA_8.2.1]
 refine wpU_take (i:=9) atA_9 (by kernel_rfl) (by kernel_rfl) (by kernel_rfl) (fun _ _ _ h=>by cases h.1) (by decide) (bind_of (by kernel_rfl)) (by kernel_rfl) (yif_field fA_9.2.2.1 fA_9.1 (eval_same (by simp only [size_put]; omega)) (fld79_1 bp)) hS ?_
 rw [fA_9.2.1]
 refine wpU_take (i:=10) atA_10 (by kernel_rfl) (by kernel_rfl) (by kernel_rfl) (fun _ _ _ h=>by cases h.1) (by decide) (bind_of (by kernel_rfl)) (by kernel_rfl) (yif_load fA_10.2.2.1 fA_10.1 (eval_same (by simp only [size_put]; omega)) (fun w hw=>ld28 _ _ w hw.2.2)) hS ?_
 rw [fA_10.2.1]
 refine wpU_list (l':=lsA [0,1,2,3,4,8,9,10]) (by kernel_rfl) ?_
 have s0:=Same.refl 45 61 a0
 refine rA_0f h hcl ((((((((s0.put ?_ ?_).put ?_ ?_).put ?_ ?_).put ?_ ?_).put ?_ ?_).put ?_ ?_).put ?_ ?_).put ?_ ?_) sz e6 ?_ ?_ ?_ hg
 all_goals first | decide | skip
 · simp only [eval_ne,ne_eq,Nat.reduceEqDiff,not_false_eq_true]
   exact eval_same (by simp only [size_put]; omega)
 · simp only [eval_ne,ne_eq,Nat.reduceEqDiff,not_false_eq_true]
   exact eval_same (by simp only [size_put]; omega)
 · exact eval_same (by simp only [size_put]; omega)
end
end Lb
end Go.Proofs
namespace Go.Proofs
open Go.RowKit
namespace Lb
def mA:ByteArray:=⟨#[100,101,102,32,109,97,105,110,40]⟩
def mB:ByteArray:=⟨#[41,32,45,62,32]⟩
def mC:ByteArray:=⟨#[32,123,32,103,105,118,101,32]⟩
def mD:ByteArray:=⟨#[40]⟩
def mE:ByteArray:=⟨#[41,32,125,10]⟩
theorem mA_size:mA.size=9:=rfl
theorem mB_size:mB.size=5:=rfl
theorem mC_size:mC.size=8:=rfl
theorem mD_size:mD.size=1:=rfl
theorem mE_size:mE.size=4:=rfl
def mainB (j1 j2 nm j3:ByteArray):ByteArray:=mA++j1++mB++j2++mC++nm++mD++j3++mE
noncomputable def opsC:Array Oper:=regIn 23 Tryz.f35
noncomputable def opC (i:Nat):Oper:=opsC.getD i default
theorem atC_0:opsC[0]? = some (opC 0):=by kernel_rfl
theorem fC_0:(opC 0).op = .move (.tmp 8)∧(opC 0).dst=some 103∧(opC 0).guard=none∧(opC 0).type=108:=by refine ⟨?_,?_,?_,?_⟩ <;> kernel_rfl
theorem atC_1:opsC[1]? = some (opC 1):=by kernel_rfl
theorem fC_1:(opC 1).op = .call { callee:=.value (.func 82),args:=#[.tmp 103,.const (.string { data:=#[44,32] })],argTypes:=#[108,9] }∧(opC 1).dst=some 104∧(opC 1).guard=none∧(opC 1).type=9:=by refine ⟨?_,?_,?_,?_⟩ <;> kernel_rfl
theorem atC_2:opsC[2]? = some (opC 2):=by kernel_rfl
theorem fC_2:(opC 2).op = .binOp .add 9 (.const (.string { data:=#[100,101,102,32,109,97,105,110,40] })) (.tmp 104) 9∧(opC 2).dst=some 105∧(opC 2).guard=none∧(opC 2).type=9:=by refine ⟨?_,?_,?_,?_⟩ <;> kernel_rfl
theorem atC_3:opsC[3]? = some (opC 3):=by kernel_rfl
theorem fC_3:(opC 3).op = .binOp .add 9 (.tmp 105) (.const (.string { data:=#[41,32,45,62,32] })) 9∧(opC 3).dst=some 106∧(opC 3).guard=none∧(opC 3).type=9:=by refine ⟨?_,?_,?_,?_⟩ <;> kernel_rfl
theorem atC_4:opsC[4]? = some (opC 4):=by kernel_rfl
theorem fC_4:(opC 4).op = .fieldAddr 110 (.tmp 4) 3∧(opC 4).dst=some 107∧(opC 4).guard=none∧(opC 4).type=0:=by refine ⟨?_,?_,?_,?_⟩ <;> kernel_rfl
theorem atC_5:opsC[5]? = some (opC 5):=by kernel_rfl
theorem fC_5:(opC 5).op = .load 108 (.tmp 107)∧(opC 5).dst=some 108∧(opC 5).guard=none∧(opC 5).type=108:=by refine ⟨?_,?_,?_,?_⟩ <;> kernel_rfl
theorem atC_6:opsC[6]? = some (opC 6):=by kernel_rfl
theorem fC_6:(opC 6).op = .call { callee:=.value (.func 82),args:=#[.tmp 108,.const (.string { data:=#[44,32] })],argTypes:=#[108,9] }∧(opC 6).dst=some 109∧(opC 6).guard=none∧(opC 6).type=9:=by refine ⟨?_,?_,?_,?_⟩ <;> kernel_rfl
theorem atC_7:opsC[7]? = some (opC 7):=by kernel_rfl
theorem fC_7:(opC 7).op = .binOp .add 9 (.tmp 106) (.tmp 109) 9∧(opC 7).dst=some 110∧(opC 7).guard=none∧(opC 7).type=9:=by refine ⟨?_,?_,?_,?_⟩ <;> kernel_rfl
theorem atC_8:opsC[8]? = some (opC 8):=by kernel_rfl
theorem fC_8:(opC 8).op = .binOp .add 9 (.tmp 110) (.const (.string { data:=#[32,123,32,103,105,118,101,32] })) 9∧(opC 8).dst=some 111∧(opC 8).guard=none∧(opC 8).type=9:=by refine ⟨?_,?_,?_,?_⟩ <;> kernel_rfl
theorem atC_9:opsC[9]? = some (opC 9):=by kernel_rfl
theorem fC_9:(opC 9).op = .fieldAddr 110 (.tmp 4) 0∧(opC 9).dst=some 112∧(opC 9).guard=none∧(opC 9).type=0:=by refine ⟨?_,?_,?_,?_⟩ <;> kernel_rfl
theorem atC_10:opsC[10]? = some (opC 10):=by kernel_rfl
theorem fC_10:(opC 10).op = .load 9 (.tmp 112)∧(opC 10).dst=some 113∧(opC 10).guard=none∧(opC 10).type=9:=by refine ⟨?_,?_,?_,?_⟩ <;> kernel_rfl
theorem atC_11:opsC[11]? = some (opC 11):=by kernel_rfl
theorem fC_11:(opC 11).op = .binOp .add 9 (.tmp 111) (.tmp 113) 9∧(opC 11).dst=some 114∧(opC 11).guard=none∧(opC 11).type=9:=by refine ⟨?_,?_,?_,?_⟩ <;> kernel_rfl
theorem atC_12:opsC[12]? = some (opC 12):=by kernel_rfl
theorem fC_12:(opC 12).op = .binOp .add 9 (.tmp 114) (.const (.string { data:=#[40] })) 9∧(opC 12).dst=some 115∧(opC 12).guard=none∧(opC 12).type=9:=by refine ⟨?_,?_,?_,?_⟩ <;> kernel_rfl
theorem atC_13:opsC[13]? = some (opC 13):=by kernel_rfl
theorem fC_13:(opC 13).op = .move (.tmp 9)∧(opC 13).dst=some 116∧(opC 13).guard=none∧(opC 13).type=108:=by refine ⟨?_,?_,?_,?_⟩ <;> kernel_rfl
theorem atC_14:opsC[14]? = some (opC 14):=by kernel_rfl
theorem fC_14:(opC 14).op = .call { callee:=.value (.func 82),args:=#[.tmp 116,.const (.string { data:=#[44,32] })],argTypes:=#[108,9] }∧(opC 14).dst=some 117∧(opC 14).guard=none∧(opC 14).type=9:=by refine ⟨?_,?_,?_,?_⟩ <;> kernel_rfl
theorem atC_15:opsC[15]? = some (opC 15):=by kernel_rfl
theorem fC_15:(opC 15).op = .binOp .add 9 (.tmp 115) (.tmp 117) 9∧(opC 15).dst=some 118∧(opC 15).guard=none∧(opC 15).type=9:=by refine ⟨?_,?_,?_,?_⟩ <;> kernel_rfl
theorem atC_16:opsC[16]? = some (opC 16):=by kernel_rfl
theorem fC_16:(opC 16).op = .binOp .add 9 (.tmp 118) (.const (.string { data:=#[41,32,125,10] })) 9∧(opC 16).dst=some 119∧(opC 16).guard=none∧(opC 16).type=9:=by refine ⟨?_,?_,?_,?_⟩ <;> kernel_rfl
theorem atC_17:opsC[17]? = some (opC 17):=by kernel_rfl
theorem fC_17:(opC 17).op = .call { callee:=.value (.func 81),args:=#[.tmp 13,.tmp 119],argTypes:=#[186,9] }∧(opC 17).dst=some 120∧(opC 17).guard=none∧(opC 17).type=190:=by refine ⟨?_,?_,?_,?_⟩ <;> kernel_rfl
def Sc (bd:Nat) (rv:Value) (nm:ByteArray) (w:World):Prop:=w.cell? ⟨bd,3,none⟩=some rv∧w.cell? ⟨bd,0,none⟩=some (.string nm)
theorem Sc.on {bd:Nat} {rv:Value} {nm:ByteArray} {w w':World} (h:Sc bd rv nm w) (g:w.grownBy w' none):Sc bd rv nm w':=⟨g.cell h.1 (by simp),g.cell h.2 (by simp)⟩
set_option maxHeartbeats 2000000 in
set_option maxRecDepth 100000 in
theorem rC_c {a0:Act} {w3:World} {pa gi rv:Value} {bd bb:Nat} {j1 j2 j3 nm:ByteArray} {X:World→Prop} (sz:a0.tmps.size=124) (e8:a0.eval (.tmp 8)=pa) (e9:a0.eval (.tmp 9)=gi) (e4:a0.eval (.tmp 4) = .pointer (some ⟨bd,0,none⟩)) (e13:a0.eval (.tmp 13) = .pointer (some ⟨bb,0,none⟩))
 (hS:Sc bd rv nm w3) (hj1:∀ w2,w3.grownBy w2 none→Calls Tryz.prog 82 #[pa,.string sepB] w2 fun e w'=>e = .returned (.string j1)∧w2.grownBy w' none) (hj2:∀ w2,w3.grownBy w2 none→Calls Tryz.prog 82 #[rv,.string sepB] w2 fun e w'=>e = .returned (.string j2)∧w2.grownBy w' none)
 (hj3:∀ w2,w3.grownBy w2 none→Calls Tryz.prog 82 #[gi,.string sepB] w2 fun e w'=>e = .returned (.string j3)∧w2.grownBy w' none)
 (hws:∀ w2,w3.grownBy w2 none→Calls Tryz.prog 81 #[.pointer (some ⟨bb,0,none⟩),.string (mainB j1 j2 nm j3)] w2 fun e w'=>e = .returned (.tuple #[.int .i64 (mainB j1 j2 nm j3).size,.nilIface])∧X w'∧Sc bd rv nm w')
 (l1:j1.size≤1000000) (l2:j2.size≤1000000) (l3:j3.size≤1000000) (ln:nm.size≤1000000) :
 (Code.region 23 opsC true).wp Tryz.prog (fun e a' w'=>e = .normal∧Same 103 120 a0 a'∧X w') a0 w3:=by
 refine wp_region_held (S:=Sc bd rv nm) (by kernel_rfl) ?_
 rw [show opsC.size=18 by kernel_rfl]
 show wpAnyH Tryz.prog .any opsC _ _ 18 _ a0 w3.drew
 have hg0:w3.grownBy w3.drew none:=⟨rfl,rfl,rfl,Nat.le_refl _,fun _ _ _=>rfl⟩
 have hS:Sc bd rv nm w3.drew:=hS
 refine wpAnyH_take (i:=0) atC_0 (by kernel_rfl) (by kernel_rfl) (by kernel_rfl) (fun _ _ _ h=>by cases h.1) (yif_move (v:=pa) fC_0.2.2.1 fC_0.1 (by (try simp only [eval_ne,ne_eq,Nat.reduceEqDiff,not_false_eq_true]); first | with_reducible exact e8 | with_reducible exact e9 | with_reducible exact e4 | with_reducible exact e13 | exact eval_same (by (try simp only [size_put]); omega))) hS ?_
 rw [fC_0.2.1]
 refine wpAnyH_take (i:=4) atC_4 (by kernel_rfl) (by kernel_rfl) (by kernel_rfl) (fun _ _ _ h=>by cases h.1) (yif_field (p:=.pointer (some ⟨bd,3,none⟩)) fC_4.2.2.1 fC_4.1 (by (try simp only [eval_ne,ne_eq,Nat.reduceEqDiff,not_false_eq_true]); first | with_reducible exact e8 | with_reducible exact e9 | with_reducible exact e4 | with_reducible exact e13 | exact eval_same (by (try simp only [size_put]); omega)) (fld90_3 bd)) hS ?_
 rw [fC_4.2.1]
 refine wpAnyH_take (i:=5) atC_5 (by kernel_rfl) (by kernel_rfl) (by kernel_rfl) (fun _ _ _ h=>by cases h.1) (yif_load (p:=rv) fC_5.2.2.1 fC_5.1 (by (try simp only [eval_ne,ne_eq,Nat.reduceEqDiff,not_false_eq_true]); first | with_reducible exact e8 | with_reducible exact e9 | with_reducible exact e4 | with_reducible exact e13 | exact eval_same (by (try simp only [size_put]); omega)) (fun w hw=>ld36 _ _ w hw.1)) hS ?_
 rw [fC_5.2.1]
 refine wpAnyH_take (i:=9) atC_9 (by kernel_rfl) (by kernel_rfl) (by kernel_rfl) (fun _ _ _ h=>by cases h.1) (yif_field (p:=.pointer (some ⟨bd,0,none⟩)) fC_9.2.2.1 fC_9.1 (by (try simp only [eval_ne,ne_eq,Nat.reduceEqDiff,not_false_eq_true]); first | with_reducible exact e8 | with_reducible exact e9 | with_reducible exact e4 | with_reducible exact e13 | exact eval_same (by (try simp only [size_put]); omega)) (fld90_0 bd)) hS ?_
 rw [fC_9.2.1]
 refine wpAnyH_take (i:=10) atC_10 (by kernel_rfl) (by kernel_rfl) (by kernel_rfl) (fun _ _ _ h=>by cases h.1) (yif_load (p:=.string nm) fC_10.2.2.1 fC_10.1 (by (try simp only [eval_ne,ne_eq,Nat.reduceEqDiff,not_false_eq_true]); first | with_reducible exact e8 | with_reducible exact e9 | with_reducible exact e4 | with_reducible exact e13 | exact eval_same (by (try simp only [size_put]); omega)) (fun w hw=>ld9 _ _ w hw.2)) hS ?_
 rw [fC_10.2.1]
 refine wpAnyH_take (i:=13) atC_13 (by kernel_rfl) (by kernel_rfl) (by kernel_rfl) (fun _ _ _ h=>by cases h.1) (yif_move (v:=gi) fC_13.2.2.1 fC_13.1 (by (try simp only [eval_ne,ne_eq,Nat.reduceEqDiff,not_false_eq_true]); first | with_reducible exact e8 | with_reducible exact e9 | with_reducible exact e4 | with_reducible exact e13 | exact eval_same (by (try simp only [size_put]); omega))) hS ?_
 rw [fC_13.2.1]
 refine wpAnyH_all (rs:=[1]) (by kernel_rfl) (by simp) (fun i hi=>?_)
 obtain rfl:i=1:=by simpa using hi
 refine wpOp_at atC_1 fC_1.2.2.1 ?_
 have h1:=fC_1.1
 have h2:=fC_1.2.1
 generalize opC 1=o at *
 refine wp_call2_at (by kernel_rfl) h1 (by (try simp only [eval_ne,ne_eq,Nat.reduceEqDiff,not_false_eq_true]); first | with_reducible exact e8 | with_reducible exact e9 | with_reducible exact e4 | with_reducible exact e13 | exact eval_same (by (try simp only [size_put]); omega)) eval_const ((hj1 _ hg0).mono ?_)
 clear h1
 rintro e w1 ⟨rfl,hg⟩
 rw [h2]
 clear h2
 have hS:=hS.on hg
 have hg1:=grown_trans hg0 hg
 refine ⟨hS,?_⟩
 refine wpAnyH_take (i:=2) atC_2 (by kernel_rfl) (by kernel_rfl) (by kernel_rfl) (fun _ _ _ h=>by cases h.1) (yif_add (s:=mA) (t:=j1) fC_2.2.2.1 fC_2.1 eval_const (by (try simp only [eval_ne,ne_eq,Nat.reduceEqDiff,not_false_eq_true]); first | with_reducible exact e8 | with_reducible exact e9 | with_reducible exact e4 | with_reducible exact e13 | exact eval_same (by (try simp only [size_put]); omega)) (by simp only [mA_size]; omega)) hS ?_
 rw [fC_2.2.1]
 refine wpAnyH_take (i:=3) atC_3 (by kernel_rfl) (by kernel_rfl) (by kernel_rfl) (fun _ _ _ h=>by cases h.1) (yif_add (s:=mA++j1) (t:=mB) fC_3.2.2.1 fC_3.1 (by (try simp only [eval_ne,ne_eq,Nat.reduceEqDiff,not_false_eq_true]); first | with_reducible exact e8 | with_reducible exact e9 | with_reducible exact e4 | with_reducible exact e13 | exact eval_same (by (try simp only [size_put]); omega)) eval_const (by simp only [size_append,mA_size,mB_size]; omega)) hS ?_
 rw [fC_3.2.1]
 refine wpAnyH_all (rs:=[6]) (by kernel_rfl) (by simp) (fun i hi=>?_)
 obtain rfl:i=6:=by simpa using hi
 refine wpOp_at atC_6 fC_6.2.2.1 ?_
 have h1:=fC_6.1
 have h2:=fC_6.2.1
 generalize opC 6=o at *
 refine wp_call2_at (by kernel_rfl) h1 (by (try simp only [eval_ne,ne_eq,Nat.reduceEqDiff,not_false_eq_true]); first | with_reducible exact e8 | with_reducible exact e9 | with_reducible exact e4 | with_reducible exact e13 | exact eval_same (by (try simp only [size_put]); omega)) eval_const ((hj2 _ hg1).mono ?_)
 clear h1
 rintro e w2 ⟨rfl,hg⟩
 rw [h2]
 clear h2
 have hS:=hS.on hg
 have hg2:=grown_trans hg1 hg
 refine ⟨hS,?_⟩
 refine wpAnyH_take (i:=7) atC_7 (by kernel_rfl) (by kernel_rfl) (by kernel_rfl) (fun _ _ _ h=>by cases h.1) (yif_add (s:=mA++j1++mB) (t:=j2) fC_7.2.2.1 fC_7.1 (by (try simp only [eval_ne,ne_eq,Nat.reduceEqDiff,not_false_eq_true]); first | with_reducible exact e8 | with_reducible exact e9 | with_reducible exact e4 | with_reducible exact e13 | exact eval_same (by (try simp only [size_put]); omega)) (by (try simp only [eval_ne,ne_eq,Nat.reduceEqDiff,not_false_eq_true]); first | with_reducible exact e8 | with_reducible exact e9 | with_reducible exact e4 | with_reducible exact e13 | exact eval_same (by (try simp only [size_put]); omega)) (by simp only [size_append,mA_size,mB_size]; omega)) hS ?_
 rw [fC_7.2.1]
 refine wpAnyH_take (i:=8) atC_8 (by kernel_rfl) (by kernel_rfl) (by kernel_rfl) (fun _ _ _ h=>by cases h.1) (yif_add (s:=mA++j1++mB++j2) (t:=mC) fC_8.2.2.1 fC_8.1 (by (try simp only [eval_ne,ne_eq,Nat.reduceEqDiff,not_false_eq_true]); first | with_reducible exact e8 | with_reducible exact e9 | with_reducible exact e4 | with_reducible exact e13 | exact eval_same (by (try simp only [size_put]); omega)) eval_const (by simp only [size_append,mA_size,mB_size,mC_size]; omega)) hS ?_
 rw [fC_8.2.1]
 refine wpAnyH_take (i:=11) atC_11 (by kernel_rfl) (by kernel_rfl) (by kernel_rfl) (fun _ _ _ h=>by cases h.1) (yif_add (s:=mA++j1++mB++j2++mC) (t:=nm) fC_11.2.2.1 fC_11.1 (by (try simp only [eval_ne,ne_eq,Nat.reduceEqDiff,not_false_eq_true]); first | with_reducible exact e8 | with_reducible exact e9 | with_reducible exact e4 | with_reducible exact e13 | exact eval_same (by (try simp only [size_put]); omega)) (by (try simp only [eval_ne,ne_eq,Nat.reduceEqDiff,not_false_eq_true]); first | with_reducible exact e8 | with_reducible exact e9 | with_reducible exact e4 | with_reducible exact e13 | exact eval_same (by (try simp only [size_put]); omega)) (by simp only [size_append,mA_size,mB_size,mC_size]; omega)) hS ?_
 rw [fC_11.2.1]
 refine wpAnyH_take (i:=12) atC_12 (by kernel_rfl) (by kernel_rfl) (by kernel_rfl) (fun _ _ _ h=>by cases h.1) (yif_add (s:=mA++j1++mB++j2++mC++nm) (t:=mD) fC_12.2.2.1 fC_12.1 (by (try simp only [eval_ne,ne_eq,Nat.reduceEqDiff,not_false_eq_true]); first | with_reducible exact e8 | with_reducible exact e9 | with_reducible exact e4 | with_reducible exact e13 | exact eval_same (by (try simp only [size_put]); omega)) eval_const (by simp only [size_append,mA_size,mB_size,mC_size,mD_size]; omega)) hS ?_
 rw [fC_12.2.1]
 refine wpAnyH_all (rs:=[14]) (by kernel_rfl) (by simp) (fun i hi=>?_)
 obtain rfl:i=14:=by simpa using hi
 refine wpOp_at atC_14 fC_14.2.2.1 ?_
 have h1:=fC_14.1
 have h2:=fC_14.2.1
 generalize opC 14=o at *
 refine wp_call2_at (by kernel_rfl) h1 (by (try simp only [eval_ne,ne_eq,Nat.reduceEqDiff,not_false_eq_true]); first | with_reducible exact e8 | with_reducible exact e9 | with_reducible exact e4 | with_reducible exact e13 | exact eval_same (by (try simp only [size_put]); omega)) eval_const ((hj3 _ hg2).mono ?_)
 clear h1
 rintro e w4 ⟨rfl,hg⟩
 rw [h2]
 clear h2
 have hS:=hS.on hg
 have hg3:=grown_trans hg2 hg
 refine ⟨hS,?_⟩
 refine wpAnyH_take (i:=15) atC_15 (by kernel_rfl) (by kernel_rfl) (by kernel_rfl) (fun _ _ _ h=>by cases h.1) (yif_add (s:=mA++j1++mB++j2++mC++nm++mD) (t:=j3) fC_15.2.2.1 fC_15.1 (by (try simp only [eval_ne,ne_eq,Nat.reduceEqDiff,not_false_eq_true]); first | with_reducible exact e8 | with_reducible exact e9 | with_reducible exact e4 | with_reducible exact e13 | exact eval_same (by (try simp only [size_put]); omega)) (by (try simp only [eval_ne,ne_eq,Nat.reduceEqDiff,not_false_eq_true]); first | with_reducible exact e8 | with_reducible exact e9 | with_reducible exact e4 | with_reducible exact e13 | exact eval_same (by (try simp only [size_put]); omega)) (by simp only [size_append,mA_size,mB_size,mC_size,mD_size]; omega)) hS ?_
 rw [fC_15.2.1]
 refine wpAnyH_take (i:=16) atC_16 (by kernel_rfl) (by kernel_rfl) (by kernel_rfl) (fun _ _ _ h=>by cases h.1) (yif_add (s:=mA++j1++mB++j2++mC++nm++mD++j3) (t:=mE) fC_16.2.2.1 fC_16.1 (by (try simp only [eval_ne,ne_eq,Nat.reduceEqDiff,not_false_eq_true]); first | with_reducible exact e8 | with_reducible exact e9 | with_reducible exact e4 | with_reducible exact e13 | exact eval_same (by (try simp only [size_put]); omega)) eval_const (by simp only [size_append,mA_size,mB_size,mC_size,mD_size,mE_size]; omega)) hS ?_
 rw [fC_16.2.1]
 refine wpAnyH_all (rs:=[17]) (by kernel_rfl) (by simp) (fun i hi=>?_)
 obtain rfl:i=17:=by simpa using hi
 refine wpOp_at atC_17 fC_17.2.2.1 ?_
 have h1:=fC_17.1
 have h2:=fC_17.2.1
 generalize opC 17=o at *
 refine wp_call2_at (by kernel_rfl) h1 (by (try simp only [eval_ne,ne_eq,Nat.reduceEqDiff,not_false_eq_true]); first | with_reducible exact e8 | with_reducible exact e9 | with_reducible exact e4 | with_reducible exact e13 | exact eval_same (by (try simp only [size_put]); omega)) (by (try simp only [eval_ne,ne_eq,Nat.reduceEqDiff,not_false_eq_true]); first | with_reducible exact e8 | with_reducible exact e9 | with_reducible exact e4 | with_reducible exact e13 | exact eval_same (by (try simp only [size_put]); omega)) ((hws _ hg3).mono ?_)
 clear h1
 rintro e w5 ⟨rfl,hX,hS⟩
 rw [h2]
 clear h2
 refine ⟨hS,?_⟩
 exact ⟨by kernel_rfl,rfl,((((((((((((((((((Same.refl 103 120 a0).put (by decide) (by decide)).put (by decide) (by decide)).put (by decide) (by decide)).put (by decide) (by decide)).put (by decide) (by decide)).put (by decide) (by decide)).put (by decide) (by decide)).put (by decide) (by decide)).put (by decide) (by decide)).put (by decide) (by decide)).put (by decide) (by decide)).put (by decide) (by decide)).put (by decide) (by decide)).put (by decide) (by decide)).put (by decide) (by decide)).put (by decide) (by decide)).put (by decide) (by decide)).put (by decide) (by decide),hX⟩
end Lb
end Go.Proofs
