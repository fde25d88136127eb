/- PROVED HERE: a part (Wc) of the tied card of LibPrograms (floodgatelaw25): the call returns true and its argument reads as before. CONDITIONS: those of the given row and card alone. -/
import Derived.Test.YtlophehgfmdakaaGreatDoorWb
import Derived.OrdersHeld
import Derived.RangeFuncBox
namespace Go.Proofs
open Go.RowKit
namespace Lb
theorem run_append_zero1 {P:Program} {w:World} (t ty e:TypeId) (i:TypeInfo) (ht:P.underlying t=some (.slice e)) (hi:P.info? e=some i) (a:Addr) (n c:Nat) (hn:n≤c) (p:Option Addr) (c2:Nat) :
 (Builtin.append_ #[t,t] ty #[.slice (some a) n c,.slice p 0 c2]).run P w = .ok (.slice (some a) n c) w:=by
 cases p with
 | none=>simp [Builtin.append_,run_underlying ht,sizeOf,typeInfo,hi,Builtin.lenOf,Builtin.firstCells,hn,storeCells]
 | some b=>simp [Builtin.append_,run_underlying ht,sizeOf,typeInfo,hi,Builtin.lenOf,Builtin.firstCells,loadCells,loadCellsFrom,hn,storeCells]
theorem step_append_zero1 {P:Program} {w:World} {ops:Array Oper} {o:Oper} {a:Act} {K:Act→World→Prop} {Q:Exit→Act→World→Prop} {E:Prop} (hgd:o.guard=none) (s x:Operand) (t:TypeId)
 (ho:o.op = .call { callee:=.builtin .append,args:=#[s,x],argTypes:=#[t,t] }) (e:TypeId) (i:TypeInfo) (ht:P.underlying t=some (.slice e)) (hi:P.info? e=some i)
 (ad:Addr) (n c0:Nat) (hn:n≤c0) (p:Option Addr) (c:Nat) (hs:a.eval s = .slice (some ad) n c0) (hx:a.eval x = .slice p 0 c) (h:K (a.put o.dst (.slice (some ad) n c0)) w) :
 if Region.wanted o (yielded ops a.tmps)=true then Oper.wp P o a w K Q else E:=by
 have hw:Region.wanted o (yielded ops a.tmps)=true:=by simp [Region.wanted,hgd]
 rw [if_pos hw]
 have hrun:=run_append_zero1 (P:=P) (w:=w) t o.type e i ht hi ad n c0 hn p c
 unfold Oper.wp execOp
 simp only [ho,resolve,invoke,builtin,Sem.run_bind,Sem.run_pure,Result.andThen_ok,List.map_toArray,List.map_cons,List.map_nil,hs,hx,hrun]
 exact h
end Lb
end Go.Proofs
namespace Go
section
variable {P:Program} {ops:Array Oper} {Q:Exit→Act→World→Prop} {md:Region.Mode} {S:World→Prop} {st:Nat}
def wpU (P:Program) (md:Region.Mode) (ops:Array Oper) (Q:Exit→Act→World→Prop) (S:World→Prop) (st:Nat):Nat→Array Bool→Act→World→Prop
 | 0,listed,a,w=>Region.ready md ops listed = []∧Q .normal a w
 | fuel+1,listed,a,w =>
  (Region.ready md ops listed = []→Q .normal a w) ∧
  ∀ i∈Region.ready md ops listed,wpOp P ops Q i (fun a' w'=>((listed.setIfInBounds i true).getD st true=false→S w')∧wpU P md ops Q S st fuel (listed.setIfInBounds i true) a' w') a w
theorem wpAny_of_u:∀ (fuel:Nat) (listed:Array Bool) (a:Act) (w:World),wpU P md ops Q S st fuel listed a w→wpAny P md ops Q fuel listed a w
 | 0,_,_,_,h=>h
 | fuel+1,_,_,_,h=>⟨h.1,fun i hi=>wpOp_mono (fun a' w' h'=>wpAny_of_u fuel _ a' w' h'.2) (h.2 i hi)⟩
theorem wpU_first {i:Nat} {oi:Oper} {v:Value} (hi:ops[i]? = some oi) (hsel:∀ (j:Nat) (o:Oper) cs b,ops[j]? = some o→o.op≠.select cs b)
 (hQ:∀ c a w,Q (.panic c) (a.put oi.dst v) w→Q (.panic c) a w) (his:i≠st) (hbind:∀ o,ops[st]? = some o→∃ e∈o.after,Region.binds md e=true∧e.on=i) :
 ∀ (fuel:Nat) (listed:Array Bool) (a:Act) (w:World),
  (∀ j oj,ops[j]? = some oj→j≠i→listed.getD j true=false→(∀ e∈oj.after,Region.binds md e=true→e.on≠i)→oi.apart ops oj=true) →
  i∈Region.ready md ops listed→YieldsIf P ops S oi v a→listed.getD st true=false→S w →
  wpU P md ops Q S st fuel (listed.setIfInBounds i true) (a.put oi.dst v) w→wpU P md ops Q S st (fuel+1) listed a w:=by
 intro fuel
 induction fuel with
 | zero =>
  intro listed a w _ hr hy _ hS H
  refine ⟨fun h=>(by rw [h] at hr; cases hr),fun j hj=>?_⟩
  by_cases hji:j=i
  · subst hji; exact hy.wpOp hi hS ⟨fun _=>hS,H⟩
  · have:=ready_mono hj hji
    rw [H.1] at this
    cases this
 | succ fuel ih =>
  intro listed a w hfree hr hy hst hS H
  refine ⟨fun h=>(by rw [h] at hr; cases hr),fun j hj=>?_⟩
  by_cases hji:j=i
  · subst hji; exact hy.wpOp hi hS ⟨fun _=>hS,H⟩
  · have h1:=H.2 j (ready_mono hj hji)
    obtain ⟨hjun,oj,hoj,hall⟩:=mem_ready.1 hj
    have hnot:∀ e∈oj.after,Region.binds md e=true→e.on≠i:=fun e he hb heq=>by
     have h1:=hall e he hb
     have h0:=(mem_ready.1 hr).1
     rw [heq] at h1
     rcases Nat.lt_or_ge i listed.size with h' | h'
     · simp [h'] at h0 h1; rw [h0] at h1; cases h1
     · simp [Array.getElem?_eq_none h'] at h1
    have hjs:j≠st:=fun h=>by
     subst h
     obtain ⟨e,he,hb,heq⟩:=hbind oj hoj
     exact hnot e he hb heq
    have h2:=wpOp_putIf hoj (hfree j oj hoj hji hjun hnot) (fun cs b=>hsel i oi cs b hi) (fun cs b=>hsel j oj cs b hoj) hQ hy h1
    have hfree':∀ k ok,ops[k]? = some ok→k≠i→(listed.setIfInBounds j true).getD k true=false →
     (∀ e∈ok.after,Region.binds md e=true→e.on≠i)→oi.apart ops ok=true:=fun k ok hk hki hun hno=>by
     refine hfree k ok hk hki ?_ hno
     by_cases hjk:j=k
     · subst hjk; exact hjun
     · rw [getD_set_ne true hjk] at hun; exact hun
    have hsj:(listed.setIfInBounds j true).getD st true=false:=by rw [getD_set_ne true hjs]; exact hst
    refine wpOp_mono (fun a' w' h3=>?_) h2
    have hSw:S w':=h3.2.1 (by rw [getD_set_ne true hjs,getD_set_ne true his]; exact hst)
    refine ⟨fun _=>hSw,ih (listed.setIfInBounds j true) a' w' hfree' (ready_mono hr (Ne.symm hji)) h3.1 hsj hSw ?_⟩
    rw [Array.setIfInBounds_comm _ _ hji]
    exact h3.2.2
theorem wpU_take {i:Nat} {oi:Oper} {v:Value} {fuel:Nat} {listed:Array Bool} {a:Act} {w:World} (hi:ops[i]? = some oi)
 (hs:Region.noSelect ops=true) (hf:Region.free md ops listed i=true) (hr:(Region.ready md ops listed).contains i=true)
 (hQ:∀ c a w,Q (.panic c) (a.put oi.dst v) w→Q (.panic c) a w) (his:i≠st) (hbind:∀ o,ops[st]? = some o→∃ e∈o.after,Region.binds md e=true∧e.on=i)
 (hst:listed.getD st true=false) (hy:YieldsIf P ops S oi v a) (hS:S w)
 (h:wpU P md ops Q S st fuel (listed.setIfInBounds i true) (a.put oi.dst v) w):wpU P md ops Q S st (fuel+1) listed a w :=
 wpU_first hi (Region.noSelect_spec hs) hQ his hbind fuel listed a w (Region.free_spec hi hf) (by simpa using hr) hy hst hS h
theorem wpU_first2 {i k:Nat} {oi:Oper} {v:Value} (hi:ops[i]? = some oi) (hsel:∀ (j:Nat) (o:Oper) cs b,ops[j]? = some o→o.op≠.select cs b)
 (hQ:∀ c a w,Q (.panic c) (a.put oi.dst v) w→Q (.panic c) a w) (his:i≠st) (hki:∀ o,ops[k]? = some o→∃ e∈o.after,Region.binds md e=true∧e.on=i) (hks:k≠i) (hbind:∀ o,ops[st]? = some o→∃ e∈o.after,Region.binds md e=true∧e.on=k) :
 ∀ (fuel:Nat) (listed:Array Bool) (a:Act) (w:World),
  (∀ j oj,ops[j]? = some oj→j≠i→listed.getD j true=false→(∀ e∈oj.after,Region.binds md e=true→e.on≠i)→oi.apart ops oj=true) →
  i∈Region.ready md ops listed→YieldsIf P ops S oi v a→listed.getD st true=false→listed.getD k true=false→S w →
  wpU P md ops Q S st fuel (listed.setIfInBounds i true) (a.put oi.dst v) w→wpU P md ops Q S st (fuel+1) listed a w:=by
 intro fuel
 induction fuel with
 | zero =>
  intro listed a w _ hr hy _ _ hS H
  refine ⟨fun h=>(by rw [h] at hr; cases hr),fun j hj=>?_⟩
  by_cases hji:j=i
  · subst hji; exact hy.wpOp hi hS ⟨fun _=>hS,H⟩
  · have:=ready_mono hj hji
    rw [H.1] at this
    cases this
 | succ fuel ih =>
  intro listed a w hfree hr hy hst hlk hS H
  refine ⟨fun h=>(by rw [h] at hr; cases hr),fun j hj=>?_⟩
  by_cases hji:j=i
  · subst hji; exact hy.wpOp hi hS ⟨fun _=>hS,H⟩
  · have h1:=H.2 j (ready_mono hj hji)
    obtain ⟨hjun,oj,hoj,hall⟩:=mem_ready.1 hj
    have hnot:∀ e∈oj.after,Region.binds md e=true→e.on≠i:=fun e he hb heq=>by
     have h1:=hall e he hb
     have h0:=(mem_ready.1 hr).1
     rw [heq] at h1
     rcases Nat.lt_or_ge i listed.size with h' | h'
     · simp [h'] at h0 h1; rw [h0] at h1; cases h1
     · simp [Array.getElem?_eq_none h'] at h1
    have hjk:j≠k:=fun h=>by
     subst h
     obtain ⟨e,he,hb,heq⟩:=hki oj hoj
     exact hnot e he hb heq
    have hjs:j≠st:=fun h=>by
     subst h
     obtain ⟨e,he,hb,heq⟩:=hbind oj hoj
     have h1:=hall e he hb
     rw [heq] at h1
     rcases Nat.lt_or_ge k listed.size with h' | h'
     · simp [h'] at hlk h1; rw [hlk] at h1; cases h1
     · simp [Array.getElem?_eq_none h'] at h1
    have h2:=wpOp_putIf hoj (hfree j oj hoj hji hjun hnot) (fun cs b=>hsel i oi cs b hi) (fun cs b=>hsel j oj cs b hoj) hQ hy h1
    have hfree':∀ k ok,ops[k]? = some ok→k≠i→(listed.setIfInBounds j true).getD k true=false →
     (∀ e∈ok.after,Region.binds md e=true→e.on≠i)→oi.apart ops ok=true:=fun k ok hk hki hun hno=>by
     refine hfree k ok hk hki ?_ hno
     by_cases hjk:j=k
     · subst hjk; exact hjun
     · rw [getD_set_ne true hjk] at hun; exact hun
    have hkj:(listed.setIfInBounds j true).getD k true=false:=by rw [getD_set_ne true hjk]; exact hlk
    have hsj:(listed.setIfInBounds j true).getD st true=false:=by rw [getD_set_ne true hjs]; exact hst
    refine wpOp_mono (fun a' w' h3=>?_) h2
    have hSw:S w':=h3.2.1 (by rw [getD_set_ne true hjs,getD_set_ne true his]; exact hst)
    refine ⟨fun _=>hSw,ih (listed.setIfInBounds j true) a' w' hfree' (ready_mono hr (Ne.symm hji)) h3.1 hsj hkj hSw ?_⟩
    rw [Array.setIfInBounds_comm _ _ hji]
    exact h3.2.2
theorem wpU_take2 {i:Nat} (k:Nat) {oi:Oper} {v:Value} {fuel:Nat} {listed:Array Bool} {a:Act} {w:World} (hi:ops[i]? = some oi)
 (hs:Region.noSelect ops=true) (hf:Region.free md ops listed i=true) (hr:(Region.ready md ops listed).contains i=true)
 (hQ:∀ c a w,Q (.panic c) (a.put oi.dst v) w→Q (.panic c) a w) (his:i≠st) (hki:∀ o,ops[k]? = some o→∃ e∈o.after,Region.binds md e=true∧e.on=i) (hks:k≠i) (hbind:∀ o,ops[st]? = some o→∃ e∈o.after,Region.binds md e=true∧e.on=k)
 (hst:listed.getD st true=false) (hlk:listed.getD k true=false) (hy:YieldsIf P ops S oi v a) (hS:S w)
 (h:wpU P md ops Q S st fuel (listed.setIfInBounds i true) (a.put oi.dst v) w):wpU P md ops Q S st (fuel+1) listed a w :=
 wpU_first2 hi (Region.noSelect_spec hs) hQ his hki hks hbind fuel listed a w (Region.free_spec hi hf) (by simpa using hr) hy hst hlk hS h
theorem wpU_all {rs:List Nat} {fuel:Nat} {listed:Array Bool} {a:Act} {w:World} (hr:Region.ready md ops listed=rs) (hne:rs≠[])
 (h:∀ i∈rs,wpOp P ops Q i (fun a' w'=>((listed.setIfInBounds i true).getD st true=false→S w')∧wpU P md ops Q S st fuel (listed.setIfInBounds i true) a' w') a w):wpU P md ops Q S st (fuel+1) listed a w :=
 ⟨fun h0=>absurd (hr ▸ h0) hne,hr ▸ h⟩
theorem wp_region_u {id:Nat} {a:Act} {w:World} (hm:P.follows .mixedOrders=true)
 (h:wpU P .any ops Q S st ops.size (Array.replicate ops.size false) a { w with drawn:=w.drawn+1 }):(Code.region id ops true).wp P Q a w :=
 wp_region_any hm (wpAny_of_u _ _ _ _ h)
end
end Go
namespace Go.Proofs
open Go.RowKit
namespace Lb
def Ap (a b:Value):Prop:=a.ownBlock=none∨a.ownBlock≠b.ownBlock
theorem Ap.symm {a b:Value} (h:Ap a b):Ap b a:=by
 rcases h with h | h
 · cases hb:b.ownBlock with
   | none=>exact .inl hb
   | some g=>right; rw [hb,h]; intro h; cases h
 · exact .inr (Ne.symm h)
structure Of (B Bp tp:Nat) (rest:List Value) (w:World) (r pa gi Lv Cv:Value) (R Pa Gi:List ByteArray) (L:List (List Int)):Prop where
 hp:w.heap[Bp]? = some (.cells (Lv :: Cv :: rest).toArray tp (0,0))
 or:w.ownsRow B 9 1 r R.length (R.map Value.string)
 op:w.ownsRow B 9 1 pa Pa.length (Pa.map Value.string)
 og:w.ownsRow B 9 1 gi Gi.length (Gi.map Value.string)
 oL:∃ lvs,w.ownsRow B 45 1 Lv L.length lvs∧∀ j,j < L.length→∃ lv,lvs[j]? = some lv∧w.ownsRow B 3 1 lv (L.getD j []).length ((L.getD j []).map (Value.int .i64))
 oC:w.ownsRow B 4 1 Cv L.length (List.replicate L.length (Value.bool true))
 rp:Ap r pa
 rg:Ap r gi
 pg:Ap pa gi
variable {B Bp tp:Nat} {rest:List Value} {w w' w2 w3:World} {r pa gi Lv Cv v':Value} {R Pa Gi:List ByteArray} {L:List (List Int)} {x:ByteArray}
theorem grown_below (h:Below w.heap.size w w'):w.grownBy w' none:=⟨h.os,h.tape,h.output,h.size,fun k hk _=>h.block k hk⟩
theorem row_keep {o:Obj} {b:Nat} {row:Option Nat} (h:w.heap[b]? = some o) (hg:w.grownBy w' row) (hne:some b≠row):w'.heap[b]? = some o:=by
 rw [hg.block b (Array.getElem?_eq_some_iff.1 h).1 hne]; exact h
theorem Of.quiet (h:Of B Bp tp rest w r pa gi Lv Cv R Pa Gi L) (hg:w.grownBy w' none):Of B Bp tp rest w' r pa gi Lv Cv R Pa Gi L:=by
 obtain ⟨h1,h2,h3,h4,⟨lvs,h5,h6⟩,h7,h8,h9,h10⟩:=h
 exact ⟨row_keep h1 hg (by simp),own_none h2 hg,own_none h3 hg,own_none h4 hg,⟨lvs,own_none h5 hg,fun j hj=>let ⟨lv,a,b⟩:=h6 j hj; ⟨lv,a,own_none b hg⟩⟩,own_none h7 hg,h8,h9,h10⟩
theorem own_ne9 {b2 s2 n2:Nat} {e2:TypeId} {v2:Value} {x2:List Value} {b1 n1:Nat} {v1:Value} {x1:List Value} (h1:w.ownsRow b1 9 1 v1 n1 x1) (h2:w.ownsRow b2 e2 s2 v2 n2 x2) (he:e2≠9):v2.ownBlock=none∨v2.ownBlock≠v1.ownBlock:=own_ne h2 h1 he
theorem bp_ne {b1 n1 s e:Nat} {v1:Value} {x1:List Value} {cs:Array Value} (hp:w.heap[Bp]? = some (.cells cs tp (0,0))) (h1:w.ownsRow b1 e s v1 n1 x1) (ht:tp≠e):some Bp≠v1.ownBlock:=by
 intro h
 rcases h1.2 with ⟨rfl,_⟩ | ⟨g1,c1,cur1,rfl,_,hg1,_⟩
 · cases h
 · have h:Bp=g1:=by simpa [Value.ownBlock] using h
   subst h
   rw [hp] at hg1
   cases hg1
   exact ht rfl
theorem ap_new {b e s n:Nat} {u:Value} {xs:List Value} {v:Value} {g c m:Nat} (h:w.ownsRow b e s u n xs) (hg:v.ownBlock=some g∨g=w.heap.size) (ha:Ap v u):Ap (.slice (some ⟨g,0,none⟩) m c) u:=by
 right
 intro he
 have he:some g=u.ownBlock:=by simpa [Value.ownBlock] using he
 rcases hg with hg | hg
 · rcases ha with ha | ha
   · rw [ha] at hg; cases hg
   · exact ha (by rw [hg,he])
 · have:=(h.lt g he.symm).2; omega
theorem map_snoc (l:List ByteArray) (x:ByteArray):(l ++ [x]).map Value.string=l.map Value.string ++ [.string x]:=by simp
theorem Of.app3 {g c:Nat} (h:Of B Bp tp rest w r pa gi Lv Cv R Pa Gi L) (ht:tp≠9) (o3:w3.ownsRow B 9 1 (.slice (some ⟨g,0,none⟩) (Gi.length+1) c) (Gi.length+1) (Gi.map Value.string ++ [.string x])) (g3:w.grownBy w3 gi.ownBlock)
 (hat:gi.ownBlock=some g∨g=w.heap.size):Of B Bp tp rest w3 r pa (.slice (some ⟨g,0,none⟩) (Gi.length+1) c) Lv Cv R Pa (Gi ++ [x]) L:=by
 obtain ⟨h1,h2,h3,h4,⟨lvs,h5,h6⟩,h7,h8,h9,h10⟩:=h
 refine ⟨row_keep h1 g3 (bp_ne h1 h4 ht),h2.kept g3 h9,h3.kept g3 h10,by rw [map_snoc]; simpa using o3,⟨lvs,h5.kept g3 (own_ne9 h4 h5 (by decide)),fun j hj=>let ⟨lv,a,b⟩:=h6 j hj; ⟨lv,a,b.kept g3 (own_ne9 h4 b (by decide))⟩⟩,h7.kept g3 (own_ne9 h4 h7 (by decide)),h8,?_,?_⟩
 · exact (ap_new h2 hat h9.symm).symm
 · exact (ap_new h3 hat h10.symm).symm
theorem Of.app2 {g c:Nat} (h:Of B Bp tp rest w r pa gi Lv Cv R Pa Gi L) (ht:tp≠9) (o3:w3.ownsRow B 9 1 (.slice (some ⟨g,0,none⟩) (Pa.length+1) c) (Pa.length+1) (Pa.map Value.string ++ [.string x])) (g3:w.grownBy w3 pa.ownBlock)
 (hat:pa.ownBlock=some g∨g=w.heap.size):Of B Bp tp rest w3 r (.slice (some ⟨g,0,none⟩) (Pa.length+1) c) gi Lv Cv R (Pa ++ [x]) Gi L:=by
 obtain ⟨h1,h2,h3,h4,⟨lvs,h5,h6⟩,h7,h8,h9,h10⟩:=h
 refine ⟨row_keep h1 g3 (bp_ne h1 h3 ht),h2.kept g3 h8,by rw [map_snoc]; simpa using o3,h4.kept g3 h10.symm,⟨lvs,h5.kept g3 (own_ne9 h3 h5 (by decide)),fun j hj=>let ⟨lv,a,b⟩:=h6 j hj; ⟨lv,a,b.kept g3 (own_ne9 h3 b (by decide))⟩⟩,h7.kept g3 (own_ne9 h3 h7 (by decide)),?_,h9,?_⟩
 · exact (ap_new h2 hat h8.symm).symm
 · exact ap_new h4 hat h10
theorem Of.app1 {g c:Nat} {ys:List ByteArray} (h:Of B Bp tp rest w r pa gi Lv Cv R Pa Gi L) (ht:tp≠9) (o3:w3.ownsRow B 9 1 (.slice (some ⟨g,0,none⟩) (R.length+ys.length) c) (R.length+ys.length) (R.map Value.string++ys.map Value.string)) (g3:w.grownBy w3 r.ownBlock)
 (hat:r.ownBlock=some g∨g=w.heap.size):Of B Bp tp rest w3 (.slice (some ⟨g,0,none⟩) (R.length+ys.length) c) pa gi Lv Cv (R++ys) Pa Gi L:=by
 obtain ⟨h1,h2,h3,h4,⟨lvs,h5,h6⟩,h7,h8,h9,h10⟩:=h
 refine ⟨row_keep h1 g3 (bp_ne h1 h2 ht),by simpa using o3,h3.kept g3 h8.symm,h4.kept g3 h9.symm,⟨lvs,h5.kept g3 (own_ne9 h2 h5 (by decide)),fun j hj=>let ⟨lv,a,b⟩:=h6 j hj; ⟨lv,a,b.kept g3 (own_ne9 h2 b (by decide))⟩⟩,h7.kept g3 (own_ne9 h2 h7 (by decide)),?_,?_,h10⟩
 · exact ap_new h3 hat h8
 · exact ap_new h4 hat h9
end Lb
end Go.Proofs
namespace Go.Proofs
open Go.RowKit
namespace Lb
variable {B Bp tp:Nat} {rest:List Value} {w w1 w2 w3 w4 w5:World} {r pa gi Lv Cv lv L' C':Value} {R Pa Gi:List ByteArray} {L:List (List Int)} {l:List Int}
theorem own_bp {b1 n1 s e:Nat} {v1:Value} {x1:List Value} {cs:Array Value} (hp:w.heap[Bp]? = some (.cells cs tp (0,0))) (h1:w.ownsRow b1 e s v1 n1 x1) (ht:tp≠e):v1.ownBlock=none∨v1.ownBlock≠some Bp:=by
 right; exact fun h=>bp_ne hp h1 ht h.symm
theorem Of.both {lvs:List Value} (h:Of B Bp tp rest w r pa gi Lv Cv R Pa Gi L) (ht9:tp≠9) (ht45:tp≠45) (ht4:tp≠4) (ht3:tp≠3)
 (hlv:w.ownsRow B 45 1 Lv L.length lvs) (hlj:∀ j,j < L.length→∃ lv,lvs[j]? = some lv∧w.ownsRow B 3 1 lv (L.getD j []).length ((L.getD j []).map (Value.int .i64)))
 (g1:w.grownBy w1 none) (o1:w1.ownsRow B 3 1 lv l.length (l.map (Value.int .i64))) (g2:w1.grownBy w2 none) (o3:w3.ownsRow B 45 1 L' (L.length+1) (lvs ++ [lv])) (g3:w2.grownBy w3 Lv.ownBlock)
 (g4:w3.grownBy w4 none) (o5:w5.ownsRow B 4 1 C' (L.length+1) (List.replicate L.length (Value.bool true) ++ [.bool true])) (g5:w4.grownBy w5 Cv.ownBlock) :
 Of B Bp tp rest ((w5.setCell ⟨Bp,0,none⟩ L').setCell ⟨Bp,1,none⟩ C') r pa gi L' C' R Pa Gi (L ++ [l]):=by
 obtain ⟨h1,h2,h3,h4,_,h7,h8,h9,h10⟩:=h
 have a1:=row_keep (row_keep h1 g1 (by simp)) g2 (by simp)
 have a2:=own_none (own_none h2 g1) g2
 have a3:=own_none (own_none h3 g1) g2
 have a4:=own_none (own_none h4 g1) g2
 have aL:=own_none (own_none hlv g1) g2
 have aC:=own_none (own_none h7 g1) g2
 have o1:=own_none o1 g2
 have aj:∀ j,j < L.length→∃ lv,lvs[j]? = some lv∧w2.ownsRow B 3 1 lv (L.getD j []).length ((L.getD j []).map (Value.int .i64)):=fun j hj=>let ⟨u,p,q⟩:=hlj j hj; ⟨u,p,own_none (own_none q g1) g2⟩
 have b1:=row_keep (row_keep a1 g3 (bp_ne a1 aL ht45)) g4 (by simp)
 have b2:=own_none (a2.kept g3 (own_ne a2 aL (by decide))) g4
 have b3:=own_none (a3.kept g3 (own_ne a3 aL (by decide))) g4
 have b4:=own_none (a4.kept g3 (own_ne a4 aL (by decide))) g4
 have bC:=own_none (aC.kept g3 (own_ne aC aL (by decide))) g4
 have bl:=own_none (o1.kept g3 (own_ne o1 aL (by decide))) g4
 have bL:=own_none o3 g4
 have bj:∀ j,j < L.length→∃ lv,lvs[j]? = some lv∧w4.ownsRow B 3 1 lv (L.getD j []).length ((L.getD j []).map (Value.int .i64)):=fun j hj=>let ⟨u,p,q⟩:=aj j hj; ⟨u,p,own_none (q.kept g3 (own_ne q aL (by decide))) g4⟩
 have c1:=row_keep b1 g5 (bp_ne b1 bC ht4)
 have c2:=b2.kept g5 (own_ne b2 bC (by decide))
 have c3:=b3.kept g5 (own_ne b3 bC (by decide))
 have c4:=b4.kept g5 (own_ne b4 bC (by decide))
 have cL:=bL.kept g5 (own_ne bL bC (by decide))
 have cl:=bl.kept g5 (own_ne bl bC (by decide))
 have cj:∀ j,j < L.length→∃ lv,lvs[j]? = some lv∧w5.ownsRow B 3 1 lv (L.getD j []).length ((L.getD j []).map (Value.int .i64)):=fun j hj=>let ⟨u,p,q⟩:=bj j hj; ⟨u,p,q.kept g5 (own_ne q bC (by decide))⟩
 have s1:=heap_setCell_same w5 Bp 0 _ _ L' c1
 have s2:=heap_setCell_same _ Bp 1 _ _ C' s1
 have k:∀ {e s n:Nat} {v:Value} {xs:List Value},tp≠e→w5.ownsRow B e s v n xs→((w5.setCell ⟨Bp,0,none⟩ L').setCell ⟨Bp,1,none⟩ C').ownsRow B e s v n xs:=by
  intro e s n v xs he hh
  have q1:=ownsRow_setCell_other hh (a:=⟨Bp,0,none⟩) (fun h=>bp_ne c1 hh he h.symm) L'
  exact ownsRow_setCell_other q1 (a:=⟨Bp,1,none⟩) (fun h=>bp_ne c1 hh he h.symm) C'
 refine ⟨?_,k ht9 c2,k ht9 c3,k ht9 c4,⟨lvs ++ [lv],by simpa using k ht45 cL,fun j hj=>?_⟩,by rw [List.length_append,List.length_singleton,List.replicate_succ']; exact k ht4 o5,h8,h9,h10⟩
 · rw [s2]; simp
 · have hll:lvs.length=L.length:=by have:=hlv.1; simpa using this
   by_cases hjl:j < L.length
   · obtain ⟨u,p,q⟩:=cj j hjl
     refine ⟨u,by rw [List.getElem?_append_left (by omega)]; exact p,?_⟩
     rw [show (L ++ [l]).getD j []=L.getD j [] by simp [List.getD_eq_getElem?_getD,List.getElem?_append_left hjl]]
     exact k ht3 q
   · have hjl:j=L.length:=by simp at hj; omega
     subst hjl
     refine ⟨lv,by rw [List.getElem?_append_right (by omega),hll,Nat.sub_self]; rfl,?_⟩
     rw [show (L ++ [l]).getD L.length []=l by simp [List.getD_eq_getElem?_getD]]
     exact k ht3 cl
end Lb
end Go.Proofs
