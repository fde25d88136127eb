/- PROVED HERE: a part (LtN) of the tied card of LibAccepted (floodgatelaw25). CONDITIONS: those of the given row and card alone. -/
import Derived.Test.YtbelbhnfjejnmaaGreatDoorEvg
import Derived.Test.YtbelbhnfjejnmaaGreatDoorLtV
import Derived.KernelRfl
namespace Go.Ev
noncomputable section
variable {P:Env}
/-- a call that gives nil, whatever it left -/
theorem knownV_nils {call:CallF} (hcall:CallsOk P call) {f:FuncId} {args:List AV} {h':H} (hr:call (.fn f) args H.zero = .ok .nils h'):KnownV P f args .nils:=by
 intro w j hR vs hvs
 obtain ⟨q1,q2⟩:=hcall _ _ _ _ _ hr w j hR vs hvs
 refine ⟨q1,fun n=>CallsIn.mono (q2 n) fun e w2 ⟨_,cv,he,j2,g3,g4,g5⟩=>?_⟩
 have keep:∀ b,b < w.heap.size→w2.heap[b]? = w.heap[b]?:=fun b hb=>g5.keep b hb fun f l hf=>(zero_dead hf).elim
 have hn:VR j .nils cv:=by cases g3; exact .nils
 refine ⟨Nat.le_refl _,cv,he,j,hn,?_,?_⟩
 · exact hR.other g5.size (fun b hb=>keep b (Nat.lt_of_lt_of_le hb hR.size)) (fun f l hf _=>(zero_dead hf).elim) fun b o hb=>keep b (hR.ice_lt hb)
 · exact ⟨Inj.le_refl j,g5.size,fun b hb _=>keep b hb,fun f l hl hj=>.inr ⟨f,l,hl,hj,rfl⟩,g5.os,g5.output,g5.tape,fun _ h _=>h,fun _ h=>h,fun _ _ h=>.inl h⟩
def nilK (k:Ans):AV→Ans
 | .nils=>k
 | _=>.no
theorem nilK_ok {k:Ans} {v:AV} (h:nilK k v = .yes):v = .nils∧k = .yes:=by
 unfold nilK at h
 split at h
 · exact ⟨rfl,h⟩
 · cases h
def nilL (call:CallK) (f:FuncId) (x:AV) (l:List Nat):Ans:=List.rec (motive:=fun _=>Ans) .yes (fun n _ ih=>call (.fn f) [x,.int .i64 (.ofNat n)] H.zero (fun v _=>nilK ih v)) l
theorem nilL_ok (hm:P.follows .mixedOrders=true) (hname:∀ (f:FuncId) (fn:Func),P.funcs[f]? = some fn→fn.name≠ "runtime.NumGoroutine") {hint:FuncId→Option Hint} {has:FuncId→Bool} {orc:Orc} (ho:OrcOk P orc) {md:FuncId→Bool} {N:Nat} {f:FuncId} {x:AV} :
 ∀ {l:List Nat},nilL (bRun hint (cF P) has orc md N) f x l = .yes→∀ n∈l,KnownV P f [x,.int .i64 (.ofNat n)] .nils:=by
 have hcd:=cdQ_ok hm hname (orcHas_ok (has:=has) ho) (md:=md) N
 intro l
 induction l with
 | nil=>intro _ n hn; cases hn
 | cons a l ih =>
  intro hr
  have hr:bRun hint (cF P) has orc md N (.fn f) [x,.int .i64 (.ofNat a)] H.zero (fun v _=>nilK (nilL (bRun hint (cF P) has orc md N) f x l) v) = .yes:=hr
  rw [bRun_eq] at hr
  have hr:stepFS hint (cF P) (callS hint (cF P) has orc md N) N (.fn f) [x,.int .i64 (.ofNat a)] H.zero (fun v _=>nilK (nilL (callSJ hint (cF P) has orc md N) f x l) v) = .yes:=hr
  obtain ⟨m,v,h',k1,k2⟩:=stepFS_ok (callS_ok hint (cF P) has orc md N) hr
  obtain ⟨rfl,k3⟩:=nilK_ok k2
  intro n hn
  rcases List.mem_cons.1 hn with rfl | hn
  · exact knownV_nils (runJ_ok' hm hname hcd m) k1
  · exact ih (by rw [bRun_eq]; exact k3) n hn
end
end Go.Ev
open Go Go.Ev Go.Proofs
namespace Go.Ev
set_option maxRecDepth 1000000
set_option maxHeartbeats 0
theorem t_N : runNil runN 129 (.lst (some 0) []) = .yes := by kernel_rfl
end Go.Ev
