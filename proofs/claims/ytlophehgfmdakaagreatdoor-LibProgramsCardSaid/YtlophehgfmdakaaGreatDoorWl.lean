/- PROVED HERE: a part (Wl) of the tied card of LibPrograms (floodgatelaw25): the call returns true and its argument reads as before. CONDITIONS: those of the given row and card alone. -/
import Derived.Test.YtlophehgfmdakaaGreatDoorWj
import Derived.Test.YtlophehgfmdakaaGreatDoorWa
import Derived.Test.YtlophehgfmdakaaGreatDoorWk
namespace Go.Proofs
open Go.RowKit
namespace Lb
set_option maxRecDepth 100000 in
set_option maxHeartbeats 2000000 in
theorem libP_long {I:World→Prop} (hC:Ctx I) {w:World} {s:ByteArray} {v:Value} {xs:List AArg} (hi:I w) (h:HasA w v xs) (hl:xs.length≤9223372036854775807) (hs:s.size≤9223372036854775807) (hb:100 < s.size∨thinV xs=false) :
 Calls Tryz.prog 3 #[.agg #[.string s,v]] w fun e w'=>e = .returned (.bool true)∧I w':=by
 have hB:Below w.heap.size w (w.alloc (.cells #[.string s,v] 24)):=(Below.refl _ _).alloc (Nat.le_refl _) _
 have k0:(w.alloc (.cells #[.string s,v] 24)).cell? ⟨w.heap.size,0,none⟩=some (.string s):=by rw [cells_new]; rfl
 have k1:(w.alloc (.cells #[.string s,v] 24)).cell? ⟨w.heap.size,1,none⟩=some v:=by rw [cells_new]; rfl
 have hc:=hC.awk _ (hC.mono _ _ hi hB)
 have ht:=thin_c xs v _ (h.below hB) hl
 obtain ⟨p,c,rfl,_⟩:=h
 clear hC hi
 by_cases h1:100 < s.size
 · have h1':(100:Int) < (s.size:Int):=by omega
   clear hb
   go_enter Tryz.func3,Tryz.ntmps3
   go_wp2_with (go_at_call 6; refine hc.mono ?_; rintro e w' ⟨rfl,hI⟩)
   go_ret
   exact ⟨rfl,hI⟩
 · have h2:thinV xs=false:=hb.resolve_left h1
   rw [h2] at ht
   have h1':¬ (100:Int) < (s.size:Int):=by omega
   clear hb
   go_enter Tryz.func3,Tryz.ntmps3
   go_wp2_with (first | (go_at_call 5; refine ht.mono ?_; rintro e w1 ⟨rfl,hw1⟩; rw [hw1]; clear hw1) | (go_at_call 6; refine hc.mono ?_; rintro e w' ⟨rfl,hI⟩))
   go_ret
   exact ⟨rfl,hI⟩
theorem thin_len {xs:List AArg} (h:thinV xs=true):xs.length≤6∧∀ a∈xs,a.l.length≤60:=by
 unfold thinV at h
 simp only [Bool.and_eq_true,Bool.not_eq_true',decide_eq_true_eq,List.any_eq_false] at h
 refine ⟨h.2,fun a ha=>?_⟩
 have:=h.1 a ha
 unfold fatA longLen at this
 simp only [Bool.or_eq_true,Bool.and_eq_true,decide_eq_true_eq] at this
 omega
set_option maxRecDepth 100000 in
set_option maxHeartbeats 4000000 in
theorem libP_none {I:World→Prop} (hC:Ctx I) {w:World} {s:ByteArray} {v:Value} {xs:List AArg} (hi:I w) (h:HasA w v xs) (hs:s.size≤100) (ht0:thinV xs=true) (hu:Unk s) :
 Calls Tryz.prog 3 #[.agg #[.string s,v]] w fun e w'=>e = .returned (.bool true)∧I w':=by
 obtain ⟨hl,hL⟩:=thin_len ht0
 have hB:Below w.heap.size w (w.alloc (.cells #[.string s,v] 24)):=(Below.refl _ _).alloc (Nat.le_refl _) _
 have hz:=size_new w (.cells #[.string s,v] 24)
 have ht:=thin_c xs v _ (h.below hB) (by omega)
 rw [ht0] at ht
 have hown:=own_c s xs v _ (h.below hB) hl hL
 have hprog:∀ (w1:World) (v1:Value),I w1→Calls Tryz.prog 7 #[.string s,v1] w1 fun e w'=>∃ Lv Cv T,e = .returned (.tuple #[.string T,.agg #[Lv,Cv],.int .i64 10])∧Below w1.heap.size w1 w'∧Fin_ 10 ⟨#[]⟩ [] w1.heap.size w' Lv Cv T :=
  fun w1 v1 h1=>prog_c fun w2 hB2=>(call_none hC (hC.mono _ _ h1 hB2) hu).mono fun e w' ⟨he,hb⟩=>⟨_,_,_,he,hb,.inl ⟨by decide,rfl,rfl,rfl⟩⟩
 have hrf:=fun w1 (h1:I w1)=>rfind_none hC h1 hu
 have hawk:=hC.awk
 have hm:=hC.mono
 have hI0:I (w.alloc (.cells #[.string s,v] 24)):=hC.mono _ _ hi hB
 have k0:(w.alloc (.cells #[.string s,v] 24)).cell? ⟨w.heap.size,0,none⟩=some (.string s):=by rw [cells_new]; rfl
 have k1:(w.alloc (.cells #[.string s,v] 24)).cell? ⟨w.heap.size,1,none⟩=some v:=by rw [cells_new]; rfl
 have h1':¬ (100:Int) < (s.size:Int):=by omega
 have hbx:=heap_alloc_new w (.cells #[.string s,v] 24)
 obtain ⟨p,c,rfl,_⟩:=h
 have hm':Hid _:=hm
 have hrf':Hid _:=hrf
 have hawk':Hid _:=hawk
 have hbx':Hid _:=hbx
 have hI0':Hid _:=hI0
 have hprog':Hid _:=hprog
 clear hC hi hB hu ht0 hL hm hrf hawk hbx hI0 hprog
 go_enter Tryz.func3,Tryz.ntmps3
 go_wp2_with (first | (go_at_call 5; refine ht.mono ?_; rintro e w1 ⟨rfl,hw1⟩; rw [hw1]; clear hw1) | (go_at_call 8; refine hown.mono ?_))
 rintro e w1 ⟨v1,rfl,hA1,hB1⟩
 have hI1:I w1:=hm'.out _ _ hI0'.out hB1
 have hz1:=hB1.size
 have hp:=hprog'.out w1 v1 hI1
 have hbx1:w1.heap[w.heap.size]? = some (.cells #[.string s,.slice p xs.length c] 24 (0,0)):=(hB1.block _ (by rw [hz]; omega)).trans hbx'.out
 have hbx1':Hid _:=hbx1
 have hI1':Hid (I w1):=hI1
 rw [hz] at hz1
 clear hown ht hA1 hB1 hI1 hbx1 hz k0 k1
 go_wp2_with (go_at_call 7; refine hp.mono ?_)
 rintro e w2 ⟨Lv,Cv,T,rfl,hB2,hF⟩
 rcases hF with ⟨_,rfl,rfl,rfl⟩ | ⟨h0,_⟩
 case inr=>cases h0
 have hI2:I w2:=hm'.out _ _ hI1'.out hB2
 have hz2:=hB2.size
 have hB3:Below w2.heap.size w2 (w2.alloc (.cells #[.slice none 0 0,.slice none 0 0] 30)):=(Below.refl _ _).alloc (Nat.le_refl _) _
 have hI3:=hm'.out _ _ hI2 hB3
 have hz3:=size_new w2 (.cells #[.slice none 0 0,.slice none 0 0] 30)
 have hr:=hrf'.out _ hI3
 have hbx3:(w2.alloc (.cells #[.slice none 0 0,.slice none 0 0] 30)).heap[w.heap.size]? = some (.cells #[.string s,.slice p xs.length c] 24 (0,0)):=(heap_alloc_old _ _ (by omega)).trans ((hB2.block _ (by omega)).trans hbx1'.out)
 have h30:=heap_alloc_new w2 (.cells #[.slice none 0 0,.slice none 0 0] 30)
 have m0:(w2.alloc (.cells #[.slice none 0 0,.slice none 0 0] 30)).cell? ⟨w.heap.size,0,none⟩=some (.string s):=(cell_of_heap hbx3).trans rfl
 have hI3':Hid _:=hI3
 have h30':Hid _:=h30
 have hbx3':Hid _:=hbx3
 clear hp hB2 hI2 hB3 hI3 hbx3 h30
 unfold zeroD at hr
 go_wp2_with (go_at_call 9; refine hr.mono ?_)
 rintro e w4 ⟨rfl,hB4⟩
 have hI4:I w4:=hm'.out _ _ hI3'.out hB4
 have hz4:=hB4.size
 rw [hz3] at hz4
 have hB5:Below w4.heap.size w4 (w4.alloc (.cells #[.string ByteArray.empty,.string ByteArray.empty,.slice none 0 0,.slice none 0 0,.slice none 0 0] 38)):=(Below.refl _ _).alloc (Nat.le_refl _) _
 have hI5:=hm'.out _ _ hI4 hB5
 have h305:(w4.alloc (.cells #[.string ByteArray.empty,.string ByteArray.empty,.slice none 0 0,.slice none 0 0,.slice none 0 0] 38)).heap[w2.heap.size]? = some (.cells #[.slice none 0 0,.slice none 0 0] 30 (0,0)):=(heap_alloc_old _ _ (by omega)).trans ((hB4.block _ (by rw [hz3]; omega)).trans h30'.out)
 have c0:(w4.alloc (.cells #[.string ByteArray.empty,.string ByteArray.empty,.slice none 0 0,.slice none 0 0,.slice none 0 0] 38)).cell? ⟨w2.heap.size,0,none⟩=some (.slice none 0 0):=(cell_of_heap h305).trans rfl
 have c1:(w4.alloc (.cells #[.string ByteArray.empty,.string ByteArray.empty,.slice none 0 0,.slice none 0 0,.slice none 0 0] 38)).cell? ⟨w2.heap.size,1,none⟩=some (.slice none 0 0):=(cell_of_heap h305).trans rfl
 have hc:=hawk'.out _ hI5
 clear hr hB4 hI4 hB5 hI5 h305
 go_wp2_with (go_at_call 6; refine hc.mono ?_; rintro e w' ⟨rfl,hI⟩)
 go_ret
 exact ⟨rfl,hI⟩
end Lb
end Go.Proofs
namespace Go.Proofs
open Go.RowKit
namespace Lb
noncomputable def opsF:Array Oper:=regIn 16 Tryz.f3
noncomputable def opF (i:Nat):Oper:=opsF.getD i default
theorem atF_0:opsF[0]? = some (opF 0):=by kernel_rfl
theorem fF_0:(opF 0).op = .fieldAddr 30 (.tmp 4) 0∧(opF 0).dst=some 105∧(opF 0).guard=none∧(opF 0).type=0:=by refine ⟨?_,?_,?_,?_⟩ <;> kernel_rfl
theorem atF_1:opsF[1]? = some (opF 1):=by kernel_rfl
theorem fF_1:(opF 1).op = .load 27 (.tmp 105)∧(opF 1).dst=some 106∧(opF 1).guard=none∧(opF 1).type=27:=by refine ⟨?_,?_,?_,?_⟩ <;> kernel_rfl
theorem atF_2:opsF[2]? = some (opF 2):=by kernel_rfl
theorem fF_2:(opF 2).op = .move (.tmp 11)∧(opF 2).dst=some 107∧(opF 2).guard=none∧(opF 2).type=3:=by refine ⟨?_,?_,?_,?_⟩ <;> kernel_rfl
theorem atF_3:opsF[3]? = some (opF 3):=by kernel_rfl
theorem fF_3:(opF 3).op = .indexAddr 27 (.tmp 106) (.tmp 107)∧(opF 3).dst=some 108∧(opF 3).guard=none∧(opF 3).type=0:=by refine ⟨?_,?_,?_,?_⟩ <;> kernel_rfl
theorem atF_4:opsF[4]? = some (opF 4):=by kernel_rfl
theorem fF_4:(opF 4).op = .load 45 (.tmp 108)∧(opF 4).dst=some 109∧(opF 4).guard=none∧(opF 4).type=45:=by refine ⟨?_,?_,?_,?_⟩ <;> kernel_rfl
theorem atF_5:opsF[5]? = some (opF 5):=by kernel_rfl
theorem fF_5:(opF 5).op = .fieldAddr 30 (.tmp 10) 0∧(opF 5).dst=some 110∧(opF 5).guard=none∧(opF 5).type=0:=by refine ⟨?_,?_,?_,?_⟩ <;> kernel_rfl
theorem atF_6:opsF[6]? = some (opF 6):=by kernel_rfl
theorem fF_6:(opF 6).op = .load 27 (.tmp 110)∧(opF 6).dst=some 111∧(opF 6).guard=none∧(opF 6).type=27:=by refine ⟨?_,?_,?_,?_⟩ <;> kernel_rfl
theorem atF_7:opsF[7]? = some (opF 7):=by kernel_rfl
theorem fF_7:(opF 7).op = .move (.tmp 11)∧(opF 7).dst=some 112∧(opF 7).guard=none∧(opF 7).type=3:=by refine ⟨?_,?_,?_,?_⟩ <;> kernel_rfl
theorem atF_8:opsF[8]? = some (opF 8):=by kernel_rfl
theorem fF_8:(opF 8).op = .indexAddr 27 (.tmp 111) (.tmp 112)∧(opF 8).dst=some 113∧(opF 8).guard=none∧(opF 8).type=0:=by refine ⟨?_,?_,?_,?_⟩ <;> kernel_rfl
theorem atF_9:opsF[9]? = some (opF 9):=by kernel_rfl
theorem fF_9:(opF 9).op = .load 45 (.tmp 113)∧(opF 9).dst=some 114∧(opF 9).guard=none∧(opF 9).type=45:=by refine ⟨?_,?_,?_,?_⟩ <;> kernel_rfl
theorem atF_10:opsF[10]? = some (opF 10):=by kernel_rfl
theorem fF_10:(opF 10).op = .call { callee:=.value (.func 12),args:=#[.tmp 109,.tmp 114],argTypes:=#[45,45] }∧(opF 10).dst=some 115∧(opF 10).guard=none∧(opF 10).type=4:=by refine ⟨?_,?_,?_,?_⟩ <;> kernel_rfl
theorem atF_11:opsF[11]? = some (opF 11):=by kernel_rfl
theorem fF_11:(opF 11).op = .unOp .not 4 (.tmp 115)∧(opF 11).dst=some 116∧(opF 11).guard=none∧(opF 11).type=4:=by refine ⟨?_,?_,?_,?_⟩ <;> kernel_rfl
theorem atF_12:opsF[12]? = some (opF 12):=by kernel_rfl
theorem fF_12:(opF 12).op = .move (.tmp 116)∧(opF 12).dst=some 117∧(opF 12).guard=none∧(opF 12).type=4:=by refine ⟨?_,?_,?_,?_⟩ <;> kernel_rfl
theorem atF_13:opsF[13]? = some (opF 13):=by kernel_rfl
theorem fF_13:(opF 13).op = .fieldAddr 30 (.tmp 4) 1∧(opF 13).dst=some 118∧(opF 13).guard=some (12,false)∧(opF 13).type=0:=by refine ⟨?_,?_,?_,?_⟩ <;> kernel_rfl
theorem atF_14:opsF[14]? = some (opF 14):=by kernel_rfl
theorem fF_14:(opF 14).op = .load 28 (.tmp 118)∧(opF 14).dst=some 119∧(opF 14).guard=some (12,false)∧(opF 14).type=28:=by refine ⟨?_,?_,?_,?_⟩ <;> kernel_rfl
theorem atF_15:opsF[15]? = some (opF 15):=by kernel_rfl
theorem fF_15:(opF 15).op = .move (.tmp 11)∧(opF 15).dst=some 120∧(opF 15).guard=some (12,false)∧(opF 15).type=3:=by refine ⟨?_,?_,?_,?_⟩ <;> kernel_rfl
theorem atF_16:opsF[16]? = some (opF 16):=by kernel_rfl
theorem fF_16:(opF 16).op = .indexAddr 28 (.tmp 119) (.tmp 120)∧(opF 16).dst=some 121∧(opF 16).guard=some (12,false)∧(opF 16).type=0:=by refine ⟨?_,?_,?_,?_⟩ <;> kernel_rfl
theorem atF_17:opsF[17]? = some (opF 17):=by kernel_rfl
theorem fF_17:(opF 17).op = .load 4 (.tmp 121)∧(opF 17).dst=some 122∧(opF 17).guard=some (12,false)∧(opF 17).type=4:=by refine ⟨?_,?_,?_,?_⟩ <;> kernel_rfl
theorem atF_18:opsF[18]? = some (opF 18):=by kernel_rfl
theorem fF_18:(opF 18).op = .unOp .not 4 (.tmp 122)∧(opF 18).dst=some 123∧(opF 18).guard=some (12,false)∧(opF 18).type=4:=by refine ⟨?_,?_,?_,?_⟩ <;> kernel_rfl
theorem atF_19:opsF[19]? = some (opF 19):=by kernel_rfl
theorem fF_19:(opF 19).op = .pick (.tmp 117) (.const (.bool true)) (.tmp 123)∧(opF 19).dst=some 124∧(opF 19).guard=none∧(opF 19).type=4:=by refine ⟨?_,?_,?_,?_⟩ <;> kernel_rfl
section
variable {P:Program} {ops:Array Oper} {S:World→Prop} {o:Oper} {a:Act}
theorem wanted_g {i:Nat} {b:Bool} {oi:Oper} {d:Tmp} (hg:o.guard=some (i,b)) (hi:ops[i]? = some oi) (hd:oi.dst=some d) (hv:a.eval (.tmp d) = .bool b):Region.wanted o (yielded ops a.tmps)=true:=by
 have h1:a.tmps[d]? = some (.bool b):=by
  unfold Act.eval at hv
  by_cases h:d < a.tmps.size
  · simp [h] at hv ⊢; exact hv
  · simp [h] at hv; cases hv
 unfold Region.wanted yielded
 rw [hg]
 simp [hi,hd,h1]
theorem yg_field {t:TypeId} {x:Operand} {k:Nat} {v p:Value} (hw:Region.wanted o (yielded ops a.tmps)=true) (ho:o.op = .fieldAddr t x k) (hx:a.eval x=v) (hf:∀ w,(Instr.fieldAt t v k).run P w = .ok p w):YieldsIf P ops S o p a :=
 .inl ⟨hw,fun w _=>by unfold execOp; simp only [ho,hx,Sem.run_bind,hf,Result.andThen_ok]; rfl⟩
theorem yg_load {t:TypeId} {x:Operand} {v p:Value} (hw:Region.wanted o (yielded ops a.tmps)=true) (ho:o.op = .load t x) (hx:a.eval x=v) (hf:∀ w,S w→(Instr.loadAt t v).run P w = .ok p w):YieldsIf P ops S o p a :=
 .inl ⟨hw,fun w hS=>by unfold execOp; simp only [ho,hx,Sem.run_bind,hf w hS,Result.andThen_ok]; rfl⟩
theorem yg_move {x:Operand} {v:Value} (hw:Region.wanted o (yielded ops a.tmps)=true) (ho:o.op = .move x) (hx:a.eval x=v):YieldsIf P ops S o v a :=
 .inl ⟨hw,fun w _=>by unfold execOp; simp only [ho,hx]; rfl⟩
theorem yg_index {t:TypeId} {x y:Operand} {v u p:Value} (hw:Region.wanted o (yielded ops a.tmps)=true) (ho:o.op = .indexAddr t x y) (hx:a.eval x=v) (hy:a.eval y=u) (hf:∀ w,S w→(Instr.indexAt t v u).run P w = .ok p w):YieldsIf P ops S o p a :=
 .inl ⟨hw,fun w hS=>by unfold execOp; simp only [ho,hx,hy,Sem.run_bind,hf w hS,Result.andThen_ok]; rfl⟩
theorem yg_not {t:TypeId} {x:Operand} {b:Bool} (hw:Region.wanted o (yielded ops a.tmps)=true) (ho:o.op = .unOp .not t x) (hx:a.eval x = .bool b):YieldsIf P ops S o (.bool !b) a :=
 .inl ⟨hw,fun w _=>by unfold execOp; simp only [ho,hx]; simp [go_sem]⟩
theorem yg_pick {x y z:Operand} {v:Value} (hw:Region.wanted o (yielded ops a.tmps)=true) (ho:o.op = .pick x y z) (hx:a.eval x = .bool false) (hz:a.eval z=v):YieldsIf P ops S o v a :=
 .inl ⟨hw,fun w _=>by unfold execOp; simp only [ho,hx,hz]; simp [go_sem]⟩
end
theorem ix27 (b n c k:Nat) (hk:k < n) (w:World):(Instr.indexAt 27 (.slice (some ⟨b,0,none⟩) n c) (.int .i64 k)).run Tryz.prog w = .ok (.pointer (some ⟨b,k,none⟩)) w:=by simp [go_sem,hk]
theorem ix28 (b n c k:Nat) (hk:k < n) (w:World):(Instr.indexAt 28 (.slice (some ⟨b,0,none⟩) n c) (.int .i64 k)).run Tryz.prog w = .ok (.pointer (some ⟨b,k,none⟩)) w:=by simp [go_sem,hk]
theorem ld4 (ad:Addr) (v:Value) (w:World) (h:w.cell? ad=some v):(Instr.loadAt 4 (.pointer (some ad))).run Tryz.prog w = .ok v w:=by simp [go_sem,h]
structure Sf (b4 b10 ga gb gc n ca cb cc j:Nat) (va vb:Value) (w:World):Prop where
 s0:w.cell? ⟨b4,0,none⟩=some (.slice (some ⟨ga,0,none⟩) n ca)
 s1:w.cell? ⟨b4,1,none⟩=some (.slice (some ⟨gb,0,none⟩) n cb)
 s2:w.cell? ⟨b10,0,none⟩=some (.slice (some ⟨gc,0,none⟩) n cc)
 s3:w.cell? ⟨ga,j,none⟩=some va
 s4:w.cell? ⟨gc,j,none⟩=some vb
 s5:w.cell? ⟨gb,j,none⟩=some (.bool true)
theorem Sf.below {b4 b10 ga gb gc n ca cb cc j:Nat} {va vb:Value} {w w':World} (h:Sf b4 b10 ga gb gc n ca cb cc j va vb w) (hB:Below w.heap.size w w'):Sf b4 b10 ga gb gc n ca cb cc j va vb w' :=
 ⟨cell_below h.s0 hB (cell_lt h.s0),cell_below h.s1 hB (cell_lt h.s1),cell_below h.s2 hB (cell_lt h.s2),cell_below h.s3 hB (cell_lt h.s3),cell_below h.s4 hB (cell_lt h.s4),cell_below h.s5 hB (cell_lt h.s5)⟩
set_option maxHeartbeats 2000000 in
set_option maxRecDepth 100000 in
theorem rG_c {a0:Act} {w3:World} {b4 b10 ga gb gc n ca cb cc j:Nat} {va vb:Value} (sz:a0.tmps.size=126) (e4:a0.eval (.tmp 4) = .pointer (some ⟨b4,0,none⟩)) (e10:a0.eval (.tmp 10) = .pointer (some ⟨b10,0,none⟩)) (e11:a0.eval (.tmp 11) = .int .i64 j) (hj:j < n)
 (hS:Sf b4 b10 ga gb gc n ca cb cc j va vb w3) (hc:∀ w,Below w3.heap.size w3 w→Calls Tryz.prog 12 #[va,vb] w fun e w'=>e = .returned (.bool true)∧Below w.heap.size w w') :
 (Code.region 16 opsF true).wp Tryz.prog (fun e a' w'=>e = .normal∧(∃ aM,Same 105 123 a0 aM∧a'=aM.put (some 124) (.bool false))∧Below w3.heap.size w3 w') a0 w3:=by
 refine wp_region_held (S:=Sf b4 b10 ga gb gc n ca cb cc j va vb) (by kernel_rfl) ?_
 rw [show opsF.size=20 by kernel_rfl]
 show wpAnyH Tryz.prog .any opsF _ _ 20 _ a0 w3.drew
 have hS:Sf b4 b10 ga gb gc n ca cb cc j va vb w3.drew:=⟨hS.s0,hS.s1,hS.s2,hS.s3,hS.s4,hS.s5⟩
 have hB0:Below w3.heap.size w3 w3.drew:=(Below.refl _ _).drew
 refine wpAnyH_take (i:=0) atF_0 (by kernel_rfl) (by kernel_rfl) (by kernel_rfl) (fun _ _ _ h=>by cases h.1) (yg_field (p:=.pointer (some ⟨b4,0,none⟩)) (wanted_at fF_0.2.2.1 _) fF_0.1 (by (try simp only [eval_ne,ne_eq,Nat.reduceEqDiff,not_false_eq_true]); first | with_reducible exact e4 | with_reducible exact e10 | with_reducible exact e11 | exact eval_same (by (try simp only [size_put]); omega)) (fld30_0 b4)) hS ?_
 rw [fF_0.2.1]
 refine wpAnyH_take (i:=1) atF_1 (by kernel_rfl) (by kernel_rfl) (by kernel_rfl) (fun _ _ _ h=>by cases h.1) (yg_load (p:=.slice (some ⟨ga,0,none⟩) n ca) (wanted_at fF_1.2.2.1 _) fF_1.1 (by (try simp only [eval_ne,ne_eq,Nat.reduceEqDiff,not_false_eq_true]); first | with_reducible exact e4 | with_reducible exact e10 | with_reducible exact e11 | exact eval_same (by (try simp only [size_put]); omega)) (fun w hw=>ld27 _ _ w hw.s0)) hS ?_
 rw [fF_1.2.1]
 refine wpAnyH_take (i:=2) atF_2 (by kernel_rfl) (by kernel_rfl) (by kernel_rfl) (fun _ _ _ h=>by cases h.1) (yg_move (v:=.int .i64 j) (wanted_at fF_2.2.2.1 _) fF_2.1 (by (try simp only [eval_ne,ne_eq,Nat.reduceEqDiff,not_false_eq_true]); first | with_reducible exact e4 | with_reducible exact e10 | with_reducible exact e11 | exact eval_same (by (try simp only [size_put]); omega))) hS ?_
 rw [fF_2.2.1]
 refine wpAnyH_take (i:=3) atF_3 (by kernel_rfl) (by kernel_rfl) (by kernel_rfl) (fun _ _ _ h=>by cases h.1) (yg_index (p:=.pointer (some ⟨ga,j,none⟩)) (wanted_at fF_3.2.2.1 _) fF_3.1 (by (try simp only [eval_ne,ne_eq,Nat.reduceEqDiff,not_false_eq_true]); first | with_reducible exact e4 | with_reducible exact e10 | with_reducible exact e11 | exact eval_same (by (try simp only [size_put]); omega)) (by (try simp only [eval_ne,ne_eq,Nat.reduceEqDiff,not_false_eq_true]); first | with_reducible exact e4 | with_reducible exact e10 | with_reducible exact e11 | exact eval_same (by (try simp only [size_put]); omega)) (fun w _=>ix27 ga n ca j hj w)) hS ?_
 rw [fF_3.2.1]
 refine wpAnyH_take (i:=4) atF_4 (by kernel_rfl) (by kernel_rfl) (by kernel_rfl) (fun _ _ _ h=>by cases h.1) (yg_load (p:=va) (wanted_at fF_4.2.2.1 _) fF_4.1 (by (try simp only [eval_ne,ne_eq,Nat.reduceEqDiff,not_false_eq_true]); first | with_reducible exact e4 | with_reducible exact e10 | with_reducible exact e11 | exact eval_same (by (try simp only [size_put]); omega)) (fun w hw=>ld45 _ _ w hw.s3)) hS ?_
 rw [fF_4.2.1]
 refine wpAnyH_take (i:=5) atF_5 (by kernel_rfl) (by kernel_rfl) (by kernel_rfl) (fun _ _ _ h=>by cases h.1) (yg_field (p:=.pointer (some ⟨b10,0,none⟩)) (wanted_at fF_5.2.2.1 _) fF_5.1 (by (try simp only [eval_ne,ne_eq,Nat.reduceEqDiff,not_false_eq_true]); first | with_reducible exact e4 | with_reducible exact e10 | with_reducible exact e11 | exact eval_same (by (try simp only [size_put]); omega)) (fld30_0 b10)) hS ?_
 rw [fF_5.2.1]
 refine wpAnyH_take (i:=6) atF_6 (by kernel_rfl) (by kernel_rfl) (by kernel_rfl) (fun _ _ _ h=>by cases h.1) (yg_load (p:=.slice (some ⟨gc,0,none⟩) n cc) (wanted_at fF_6.2.2.1 _) fF_6.1 (by (try simp only [eval_ne,ne_eq,Nat.reduceEqDiff,not_false_eq_true]); first | with_reducible exact e4 | with_reducible exact e10 | with_reducible exact e11 | exact eval_same (by (try simp only [size_put]); omega)) (fun w hw=>ld27 _ _ w hw.s2)) hS ?_
 rw [fF_6.2.1]
 refine wpAnyH_take (i:=7) atF_7 (by kernel_rfl) (by kernel_rfl) (by kernel_rfl) (fun _ _ _ h=>by cases h.1) (yg_move (v:=.int .i64 j) (wanted_at fF_7.2.2.1 _) fF_7.1 (by (try simp only [eval_ne,ne_eq,Nat.reduceEqDiff,not_false_eq_true]); first | with_reducible exact e4 | with_reducible exact e10 | with_reducible exact e11 | exact eval_same (by (try simp only [size_put]); omega))) hS ?_
 rw [fF_7.2.1]
 refine wpAnyH_take (i:=8) atF_8 (by kernel_rfl) (by kernel_rfl) (by kernel_rfl) (fun _ _ _ h=>by cases h.1) (yg_index (p:=.pointer (some ⟨gc,j,none⟩)) (wanted_at fF_8.2.2.1 _) fF_8.1 (by (try simp only [eval_ne,ne_eq,Nat.reduceEqDiff,not_false_eq_true]); first | with_reducible exact e4 | with_reducible exact e10 | with_reducible exact e11 | exact eval_same (by (try simp only [size_put]); omega)) (by (try simp only [eval_ne,ne_eq,Nat.reduceEqDiff,not_false_eq_true]); first | with_reducible exact e4 | with_reducible exact e10 | with_reducible exact e11 | exact eval_same (by (try simp only [size_put]); omega)) (fun w _=>ix27 gc n cc j hj w)) hS ?_
 rw [fF_8.2.1]
 refine wpAnyH_take (i:=9) atF_9 (by kernel_rfl) (by kernel_rfl) (by kernel_rfl) (fun _ _ _ h=>by cases h.1) (yg_load (p:=vb) (wanted_at fF_9.2.2.1 _) fF_9.1 (by (try simp only [eval_ne,ne_eq,Nat.reduceEqDiff,not_false_eq_true]); first | with_reducible exact e4 | with_reducible exact e10 | with_reducible exact e11 | exact eval_same (by (try simp only [size_put]); omega)) (fun w hw=>ld45 _ _ w hw.s4)) hS ?_
 rw [fF_9.2.1]
 refine wpAnyH_all (rs:=[10]) (by kernel_rfl) (by simp) (fun i hi=>?_)
 obtain rfl:i=10:=by simpa using hi
 refine wpOp_at atF_10 fF_10.2.2.1 ?_
 have h1:=fF_10.1
 have h2:=fF_10.2.1
 generalize opF 10=o at *
 refine wp_call2_at (by kernel_rfl) h1 (by (try simp only [eval_ne,ne_eq,Nat.reduceEqDiff,not_false_eq_true]); first | with_reducible exact e4 | with_reducible exact e10 | with_reducible exact e11 | exact eval_same (by (try simp only [size_put]); omega)) (by (try simp only [eval_ne,ne_eq,Nat.reduceEqDiff,not_false_eq_true]); first | with_reducible exact e4 | with_reducible exact e10 | with_reducible exact e11 | exact eval_same (by (try simp only [size_put]); omega)) ((hc _ hB0).mono ?_)
 clear h1
 rintro e w5 ⟨rfl,hB⟩
 rw [h2]
 clear h2
 have hS:=hS.below hB
 have hB1:Below w3.heap.size w3 w5:=hB0.trans (hB.mono hB0.size)
 refine ⟨hS,?_⟩
 refine wpAnyH_take (i:=11) atF_11 (by kernel_rfl) (by kernel_rfl) (by kernel_rfl) (fun _ _ _ h=>by cases h.1) (yg_not (b:=true) (wanted_at fF_11.2.2.1 _) fF_11.1 (by (try simp only [eval_ne,ne_eq,Nat.reduceEqDiff,not_false_eq_true]); first | with_reducible exact e4 | with_reducible exact e10 | with_reducible exact e11 | exact eval_same (by (try simp only [size_put]); omega))) hS ?_
 rw [fF_11.2.1]
 refine wpAnyH_take (i:=12) atF_12 (by kernel_rfl) (by kernel_rfl) (by kernel_rfl) (fun _ _ _ h=>by cases h.1) (yg_move (v:=.bool !true) (wanted_at fF_12.2.2.1 _) fF_12.1 (by (try simp only [eval_ne,ne_eq,Nat.reduceEqDiff,not_false_eq_true]); first | with_reducible exact e4 | with_reducible exact e10 | with_reducible exact e11 | exact eval_same (by (try simp only [size_put]); omega))) hS ?_
 rw [fF_12.2.1]
 refine wpAnyH_take (i:=13) atF_13 (by kernel_rfl) (by kernel_rfl) (by kernel_rfl) (fun _ _ _ h=>by cases h.1) (yg_field (p:=.pointer (some ⟨b4,1,none⟩)) (wanted_g fF_13.2.2.1 atF_12 fF_12.2.1 (by (try simp only [eval_ne,ne_eq,Nat.reduceEqDiff,not_false_eq_true]); first | with_reducible exact e4 | with_reducible exact e10 | with_reducible exact e11 | exact eval_same (by (try simp only [size_put]); omega))) fF_13.1 (by (try simp only [eval_ne,ne_eq,Nat.reduceEqDiff,not_false_eq_true]); first | with_reducible exact e4 | with_reducible exact e10 | with_reducible exact e11 | exact eval_same (by (try simp only [size_put]); omega)) (fld30_1 b4)) hS ?_
 rw [fF_13.2.1]
 refine wpAnyH_take (i:=14) atF_14 (by kernel_rfl) (by kernel_rfl) (by kernel_rfl) (fun _ _ _ h=>by cases h.1) (yg_load (p:=.slice (some ⟨gb,0,none⟩) n cb) (wanted_g fF_14.2.2.1 atF_12 fF_12.2.1 (by (try simp only [eval_ne,ne_eq,Nat.reduceEqDiff,not_false_eq_true]); first | with_reducible exact e4 | with_reducible exact e10 | with_reducible exact e11 | exact eval_same (by (try simp only [size_put]); omega))) fF_14.1 (by (try simp only [eval_ne,ne_eq,Nat.reduceEqDiff,not_false_eq_true]); first | with_reducible exact e4 | with_reducible exact e10 | with_reducible exact e11 | exact eval_same (by (try simp only [size_put]); omega)) (fun w hw=>ld28 _ _ w hw.s1)) hS ?_
 rw [fF_14.2.1]
 refine wpAnyH_take (i:=15) atF_15 (by kernel_rfl) (by kernel_rfl) (by kernel_rfl) (fun _ _ _ h=>by cases h.1) (yg_move (v:=.int .i64 j) (wanted_g fF_15.2.2.1 atF_12 fF_12.2.1 (by (try simp only [eval_ne,ne_eq,Nat.reduceEqDiff,not_false_eq_true]); first | with_reducible exact e4 | with_reducible exact e10 | with_reducible exact e11 | exact eval_same (by (try simp only [size_put]); omega))) fF_15.1 (by (try simp only [eval_ne,ne_eq,Nat.reduceEqDiff,not_false_eq_true]); first | with_reducible exact e4 | with_reducible exact e10 | with_reducible exact e11 | exact eval_same (by (try simp only [size_put]); omega))) hS ?_
 rw [fF_15.2.1]
 refine wpAnyH_take (i:=16) atF_16 (by kernel_rfl) (by kernel_rfl) (by kernel_rfl) (fun _ _ _ h=>by cases h.1) (yg_index (p:=.pointer (some ⟨gb,j,none⟩)) (wanted_g fF_16.2.2.1 atF_12 fF_12.2.1 (by (try simp only [eval_ne,ne_eq,Nat.reduceEqDiff,not_false_eq_true]); first | with_reducible exact e4 | with_reducible exact e10 | with_reducible exact e11 | exact eval_same (by (try simp only [size_put]); omega))) fF_16.1 (by (try simp only [eval_ne,ne_eq,Nat.reduceEqDiff,not_false_eq_true]); first | with_reducible exact e4 | with_reducible exact e10 | with_reducible exact e11 | exact eval_same (by (try simp only [size_put]); omega)) (by (try simp only [eval_ne,ne_eq,Nat.reduceEqDiff,not_false_eq_true]); first | with_reducible exact e4 | with_reducible exact e10 | with_reducible exact e11 | exact eval_same (by (try simp only [size_put]); omega)) (fun w _=>ix28 gb n cb j hj w)) hS ?_
 rw [fF_16.2.1]
 refine wpAnyH_take (i:=17) atF_17 (by kernel_rfl) (by kernel_rfl) (by kernel_rfl) (fun _ _ _ h=>by cases h.1) (yg_load (p:=.bool true) (wanted_g fF_17.2.2.1 atF_12 fF_12.2.1 (by (try simp only [eval_ne,ne_eq,Nat.reduceEqDiff,not_false_eq_true]); first | with_reducible exact e4 | with_reducible exact e10 | with_reducible exact e11 | exact eval_same (by (try simp only [size_put]); omega))) fF_17.1 (by (try simp only [eval_ne,ne_eq,Nat.reduceEqDiff,not_false_eq_true]); first | with_reducible exact e4 | with_reducible exact e10 | with_reducible exact e11 | exact eval_same (by (try simp only [size_put]); omega)) (fun w hw=>ld4 _ _ w hw.s5)) hS ?_
 rw [fF_17.2.1]
 refine wpAnyH_take (i:=18) atF_18 (by kernel_rfl) (by kernel_rfl) (by kernel_rfl) (fun _ _ _ h=>by cases h.1) (yg_not (b:=true) (wanted_g fF_18.2.2.1 atF_12 fF_12.2.1 (by (try simp only [eval_ne,ne_eq,Nat.reduceEqDiff,not_false_eq_true]); first | with_reducible exact e4 | with_reducible exact e10 | with_reducible exact e11 | exact eval_same (by (try simp only [size_put]); omega))) fF_18.1 (by (try simp only [eval_ne,ne_eq,Nat.reduceEqDiff,not_false_eq_true]); first | with_reducible exact e4 | with_reducible exact e10 | with_reducible exact e11 | exact eval_same (by (try simp only [size_put]); omega))) hS ?_
 rw [fF_18.2.1]
 refine wpAnyH_take (i:=19) atF_19 (by kernel_rfl) (by kernel_rfl) (by kernel_rfl) (fun _ _ _ h=>by cases h.1) (yg_pick (v:=.bool !true) (wanted_at fF_19.2.2.1 _) fF_19.1 (by (try simp only [eval_ne,ne_eq,Nat.reduceEqDiff,not_false_eq_true]); first | with_reducible exact e4 | with_reducible exact e10 | with_reducible exact e11 | exact eval_same (by (try simp only [size_put]); omega)) (by (try simp only [eval_ne,ne_eq,Nat.reduceEqDiff,not_false_eq_true]); first | with_reducible exact e4 | with_reducible exact e10 | with_reducible exact e11 | exact eval_same (by (try simp only [size_put]); omega))) hS ?_
 rw [fF_19.2.1]
 refine ⟨by kernel_rfl,rfl,⟨_,?_,rfl⟩,hB1⟩
 exact (((((((((((((((((((Same.refl 105 123 a0).put (by decide) (by decide)).put (by decide) (by decide)).put (by decide) (by decide)).put (by decide) (by decide)).put (by decide) (by decide)).put (by decide) (by decide)).put (by decide) (by decide)).put (by decide) (by decide)).put (by decide) (by decide)).put (by decide) (by decide)).put (by decide) (by decide)).put (by decide) (by decide)).put (by decide) (by decide)).put (by decide) (by decide)).put (by decide) (by decide)).put (by decide) (by decide)).put (by decide) (by decide)).put (by decide) (by decide)).put (by decide) (by decide)
end Lb
end Go.Proofs
namespace Go.Proofs
open Go.RowKit
namespace Lb
theorem map_get (q:List Int) (j:Nat) (hj:j < q.length):(q.map (Value.int .i64))[j]? = some (.int .i64 (q.getD j 0)):=by
 rw [List.getElem?_map,List.getElem?_eq_getElem hj,List.getD_eq_getElem?_getD,List.getElem?_eq_getElem hj]; rfl
theorem Same.act19 {lo:Nat} {a a':Act} (h:Same lo (lo+18) a a') (hs:lo+18 < a.tmps.size):∃ v0 v1 v2 v3 v4 v5 v6 v7 v8 v9 v10 v11 v12 v13 v14 v15 v16 v17 v18,a'=(((((((((((((((((((a.put (some lo) v0).put (some (lo+1)) v1).put (some (lo+2)) v2).put (some (lo+3)) v3).put (some (lo+4)) v4).put (some (lo+5)) v5).put (some (lo+6)) v6).put (some (lo+7)) v7).put (some (lo+8)) v8).put (some (lo+9)) v9).put (some (lo+10)) v10).put (some (lo+11)) v11).put (some (lo+12)) v12).put (some (lo+13)) v13).put (some (lo+14)) v14).put (some (lo+15)) v15).put (some (lo+16)) v16).put (some (lo+17)) v17).put (some (lo+18)) v18):=by
 have h:=h.next (by (try simp only [size_put]); omega)
 have h:=h.next (by (try simp only [size_put]); omega)
 have h:=h.next (by (try simp only [size_put]); omega)
 have h:=h.next (by (try simp only [size_put]); omega)
 have h:=h.next (by (try simp only [size_put]); omega)
 have h:=h.next (by (try simp only [size_put]); omega)
 have h:=h.next (by (try simp only [size_put]); omega)
 have h:=h.next (by (try simp only [size_put]); omega)
 have h:=h.next (by (try simp only [size_put]); omega)
 have h:=h.next (by (try simp only [size_put]); omega)
 have h:=h.next (by (try simp only [size_put]); omega)
 have h:=h.next (by (try simp only [size_put]); omega)
 have h:=h.next (by (try simp only [size_put]); omega)
 have h:=h.next (by (try simp only [size_put]); omega)
 have h:=h.next (by (try simp only [size_put]); omega)
 have h:=h.next (by (try simp only [size_put]); omega)
 have h:=h.next (by (try simp only [size_put]); omega)
 have h:=h.next (by (try simp only [size_put]); omega)
 have h:=h.next (by (try simp only [size_put]); omega)
 exact ⟨_,_,_,_,_,_,_,_,_,_,_,_,_,_,_,_,_,_,_,h.eq (by omega)⟩
theorem Lst.read {B:Nat} {w:World} {Lv Cv:Value} {L:List (List Int)} (h:Lst B w Lv Cv L) (h0:0 < L.length) :
 ∃ g c g2 c2,Lv = .slice (some ⟨g,0,none⟩) L.length c∧Cv = .slice (some ⟨g2,0,none⟩) L.length c2∧∀ i,i < L.length→∃ lv,w.cell? ⟨g,i,none⟩=some lv∧HasI w lv (L.getD i [])∧w.cell? ⟨g2,i,none⟩=some (.bool true):=by
 obtain ⟨⟨lvs,h1,h2⟩,h3⟩:=h
 rcases h1.2 with ⟨_,hz⟩ | ⟨g,c,cur,rfl,_,hg,hnc,_,hcs,htk⟩
 · omega
 rcases h3.2 with ⟨_,hz⟩ | ⟨g2,c2,cur2,rfl,_,hg2,hnc2,_,hcs2,htk2⟩
 · omega
 refine ⟨g,c,g2,c2,rfl,rfl,fun i hi=>?_⟩
 obtain ⟨lv,hlv,ho⟩:=h2 i hi
 refine ⟨lv,?_,?_,?_⟩
 · rw [←htk,List.getElem?_take_of_lt (by omega)] at hlv
   unfold World.cell?
   rw [show w.heap[(⟨g,i,none⟩:Addr).block]? = _ from hg]
   simpa using hlv
 · rcases ho.2 with ⟨rfl,hn⟩ | ⟨q,d,cur3,rfl,_,hq,hnd,_,hcs3,htk3⟩
   · have:L.getD i [] = []:=List.length_eq_zero_iff.1 hn
     rw [this]
     exact ⟨none,0,rfl,fun h=>absurd rfl h⟩
   · refine ⟨_,_,rfl,fun _=>⟨q,0,rfl,fun j hj=>?_⟩⟩
     have h4:=map_get (L.getD i []) j hj
     rw [←htk3,List.getElem?_take_of_lt (by omega)] at h4
     unfold World.cell?
     rw [show w.heap[(⟨q,0+j,none⟩:Addr).block]? = _ from hq]
     simpa using h4
 · have h4:(List.replicate L.length (Value.bool true))[i]? = some (.bool true):=by rw [List.getElem?_replicate,if_pos hi]
   rw [←htk2,List.getElem?_take_of_lt (by omega)] at h4
   unfold World.cell?
   rw [show w.heap[(⟨g2,i,none⟩:Addr).block]? = _ from hg2]
   simpa using h4
theorem Lst.below {B:Nat} {w w':World} {Lv Cv:Value} {L:List (List Int)} (h:Lst B w Lv Cv L) (hB:Below w.heap.size w w'):Lst B w' Lv Cv L:=h.quiet (grown_below hB)
theorem stK_L {add:List ByteArray} {nm:ByteArray} {prs:List ByteArray} {xs:List AArg} (hL:∀ a∈xs,a.l.length≤60):∀ k,k≤xs.length→∀ l∈(stK add nm prs xs k).L,l.length≤60
 | 0,_,l,h=>by simp [stK] at h
 | k+1,hk,l,h=>by
  have ih:=stK_L (add:=add) (nm:=nm) (prs:=prs) hL k (by omega)
  have hm:xs.getD k default∈xs:=by rw [List.getD_eq_getElem?_getD,List.getElem?_eq_getElem (by omega)]; exact List.getElem_mem _
  unfold stK st1 at h
  split at h
  · exact ih l h
  · split at h <;>
    · rcases List.mem_append.1 h with h | h
      · exact ih l h
      · rw [List.mem_singleton.1 h]; exact hL _ hm
set_option maxRecDepth 100000 in
set_option maxHeartbeats 6400000 in
theorem libP_known {I:World→Prop} {LB:World→Value→Prop} {nm tx tx2:ByteArray} {prs res:List ByteArray} {bs:List Bool} {txs nds tys:List ByteArray} (hK:Kn I LB nm tx tx2 prs res bs txs nds tys) (hC:Ctx I) {w:World} {v:Value} {xs:List AArg} (hi:I w)
 (h:HasA w v xs) (hs:nm.size≤100) (ht0:thinV xs=true) :
 Calls Tryz.prog 3 #[.agg #[.string nm,v]] w fun e w'=>e = .returned (.bool true)∧I w':=by
 obtain ⟨hl,hL⟩:=thin_len ht0
 have hB:Below w.heap.size w (w.alloc (.cells #[.string nm,v] 24)):=(Below.refl _ _).alloc (Nat.le_refl _) _
 have hz:=size_new w (.cells #[.string nm,v] 24)
 have ht:=thin_c xs v _ (h.below hB) (by omega)
 rw [ht0] at ht
 have hown:=own_c nm xs v _ (h.below hB) hl hL
 obtain ⟨er,her⟩:∃ er,er=argErr prs xs:=⟨_,rfl⟩
 obtain ⟨TX,hTX⟩:∃ TX,TX=textB bs txs res nm (stK [nthB,packB] nm prs xs xs.length):=⟨_,rfl⟩
 obtain ⟨LL,hLL⟩:∃ LL,LL=(stK [nthB,packB] nm prs xs xs.length).L:=⟨_,rfl⟩
 have hprog:∀ (w1:World) (v1:Value),I w1→HasA w1 v1 xs→Calls Tryz.prog 7 #[.string nm,v1] w1 fun e w'=>∃ Lv Cv T,e = .returned (.tuple #[.string T,.agg #[Lv,Cv],.int .i64 er])∧Below w1.heap.size w1 w'∧Fin_ er TX LL w1.heap.size w' Lv Cv T:=by
  intro w1 v1 h1 hA
  refine prog_c fun w2 hB2=>(call_known hK (hK.imono _ _ h1 hB2) (hA.below hB2) hl hL).mono ?_
  rintro e w' ⟨Lv,Cv,T,he,hb,hf⟩
  refine ⟨Lv,Cv,T,by rw [her]; exact he,hb,?_⟩
  rcases hf with ⟨a,b,c,d⟩ | ⟨a,b,B,c,d⟩
  · exact .inl ⟨by rw [her]; exact a,b,c,d⟩
  · exact .inr ⟨by rw [her]; exact a,by rw [hTX]; exact b,B,Nat.le_trans hB2.size c,by rw [hLL]; exact d⟩
 have hawk:=hC.awk
 have hI0:I (w.alloc (.cells #[.string nm,v] 24)):=hC.mono _ _ hi hB
 have k0:(w.alloc (.cells #[.string nm,v] 24)).cell? ⟨w.heap.size,0,none⟩=some (.string nm):=by rw [cells_new]; rfl
 have k1:(w.alloc (.cells #[.string nm,v] 24)).cell? ⟨w.heap.size,1,none⟩=some v:=by rw [cells_new]; rfl
 have h1':¬ (100:Int) < (nm.size:Int):=by omega
 have hbx:=heap_alloc_new w (.cells #[.string nm,v] 24)
 have hA0:Hid (HasA w v xs):=h
 obtain ⟨p,c,rfl,_⟩:=h
 have hm:∀ w w',I w→Below w.heap.size w w'→I w':=hK.imono
 have hm':Hid _:=hm
 have hawk':Hid _:=hawk
 have hbx':Hid _:=hbx
 have hI0':Hid _:=hI0
 have hprog':Hid _:=hprog
 have hK':Hid _:=hK
 have hL':Hid _:=hL
 have her':Hid _:=her
 have hTX':Hid _:=hTX
 have hLL':Hid _:=hLL
 have hB':Hid _:=hB
 clear hC hi hB ht0 hL hm hawk hbx hI0 hprog hK her hTX hLL
 go_enter Tryz.func3,Tryz.ntmps3
 go_wp2_with (first | (go_at_call 5; refine ht.mono ?_; rintro e w1 ⟨rfl,hw1⟩; rw [hw1]; clear hw1) | (go_at_call 8; refine hown.mono ?_))
 rintro e w1 ⟨v1,rfl,hA1,hB1⟩
 have hI1:I w1:=hm'.out _ _ hI0'.out hB1
 have hz1:=hB1.size
 have hp:=hprog'.out w1 v1 hI1 hA1
 have hbx1:w1.heap[w.heap.size]? = some (.cells #[.string nm,.slice p xs.length c] 24 (0,0)):=(hB1.block _ (by rw [hz]; omega)).trans hbx'.out
 have hBw1:Below w.heap.size w w1:=hB'.out.trans (hB1.mono (by rw [hz]; omega))
 have hbx1':Hid _:=hbx1
 have hBw1':Hid _:=hBw1
 have hI1':Hid (I w1):=hI1
 rw [hz] at hz1
 clear hown ht hA1 hB1 hI1 hbx1 hz k0 k1 hBw1
 go_wp2_with (go_at_call 7; refine hp.mono ?_)
 rintro e w2 ⟨Lv,Cv,T,rfl,hB2,hF⟩
 obtain ⟨⟨p1,n1,c1,hLe⟩,⟨p2,n2,c2,hCe⟩⟩:=hF.form
 subst hLe hCe
 have hI2:I w2:=hm'.out _ _ hI1'.out hB2
 have hz2:=hB2.size
 have hB3:Below w2.heap.size w2 (w2.alloc (.cells #[.slice p1 n1 c1,.slice p2 n2 c2] 30)):=(Below.refl _ _).alloc (Nat.le_refl _) _
 have hI3:=hm'.out _ _ hI2 hB3
 have hz3:=size_new w2 (.cells #[.slice p1 n1 c1,.slice p2 n2 c2] 30)
 have hr:=hK'.out.rfind _ hI3
 have hbx3:(w2.alloc (.cells #[.slice p1 n1 c1,.slice p2 n2 c2] 30)).heap[w.heap.size]? = some (.cells #[.string nm,.slice p xs.length c] 24 (0,0)):=(heap_alloc_old _ _ (by omega)).trans ((hB2.block _ (by omega)).trans hbx1'.out)
 have h30:=heap_alloc_new w2 (.cells #[.slice p1 n1 c1,.slice p2 n2 c2] 30)
 have m0:(w2.alloc (.cells #[.slice p1 n1 c1,.slice p2 n2 c2] 30)).cell? ⟨w.heap.size,0,none⟩=some (.string nm):=(cell_of_heap hbx3).trans rfl
 have hBw3:Below w.heap.size w (w2.alloc (.cells #[.slice p1 n1 c1,.slice p2 n2 c2] 30)):=(hBw1'.out.trans (hB2.mono (by omega))).alloc (by omega) _
 have hF3:Fin_ er TX LL w1.heap.size (w2.alloc (.cells #[.slice p1 n1 c1,.slice p2 n2 c2] 30)) (.slice p1 n1 c1) (.slice p2 n2 c2) T:=hF.quiet (World.grownBy_alloc _ _ _)
 have hF3':Hid _:=hF3
 have hI3':Hid _:=hI3
 have h30':Hid _:=h30
 have hbx3':Hid _:=hbx3
 have hBw3':Hid _:=hBw3
 clear hp hB2 hI2 hB3 hI3 hbx3 h30 hF hF3 hBw3
 go_wp2_with (go_at_call 9; refine hr.mono ?_)
 rintro e w4 ⟨pp,pn,pc,rp,rn,rc,cp,cn,cc,n,rfl,hn0,hn1,hps,hrs,hB4⟩
 have hI4:I w4:=hm'.out _ _ hI3'.out hB4
 have hz4:=hB4.size
 rw [hz3] at hz4
 have hB5:Below w4.heap.size w4 (w4.alloc (.cells #[.string nm,.string tx2,.slice pp pn pc,.slice rp rn rc,.slice cp cn cc] 38)):=(Below.refl _ _).alloc (Nat.le_refl _) _
 have hI5:=hm'.out _ _ hI4 hB5
 have hz5:=size_new w4 (.cells #[.string nm,.string tx2,.slice pp pn pc,.slice rp rn rc,.slice cp cn cc] 38)
 have hBw5:Below w.heap.size w (w4.alloc (.cells #[.string nm,.string tx2,.slice pp pn pc,.slice rp rn rc,.slice cp cn cc] 38)):=(hBw3'.out.trans (hB4.mono (by rw [hz3]; omega))).alloc (by omega) _
 have hargs:=refArgs_c prs xs nm tx2 (.slice pp pn pc) (.slice rp rn rc) (.slice cp cn cc) (.slice p xs.length c) _ (hps.below hB5) (HasA.below (w:=w) (xs:=xs) hA0.out hBw5) hl hK'.out.prL hL'.out
 rw [←her'.out] at hargs
 have hbx5:(w4.alloc (.cells #[.string nm,.string tx2,.slice pp pn pc,.slice rp rn rc,.slice cp cn cc] 38)).heap[w.heap.size]? = some (.cells #[.string nm,.slice p xs.length c] 24 (0,0)):=(heap_alloc_old _ _ (by omega)).trans ((hB4.block _ (by rw [hz3]; omega)).trans hbx3'.out)
 have h305:(w4.alloc (.cells #[.string nm,.string tx2,.slice pp pn pc,.slice rp rn rc,.slice cp cn cc] 38)).heap[w2.heap.size]? = some (.cells #[.slice p1 n1 c1,.slice p2 n2 c2] 30 (0,0)):=(heap_alloc_old _ _ (by omega)).trans ((hB4.block _ (by rw [hz3]; omega)).trans h30'.out)
 have m1:(w4.alloc (.cells #[.string nm,.string tx2,.slice pp pn pc,.slice rp rn rc,.slice cp cn cc] 38)).cell? ⟨w.heap.size,1,none⟩=some (.slice p xs.length c):=(cell_of_heap hbx5).trans rfl
 have hF5:Fin_ er TX LL w1.heap.size (w4.alloc (.cells #[.string nm,.string tx2,.slice pp pn pc,.slice rp rn rc,.slice cp cn cc] 38)) (.slice p1 n1 c1) (.slice p2 n2 c2) T:=(Fin_.quiet hF3'.out (grown_below hB4)).quiet (World.grownBy_alloc _ _ _)
 have hps5:=hps.below hB5
 have hrs5:=hrs.below hB5
 have hbx5':Hid _:=hbx5
 have h305':Hid _:=h305
 have hF5':Hid _:=hF5
 have hps5':Hid _:=hps5
 have hrs5':Hid _:=hrs5
 have hI5':Hid _:=hI5
 have hBw5':Hid _:=hBw5
 clear hr hB4 hI4 hB5 hI5 hps hrs hBw5 hbx5 h305 hF5 hps5 hrs5 m0
 go_wp2_with (go_at_call 10; refine hargs.mono ?_)
 rintro e w6 ⟨rfl,hB6⟩
 have hz6:=hB6.size
 rw [hz5] at hz6
 have hI6:I w6:=hm'.out _ _ hI5'.out hB6
 have h306:w6.heap[w2.heap.size]? = some (.cells #[.slice p1 n1 c1,.slice p2 n2 c2] 30 (0,0)):=(hB6.block _ (by rw [hz5]; omega)).trans h305'.out
 have h386:w6.heap[w4.heap.size]? = some (.cells #[.string nm,.string tx2,.slice pp pn pc,.slice rp rn rc,.slice cp cn cc] 38 (0,0)):=(hB6.block _ (by rw [hz5]; omega)).trans (heap_alloc_new w4 _)
 have hbx6:w6.heap[w.heap.size]? = some (.cells #[.string nm,.slice p xs.length c] 24 (0,0)):=(hB6.block _ (by rw [hz5]; omega)).trans hbx5'.out
 by_cases he0:er=0
 · subst he0
   rcases hF5'.out with ⟨h0,_⟩ | ⟨_,e3,B,hBb,hLst5⟩
   case inl=>exact absurd rfl h0
   obtain ⟨hfl,hft,hN⟩:=argErr_zero (Eq.symm her'.out)
   have hR:(stK [packB] nm prs xs xs.length).R=nm :: addsOf [packB] prs:=by
    rw [stK_R [packB] nm prs xs hft hfl xs.length (Nat.le_refl _),List.take_of_length_le (by omega)]
   have hBw6:Below w.heap.size w w6:=Below.trans hBw5'.out (hB6.mono (by rw [hz5]; omega))
   obtain ⟨g1,g2,g3⟩:=stK_add [packB] [nthB,packB] nm prs xs xs.length
   have hTT:textR tys res nm (stK [packB] nm prs xs xs.length)=TX:=by
    rw [hTX'.out]; exact (text_eq bs txs tys res nm _ _ g1.symm g2.symm hK'.out.same).symm
   have hLL2:(stK [packB] nm prs xs xs.length).L=LL:=by rw [hLL'.out]; exact g3
   have hll:∀ l∈LL,l.length≤60:=by rw [hLL'.out]; exact stK_L hL'.out xs.length (Nat.le_refl _)
   have hrf:=rf_c nm tx2 prs res xs (.slice pp pn pc) (.slice rp rn rc) (.slice cp cn cc) (.slice p xs.length c) w6 (HasS.below hps5'.out hB6) (HasA.below (w:=w) (xs:=xs) hA0.out hBw6) hl hL'.out hN (by omega)
    (HasS.below hrs5'.out hB6) hK'.out.resS hK'.out.resL hK'.out.nmS nds tys hK'.out.tysL hK'.out.tysS hK'.out.ndsL I hI6 (fun wa wb hB h=>hm'.out wa wb h hB)
    (fun w1 r ho hB hI=>by rw [hR] at ho; exact hK'.out.rneeds w1 r _ hI ho) (fun w1 i hi hB hI=>hK'.out.rfinds w1 i hi hI)
   rw [hTT,hLL2] at hrf
   have hq4:LL.length≤6:=by
    obtain ⟨_,q2,_,q4⟩:=stK_len [nthB,packB] nm prs xs xs.length
    rw [hLL'.out,q4]; omega
   have hLst6:Lst B w6 (.slice p1 n1 c1) (.slice p2 n2 c2) LL:=hLst5.below hB6
   obtain ⟨_,_,e1⟩:=slice_of hLst6.1.choose_spec.1
   obtain ⟨_,_,e2⟩:=slice_of hLst6.2
   cases e1
   cases e2
   subst e3
   have q0:w6.cell? ⟨w4.heap.size,0,none⟩=some (.string nm):=(cell_of_heap h386).trans rfl
   have q1:w6.cell? ⟨w4.heap.size,1,none⟩=some (.string tx2):=(cell_of_heap h386).trans rfl
   have q2:w6.cell? ⟨w4.heap.size,2,none⟩=some (.slice pp pn pc):=(cell_of_heap h386).trans rfl
   have q3:w6.cell? ⟨w4.heap.size,3,none⟩=some (.slice rp rn rc):=(cell_of_heap h386).trans rfl
   have q4:w6.cell? ⟨w4.heap.size,4,none⟩=some (.slice cp cn cc):=(cell_of_heap h386).trans rfl
   have m6:w6.cell? ⟨w.heap.size,1,none⟩=some (.slice p xs.length c):=(cell_of_heap hbx6).trans rfl
   have hLst6':Hid _:=hLst6
   have hI6':Hid (I w6):=hI6
   have h306':Hid _:=h306
   have hll':Hid _:=hll
   clear hargs hB6 hI6 h306 h386 hbx6 m1 hfl hft hN hR hBw6 g1 g2 g3 hTT hLL2 hll hLst6 hLst5
   obtain ⟨nL,hnL⟩:∃ nL,nL=LL.length:=⟨_,rfl⟩
   have hnL':Hid (nL=LL.length):=hnL
   rw [←hnL] at hq4 ⊢
   have hrf2:=hrf.mono (R':=fun e w'=>∃ p3 c3 p4 c4,e = .returned (.tuple #[.string T,.agg #[.slice p3 nL c3,.slice p4 nL c4]])∧Lst (w6.heap.size+2) w' (.slice p3 nL c3) (.slice p4 nL c4) LL∧Below w6.heap.size w6 w') (by
    rintro e w' ⟨L2,C2,rfl,hl7,hb7⟩
    obtain ⟨p3,c3,e3⟩:=slice_of hl7.1.choose_spec.1
    obtain ⟨p4,c4,e4⟩:=slice_of hl7.2
    rw [←hnL] at e3 e4
    subst e3 e4
    exact ⟨p3,c3,p4,c4,rfl,hl7,hb7⟩)
   clear hrf hnL
   go_wp2_with (go_at_call 11; refine hrf2.mono ?_)
   rintro e w7 ⟨p3,c3,p4,c4,rfl,hLst7,hB7⟩
   have hz7:=hB7.size
   have hI7:I w7:=hm'.out _ _ hI6'.out hB7
   have hB8:Below w7.heap.size w7 (w7.alloc (.cells #[.slice p3 nL c3,.slice p4 nL c4] 30)):=(Below.refl _ _).alloc (Nat.le_refl _) _
   have hI8:=hm'.out _ _ hI7 hB8
   have hz8:=size_new w7 (.cells #[.slice p3 nL c3,.slice p4 nL c4] 30)
   have h308:(w7.alloc (.cells #[.slice p3 nL c3,.slice p4 nL c4] 30)).heap[w2.heap.size]? = some (.cells #[.slice p1 LL.length c1,.slice p2 LL.length c2] 30 (0,0)):=(heap_alloc_old _ _ (by omega)).trans ((hB7.block _ (by omega)).trans h306'.out)
   have h309:=heap_alloc_new w7 (.cells #[.slice p3 nL c3,.slice p4 nL c4] 30)
   have la:Lst B (w7.alloc (.cells #[.slice p3 nL c3,.slice p4 nL c4] 30)) (.slice p1 LL.length c1) (.slice p2 LL.length c2) LL:=(Lst.below (B:=B) hLst6'.out hB7).below hB8
   have lb:=hLst7.below hB8
   rw [←hnL'.out] at h308 la
   have c0:(w7.alloc (.cells #[.slice p3 nL c3,.slice p4 nL c4] 30)).cell? ⟨w2.heap.size,0,none⟩=some (.slice p1 nL c1):=(cell_of_heap h308).trans rfl
   have c1':(w7.alloc (.cells #[.slice p3 nL c3,.slice p4 nL c4] 30)).cell? ⟨w2.heap.size,1,none⟩=some (.slice p2 nL c2):=(cell_of_heap h308).trans rfl
   have d0:(w7.alloc (.cells #[.slice p3 nL c3,.slice p4 nL c4] 30)).cell? ⟨w7.heap.size,0,none⟩=some (.slice p3 nL c3):=(cell_of_heap h309).trans rfl
   have h308':Hid _:=h308
   have h309':Hid _:=h309
   have la':Hid _:=la
   have lb':Hid _:=lb
   have hI8':Hid _:=hI8
   clear hrf2 hLst7 hB7 hI7 hB8 hI8 h308 h309 la lb q0 q1 q2 q3 q4 m6
   go_wp2
   obtain ⟨W8,hW8⟩:∃ W8,W8=w7.alloc (.cells #[.slice p3 nL c3,.slice p4 nL c4] 30):=⟨_,rfl⟩
   rw [←hW8] at c0 c1' d0 la' lb' h308' h309' hI8' hz8 ⊢
   clear hW8
   go_loopw [11] (fun i wx=>∃ j:Nat,j≤nL∧i = .int .i64 j∧Below W8.heap.size W8 wx∧I wx) (fun i _=>nL - (intOf i).toNat)
   case atStart=>exact ⟨0,Nat.zero_le _,rfl,Below.refl _ _,hI8'.out⟩
   case round =>
    obtain ⟨j,hj,rfl,hBj,hIj⟩:=hrel
    have c0:=cell_below c0 hBj (cell_lt c0)
    have c1':=cell_below c1' hBj (cell_lt c1')
    have d0:=cell_below d0 hBj (cell_lt d0)
    by_cases hjn:j < nL
    · obtain ⟨ga,ca,gb,cb,e1,e2,hra⟩:=Lst.read la'.out (by rw [←hnL'.out]; omega)
      obtain ⟨gc,cc2,gd,cd,e3,e4,hrb⟩:=Lst.read lb'.out (by rw [←hnL'.out]; omega)
      injection e1 with e1 _ e1'
      injection e2 with e2 _ e2'
      injection e3 with e3 _ e3'
      injection e4 with e4 _ e4'
      subst e1 e1' e2 e2' e3 e3'
      obtain ⟨va,ha1,ha2,ha3⟩:=hra j (by rw [←hnL'.out]; exact hjn)
      obtain ⟨vb,hb1,hb2,_⟩:=hrb j (by rw [←hnL'.out]; exact hjn)
      have hlj:(LL.getD j []).length≤9223372036854775807:=by
       have:LL.getD j []∈LL:=by rw [List.getD_eq_getElem?_getD,List.getElem?_eq_getElem (by rw [←hnL'.out]; exact hjn)]; exact List.getElem_mem _
       have:=hll'.out _ this
       omega
      have ha1:=cell_below ha1 hBj (cell_lt ha1)
      have ha3:=cell_below ha3 hBj (cell_lt ha3)
      have hb1:=cell_below hb1 hBj (cell_lt hb1)
      have hints:=fun wz (hB:Below wr.heap.size wr wz)=>ints_same (LL.getD j []) va vb wz ((ha2.below hBj).below hB) ((hb2.below hBj).below hB) hlj
      have hBj':Hid (Below W8.heap.size W8 wr):=hBj
      have hIj':Hid (I wr):=hIj
      have hSf:Hid (Sf w2.heap.size w7.heap.size ga gb gc nL c1 c2 c3 j va vb wr):=⟨c0,c1',d0,ha1,hb1,ha3⟩
      have hints':Hid _:=hints
      clear hra hrb ha2 hb2 hBj hIj hlj hints
      go_wp2
      refine Code.wp_mono (fun e aF wF h=>?_) (rG_c (j:=j) (by rfl) (by rfl) (by rfl) (by rfl) hjn hSf.out hints'.out)
      obtain ⟨rfl,⟨aM,hsm,rfl⟩,hBF⟩:=h
      obtain ⟨v105,v106,v107,v108,v109,v110,v111,v112,v113,v114,v115,v116,v117,v118,v119,v120,v121,v122,v123,rfl⟩:=Same.act19 (lo:=105) hsm (show 105+18 < 126 by decide)
      simp only [Act.put,List.setIfInBounds_toArray,List.set_cons_zero,List.set_cons_succ]
      have hIF:I wF:=hm'.out _ _ hIj'.out hBF
      have hBF8:Below W8.heap.size W8 wF:=Below.trans hBj'.out (hBF.mono (Below.size hBj'.out))
      clear c0 c1' d0 ha1 ha3 hb1 hsm hBF
      go_wp2
      go_roundw
      case rel=>exact ⟨j+1,by omega,by go_num,hBF8,hIF⟩
      case measure=>simp [intOf]; omega
    · obtain rfl:j=nL:=by omega
      have hc:=hawk'.out _ hIj
      clear hBj hIj
      go_wp2_with (go_at_call 6; refine hc.mono ?_; rintro e w' ⟨rfl,hI⟩)
      go_ret
      exact ⟨rfl,hI⟩
 · rcases hF5'.out with ⟨_,e1,e2,e3⟩ | ⟨h0,_⟩
   case inr=>exact absurd h0 he0
   cases e1
   cases e2
   subst e3
   have c0:w6.cell? ⟨w2.heap.size,0,none⟩=some (.slice none 0 0):=(cell_of_heap h306).trans rfl
   have c1:w6.cell? ⟨w2.heap.size,1,none⟩=some (.slice none 0 0):=(cell_of_heap h306).trans rfl
   have hc:=hawk'.out _ hI6
   clear hargs hB6 hI6 h306 h386 hbx6 m1
   go_wp2_with (go_at_call 6; refine hc.mono ?_; rintro e w' ⟨rfl,hI⟩)
   go_ret
   exact ⟨rfl,hI⟩
end Lb
end Go.Proofs
