/- PROVED HERE: a part (Wh) of the tied card of LibPrograms (floodgatelaw25): the call returns true and its argument reads as before. CONDITIONS: those of the given row and card alone. -/
import Derived.Test.YtlophehgfmdakaaGreatDoorWf
import Derived.Test.YtlophehgfmdakaaGreatDoorWc
import Derived.Test.YtlophehgfmdakaaGreatDoorWe
namespace Go.Proofs
open Go.RowKit
namespace Lb
noncomputable def opsB:Array Oper:=regIn 10 Tryz.f11
noncomputable def opB (i:Nat):Oper:=opsB.getD i default
theorem atB_0:opsB[0]? = some (opB 0):=by kernel_rfl
theorem fB_0:(opB 0).op = .fieldAddr 30 (.tmp 8) 0∧(opB 0).dst=some 46∧(opB 0).guard=none∧(opB 0).type=0:=by refine ⟨?_,?_,?_,?_⟩ <;> kernel_rfl
theorem atB_1:opsB[1]? = some (opB 1):=by kernel_rfl
theorem fB_1:(opB 1).op = .load 27 (.tmp 46)∧(opB 1).dst=some 47∧(opB 1).guard=none∧(opB 1).type=27:=by refine ⟨?_,?_,?_,?_⟩ <;> kernel_rfl
theorem atB_2:opsB[2]? = some (opB 2):=by kernel_rfl
theorem fB_2:(opB 2).op = .buildSlice 45 0 #[]∧(opB 2).dst=some 48∧(opB 2).guard=none∧(opB 2).type=45:=by refine ⟨?_,?_,?_,?_⟩ <;> kernel_rfl
theorem atB_3:opsB[3]? = some (opB 3):=by kernel_rfl
theorem fB_3:(opB 3).op = .move (.tmp 1)∧(opB 3).dst=some 49∧(opB 3).guard=none∧(opB 3).type=22:=by refine ⟨?_,?_,?_,?_⟩ <;> kernel_rfl
theorem atB_4:opsB[4]? = some (opB 4):=by kernel_rfl
theorem fB_4:(opB 4).op = .move (.tmp 11)∧(opB 4).dst=some 50∧(opB 4).guard=none∧(opB 4).type=3:=by refine ⟨?_,?_,?_,?_⟩ <;> kernel_rfl
theorem atB_5:opsB[5]? = some (opB 5):=by kernel_rfl
theorem fB_5:(opB 5).op = .indexAddr 22 (.tmp 49) (.tmp 50)∧(opB 5).dst=some 51∧(opB 5).guard=none∧(opB 5).type=0:=by refine ⟨?_,?_,?_,?_⟩ <;> kernel_rfl
theorem atB_6:opsB[6]? = some (opB 6):=by kernel_rfl
theorem fB_6:(opB 6).op = .fieldAddr 60 (.tmp 51) 2∧(opB 6).dst=some 52∧(opB 6).guard=none∧(opB 6).type=0:=by refine ⟨?_,?_,?_,?_⟩ <;> kernel_rfl
theorem atB_7:opsB[7]? = some (opB 7):=by kernel_rfl
theorem fB_7:(opB 7).op = .load 45 (.tmp 52)∧(opB 7).dst=some 53∧(opB 7).guard=none∧(opB 7).type=45:=by refine ⟨?_,?_,?_,?_⟩ <;> kernel_rfl
theorem atB_8:opsB[8]? = some (opB 8):=by kernel_rfl
theorem fB_8:(opB 8).op = .call { callee:=.builtin .append,args:=#[.tmp 48,.tmp 53],argTypes:=#[45,45] }∧(opB 8).dst=some 54∧(opB 8).guard=none∧(opB 8).type=45:=by refine ⟨?_,?_,?_,?_⟩ <;> kernel_rfl
theorem atB_9:opsB[9]? = some (opB 9):=by kernel_rfl
theorem fB_9:(opB 9).op = .buildSlice 27 1 #[(0,.tmp 54)]∧(opB 9).dst=some 55∧(opB 9).guard=none∧(opB 9).type=27:=by refine ⟨?_,?_,?_,?_⟩ <;> kernel_rfl
theorem atB_10:opsB[10]? = some (opB 10):=by kernel_rfl
theorem fB_10:(opB 10).op = .call { callee:=.builtin .append,args:=#[.tmp 47,.tmp 55],argTypes:=#[27,27] }∧(opB 10).dst=some 56∧(opB 10).guard=none∧(opB 10).type=27:=by refine ⟨?_,?_,?_,?_⟩ <;> kernel_rfl
theorem atB_11:opsB[11]? = some (opB 11):=by kernel_rfl
theorem fB_11:(opB 11).op = .fieldAddr 30 (.tmp 8) 1∧(opB 11).dst=some 57∧(opB 11).guard=none∧(opB 11).type=0:=by refine ⟨?_,?_,?_,?_⟩ <;> kernel_rfl
theorem atB_12:opsB[12]? = some (opB 12):=by kernel_rfl
theorem fB_12:(opB 12).op = .load 28 (.tmp 57)∧(opB 12).dst=some 58∧(opB 12).guard=none∧(opB 12).type=28:=by refine ⟨?_,?_,?_,?_⟩ <;> kernel_rfl
theorem atB_13:opsB[13]? = some (opB 13):=by kernel_rfl
theorem fB_13:(opB 13).op = .buildSlice 28 1 #[(0,.const (.bool true))]∧(opB 13).dst=some 59∧(opB 13).guard=none∧(opB 13).type=28:=by refine ⟨?_,?_,?_,?_⟩ <;> kernel_rfl
theorem atB_14:opsB[14]? = some (opB 14):=by kernel_rfl
theorem fB_14:(opB 14).op = .call { callee:=.builtin .append,args:=#[.tmp 58,.tmp 59],argTypes:=#[28,28] }∧(opB 14).dst=some 60∧(opB 14).guard=none∧(opB 14).type=28:=by refine ⟨?_,?_,?_,?_⟩ <;> kernel_rfl
theorem atB_15:opsB[15]? = some (opB 15):=by kernel_rfl
theorem fB_15:(opB 15).op = .fieldAddr 30 (.tmp 8) 0∧(opB 15).dst=some 61∧(opB 15).guard=none∧(opB 15).type=0:=by refine ⟨?_,?_,?_,?_⟩ <;> kernel_rfl
theorem atB_16:opsB[16]? = some (opB 16):=by kernel_rfl
theorem fB_16:(opB 16).op = .store 27 (.tmp 61) (.tmp 56)∧(opB 16).dst=none∧(opB 16).guard=none∧(opB 16).type=0:=by refine ⟨?_,?_,?_,?_⟩ <;> kernel_rfl
theorem atB_17:opsB[17]? = some (opB 17):=by kernel_rfl
theorem fB_17:(opB 17).op = .fieldAddr 30 (.tmp 8) 1∧(opB 17).dst=some 62∧(opB 17).guard=none∧(opB 17).type=0:=by refine ⟨?_,?_,?_,?_⟩ <;> kernel_rfl
theorem atB_18:opsB[18]? = some (opB 18):=by kernel_rfl
theorem fB_18:(opB 18).op = .store 28 (.tmp 62) (.tmp 60)∧(opB 18).dst=none∧(opB 18).guard=none∧(opB 18).type=0:=by refine ⟨?_,?_,?_,?_⟩ <;> kernel_rfl
theorem infoInt9:(Tryz.prog.info? 3).map (fun i=>(i.zero,i.size,i.bytes))=some (some (.int .i64 0),1,8):=by kernel_rfl
theorem fld60_2o (b o:Nat) (w:World):(Instr.fieldAt 60 (.pointer (some ⟨b,o,none⟩)) 2).run Tryz.prog w = .ok (.pointer (some ⟨b,o+2,none⟩)) w:=by simp [go_sem]
theorem fld30_1 (b:Nat) (w:World):(Instr.fieldAt 30 (.pointer (some ⟨b,0,none⟩)) 1).run Tryz.prog w = .ok (.pointer (some ⟨b,1,none⟩)) w:=by simp [go_sem]
theorem ix22 (b o n c k:Nat) (hk:k < n) (w:World):(Instr.indexAt 22 (.slice (some ⟨b,o,none⟩) n c) (.int .i64 k)).run Tryz.prog w = .ok (.pointer (some ⟨b,o+k * 3,none⟩)) w:=by simp [go_sem,hk]
theorem bs45 (w:World):(Instr.buildSlice 45 0 #[]).run Tryz.prog w = .ok (.slice (some ⟨w.heap.size,0,none⟩) 0 0) (w.alloc (.cells #[] 3)):=by simp [go_sem]
def Em (B:Nat) (w3 w:World) (v:Value):Prop:=∃ g,v = .slice (some ⟨g,0,none⟩) 0 0∧w3.heap.size≤g∧w.ownsRow B 3 1 v 0 []
theorem Em.on {B:Nat} {w3 w w':World} {v:Value} (h:Em B w3 w v) (g:w.grownBy w' none):Em B w3 w' v:=let ⟨b,e,hb,ho⟩:=h; ⟨b,e,hb,own_none ho g⟩
theorem app_list {B:Nat} {w3 w:World} {ve av:Value} {l:List Int} (he:Em B w3 w ve) (hI:HasI w av l) (hl:l.length≤60) (hB:B≤w.heap.size) :
 ∃ lv w',(Builtin.append_ #[45,45] 45 #[ve,av]).run Tryz.prog w = .ok lv w'∧(∃ p n c,lv = .slice p n c)∧w'.ownsRow B 3 1 lv l.length (l.map (Value.int .i64))∧w.grownBy w' ve.ownBlock:=by
 obtain ⟨i0,hi0,hz0,hz1,hz2⟩:=info_parts infoInt9
 obtain ⟨g,rfl,hg,ho⟩:=he
 obtain ⟨p,c,rfl,hq⟩:=hI
 by_cases h0:l = []
 · subst h0
   exact ⟨_,w,run_append_zero1 45 45 3 i0 Tryz.underlying45 hi0 ⟨g,0,none⟩ 0 0 (Nat.le_refl _) p c,⟨_,_,_,rfl⟩,ho,⟨rfl,rfl,rfl,Nat.le_refl _,fun _ _ _=>rfl⟩⟩
 · obtain ⟨b,o,rfl,hc⟩:=hq h0
   have hpos:=List.length_pos_iff.2 h0
   obtain ⟨g',cap,w',hr,h2,h3,_,_⟩:=run_append_lies (P:=Tryz.prog) w 45 45 B 3 i0 _ 1 8 Tryz.underlying45 hi0 hz0 hz1 hz2 rfl (by omega) (.slice (some ⟨g,0,none⟩) 0 0) 0 [] ho ⟨b,o,none⟩ l.length c (l.map (Value.int .i64)) (by simp)
    (fun j u h=>by
     have hj:j < l.length:=by have:=(List.getElem?_eq_some_iff.1 h).1; simpa using this
     rw [Addr.add_lit,hc j hj]
     rw [List.getElem?_map,List.getElem?_eq_getElem hj] at h
     rw [List.getD_eq_getElem?_getD,List.getElem?_eq_getElem hj]
     simpa using h)
    (fun u hu=>by obtain ⟨x,_,rfl⟩:=List.mem_map.1 hu; rfl) hpos (by unfold maxLen; omega) (by omega) hB _ rfl
   rw [Nat.zero_add,List.nil_append] at h2
   rw [Nat.zero_add] at hr
   exact ⟨_,w',hr,⟨_,_,_,rfl⟩,h2,h3⟩
def QB_ (a0:Act) (X:World→Prop):Exit→Act→World→Prop:=fun e a' w'=>e = .normal∧Same 46 62 a0 a'∧X w'
section
variable {B bp nL:Nat} {ad:Addr} {l:List Int} {Lv Cv av:Value} {lvs:List Value} {w3 w:World} {lv L' v59:Value} {a0 a:Act}
theorem rD_fin (h:Rx B bp 30 nL ad l [] Lv Cv av lvs w3) (hs:Same 46 62 a0 a) (sz:a0.tmps.size=134) (e8:a0.eval (.tmp 8) = .pointer (some ⟨bp,0,none⟩))
 (e56:a.eval (.tmp 56)=L') (hL':∃ g c,L' = .slice (some ⟨g,0,none⟩) (nL+1) c) (e58:a.eval (.tmp 58)=Cv) (e59:a.eval (.tmp 59)=v59) (e61:a.eval (.tmp 61) = .pointer (some ⟨bp,0,none⟩))
 (hW:W3 B nL l Lv lvs w3 w lv L') (hb:Bk w3 w v59 (.bool true) 4) :
 wpU Tryz.prog .any opsB (QB_ a0 (Px B bp nL l Lv Cv lvs w3)) (Sx bp ad Lv Cv av) 16 4 (lsA [0,1,2,3,4,5,6,7,8,9,10,11,12,13,15]) a w:=by
 obtain ⟨i4,hi4,h40,h41,h42⟩:=info_parts infoBool
 obtain ⟨b,rfl,hbk,hb3⟩:=hb
 have n6:=h.n6
 have hsz:a.tmps.size=134:=hs.1.trans sz
 have hp:=row_keep h.hp hW.g h.bL
 have hoC:w.ownsRow B 4 1 Cv nL (List.replicate nL (.bool true)):=h.oC.kept hW.g (own_ne h.oC h.oL (by decide))
 have hBs:B≤w.heap.size:=Nat.le_trans h.sB hW.g.size
 refine wpU_all (rs:=[14]) (by kernel_rfl) (by simp) (fun i hi=>?_)
 obtain rfl:i=14:=by simpa using hi
 refine wpOp_at atB_14 fB_14.2.2.1 ?_
 refine wp_append_lies w (.tmp 58) (.tmp 59) 28 fB_14.1 B 4 i4 (.bool false) 1 1 Tryz.underlying28 hi4 h40 h41 h42 rfl (by omega) Cv nL _ e58 hoC ⟨b,0,none⟩ 1 1 [.bool true] e59 (by rfl)
  (World.news_of_block hbk) (by simp [Value.oneCell']) (by omega) (by unfold maxLen; omega) (by omega) hBs _ rfl ?_
 intro gP capP wP hownP hgP hatP hltP
 have hpP:=row_keep hp hgP h.bC
 rw [fB_14.2.1]
 have hsA:=hs.put (d:=60) (v:=.slice (some ⟨gP,0,none⟩) (nL+1) capP) (by decide) (by decide)
 refine ⟨fun _=>?_,?_⟩
 · exact ⟨hgP.cell (hW.g.cell h.k2 h.ne) (fun e=>h.neC e),(cell_of_heap hpP).trans rfl,(cell_of_heap hpP).trans rfl⟩
 obtain ⟨gL,cL,rfl⟩:=hL'
 refine wpU_all (rs:=[16]) (by kernel_rfl) (by simp) (fun i hi=>?_)
 obtain rfl:i=16:=by simpa using hi
 refine wpOp_at atB_16 fB_16.2.2.1 ?_
 refine wp_store_at fB_16.1 ((eval_ne (by decide)).trans e61) ((eval_ne (by decide)).trans e56) (st27 _ _ _ _ ((cell_of_heap hpP).trans rfl) (froz_of_heap hpP) _ _ _ rfl) ?_
 rw [fB_16.2.1]
 refine ⟨fun h=>absurd h (by decide),?_⟩
 refine wpU_all (rs:=[17]) (by kernel_rfl) (by simp) (fun i hi=>?_)
 obtain rfl:i=17:=by simpa using hi
 refine (yif_field (S:=fun _=>True) fB_17.2.2.1 fB_17.1 ((hsA.2.2 8 (by decide)).trans e8) (fld30_1 bp)).wpOp atB_17 trivial ?_
 refine ⟨fun h=>absurd h (by decide),?_⟩
 rw [fB_17.2.1]
 have hsC:=hsA.put (d:=62) (v:=.pointer (some ⟨bp,1,none⟩)) (by decide) (by decide)
 refine wpU_all (rs:=[18]) (by kernel_rfl) (by simp) (fun i hi=>?_)
 obtain rfl:i=18:=by simpa using hi
 have hpQ:=heap_setCell_same wP bp 0 _ _ (.slice (some ⟨gL,0,none⟩) (nL+1) cL) hpP
 refine wpOp_at atB_18 fB_18.2.2.1 ?_
 refine wp_store_at fB_18.1 (eval_same (by rw [size_put]; omega)) ((eval_ne (by decide)).trans (eval_same (by omega))) (st28 _ _ _ _ ((cell_of_heap hpQ).trans rfl) (froz_of_heap hpQ) _ _ _ rfl) ?_
 rw [fB_18.2.1]
 refine ⟨fun h=>absurd h (by decide),?_⟩
 refine ⟨by kernel_rfl,rfl,hsC,?_⟩
 obtain ⟨w1,w2,wL,g1,o1,g2,o2,g3,g4⟩:=hW
 exact ⟨lv,_,_,w1,w2,wL,w,wP,g1,o1,g2,o2,g3,g4,hownP,hgP,rfl⟩
theorem op13 {K:Act→World→Prop} {Q:Exit→Act→World→Prop} (hw:w3.heap.size≤w.heap.size) (h:∀ v59,Bk w3 (w.alloc (.cells #[.bool true] 4)) v59 (.bool true) 4→K (a.put (some 59) v59) (w.alloc (.cells #[.bool true] 4))):wpOp Tryz.prog opsB Q 13 K a w:=by
 refine wpOp_at atB_13 fB_13.2.2.1 ?_
 have h1:=fB_13.1
 have h2:=fB_13.2.1
 generalize opB 13=o at *
 refine wp_slice_at h1 (v:=.slice (some ⟨w.heap.size,0,none⟩) 1 1) (w':=w.alloc (.cells #[.bool true] 4)) (by simp only [List.map_toArray,List.map_cons,List.map_nil]; exact bs28 w) ?_
 rw [h2]
 exact h _ (Bk.new hw)
theorem op2 {K:Act→World→Prop} {Q:Exit→Act→World→Prop} (hB:B≤w3.heap.size) (hw:w3.heap.size≤w.heap.size) (h:∀ ve,Em B w3 (w.alloc (.cells #[] 3)) ve→K (a.put (some 48) ve) (w.alloc (.cells #[] 3))):wpOp Tryz.prog opsB Q 2 K a w:=by
 refine wpOp_at atB_2 fB_2.2.2.1 ?_
 have h1:=fB_2.1
 have h2:=fB_2.2.1
 generalize opB 2=o at *
 refine wp_slice_at h1 (v:=.slice (some ⟨w.heap.size,0,none⟩) 0 0) (w':=w.alloc (.cells #[] 3)) (by simp only [List.map_toArray,List.map_nil]; exact bs45 w) ?_
 rw [h2]
 exact h _ ⟨_,rfl,hw,by simp,.inr ⟨_,0,#[],rfl,Nat.le_trans hB hw,heap_alloc_new w _,Nat.le_refl _,Nat.zero_le _,rfl,rfl⟩⟩
theorem op8 {K:Act→World→Prop} {Q:Exit→Act→World→Prop} (h:Rx B bp 30 nL ad l [] Lv Cv av lvs w3) (hI:HasI w3 av l) (hl60:l.length≤60) {ve:Value} (e48:a.eval (.tmp 48)=ve) (e53:a.eval (.tmp 53)=av) (hg:w3.grownBy w none) (he:Em B w3 w ve)
 (hK:∀ lv w',(∃ p n c,lv = .slice p n c)→W1 B l w3 w' lv→w3.grownBy w' none→w.grownBy w' ve.ownBlock→K (a.put (some 54) lv) w'):wpOp Tryz.prog opsB Q 8 K a w:=by
 have hIw:HasI w av l:=hI.below ⟨hg.os,hg.tape,hg.output,hg.size,fun k hk=>hg.block k hk (by simp)⟩
 obtain ⟨lv,w',hr,hsl,ho,hg2⟩:=app_list he hIw hl60 (Nat.le_trans h.sB hg.size)
 have hg3:w3.grownBy w' none:=⟨hg2.os.trans hg.os,hg2.tape.trans hg.tape,hg2.output.trans hg.output,Nat.le_trans hg.size hg2.size,fun k hk _=>(hg2.block k (Nat.lt_of_lt_of_le hk hg.size) (fun e=>by
  obtain ⟨g,rfl,hge,_⟩:=he
  have:k=g:=by simpa [Value.ownBlock] using e
  omega)).trans (hg.block k hk (by simp))⟩
 refine wpOp_at atB_8 fB_8.2.2.1 ?_
 have h1:=fB_8.1
 have h2:=fB_8.2.1
 have h3:=fB_8.2.2.2
 generalize opB 8=o at *
 unfold Oper.wp execOp
 simp only [h1,h3,resolve,invoke,builtin,Sem.run_bind,Sem.run_pure,Result.andThen_ok,List.map_toArray,List.map_cons,List.map_nil,e48,e53,hr]
 show K (a.put o.dst lv) w'
 rw [h2]
 exact hK lv w' hsl ⟨w',hg3,ho,⟨rfl,rfl,rfl,Nat.le_refl _,fun _ _ _=>rfl⟩⟩ hg3 hg2
theorem op9 {K:Act→World→Prop} {Q:Exit→Act→World→Prop} (e54:a.eval (.tmp 54)=lv) (hl:∃ p n c,lv = .slice p n c) (hW:W1 B l w3 w lv) (hK:∀ v55,Bk w3 (w.alloc (.cells #[lv] 45)) v55 lv 45→K (a.put (some 55) v55) (w.alloc (.cells #[lv] 45))):wpOp Tryz.prog opsB Q 9 K a w:=by
 obtain ⟨p,n,c,rfl⟩:=hl
 refine wpOp_at atB_9 fB_9.2.2.1 ?_
 have h1:=fB_9.1
 have h2:=fB_9.2.1
 generalize opB 9=o at *
 refine wp_slice_at h1 (v:=.slice (some ⟨w.heap.size,0,none⟩) 1 1) (w':=w.alloc (.cells #[.slice p n c] 45)) (by simp only [List.map_toArray,List.map_cons,List.map_nil,e54]; exact bs27 w p n c) ?_
 rw [h2]
 exact hK _ (Bk.new hW.g.size)
theorem op10 {K:Act→World→Prop} {Q:Exit→Act→World→Prop} (h:Rx B bp 30 nL ad l [] Lv Cv av lvs w3) (e47:a.eval (.tmp 47)=Lv) {v55:Value} (e55:a.eval (.tmp 55)=v55) (hl:lv.oneCell'=true) (hW:W1 B l w3 w lv) (hb:Bk w3 w v55 lv 45)
 (hK:∀ g c w',W3 B nL l Lv lvs w3 w' lv (.slice (some ⟨g,0,none⟩) (nL+1) c)→w.grownBy w' Lv.ownBlock→K (a.put (some 56) (.slice (some ⟨g,0,none⟩) (nL+1) c)) w'):wpOp Tryz.prog opsB Q 10 K a w:=by
 obtain ⟨i45,hi45,h450,h451,h452⟩:=info_parts infoInts
 obtain ⟨b,rfl,hbk,hb3⟩:=hb
 have n6:=h.n6
 refine wpOp_at atB_10 fB_10.2.2.1 ?_
 refine wp_append_lies w (.tmp 47) (.tmp 55) 27 fB_10.1 B 45 i45 (.slice none 0 0) 1 24 Tryz.underlying27 hi45 h450 h451 h452 rfl (by omega) Lv nL _ e47 (own_none h.oL hW.g) ⟨b,0,none⟩ 1 1 [lv] e55 (by rfl)
  (World.news_of_block hbk) (by simp [hl]) (by omega) (by unfold maxLen; omega) (by omega) (Nat.le_trans h.sB hW.g.size) _ rfl ?_
 intro gP capP wP hownP hgP hatP hltP
 rw [fB_10.2.1]
 obtain ⟨w1,g1,o1,g2⟩:=hW
 exact hK _ _ _ ⟨w1,w,wP,g1,o1,g2,hownP,hgP,⟨rfl,rfl,rfl,Nat.le_refl _,fun _ _ _=>rfl⟩⟩ hgP
theorem Bk.onE {x:Bool} {w':World} {ve:Value} (h:Bk w3 w v59 (.bool x) 4) (he:Em B w3 w ve) (g:w.grownBy w' ve.ownBlock):Bk w3 w' v59 (.bool x) 4:=by
 obtain ⟨b,e1,hb,h3⟩:=h
 obtain ⟨q,rfl,hq,ho⟩:=he
 exact ⟨b,e1,row_keep hb g (bp_ne hb ho (by decide)),h3⟩
theorem rD_4t (h:Rx B bp 30 nL ad l [] Lv Cv av lvs w3) (_hI:HasI w3 av l) (_hl60:l.length≤60) (hs:Same 46 62 a0 a) (sz:a0.tmps.size=134) (e8:a0.eval (.tmp 8) = .pointer (some ⟨bp,0,none⟩)) (e56:a.eval (.tmp 56)=L') (e58:a.eval (.tmp 58)=Cv) (e59:a.eval (.tmp 59)=v59) (hL':∃ g c,L' = .slice (some ⟨g,0,none⟩) (nL+1) c) (hW:W3 B nL l Lv lvs w3 w lv L') (hb:Bk w3 w v59 (.bool true) 4):wpU Tryz.prog .any opsB (QB_ a0 (Px B bp nL l Lv Cv lvs w3)) (Sx bp ad Lv Cv av) 16 5 (lsA [0,1,2,3,4,5,6,7,8,9,10,11,12,13]) a w:=by
 have hsz:a.tmps.size=134:=hs.1.trans sz
 have hS:=h.s3 hW
 refine wpU_take (i:=15) atB_15 (by kernel_rfl) (by kernel_rfl) (by kernel_rfl) (fun _ _ _ h=>by cases h.1) (by decide) (bind_of (by kernel_rfl)) (by kernel_rfl) (yif_field fB_15.2.2.1 fB_15.1 ((hs.2.2 8 (by decide)).trans e8) (fld30_0 bp)) hS ?_
 rw [fB_15.2.1]
 refine wpU_list (l':=lsA [0,1,2,3,4,5,6,7,8,9,10,11,12,13,15]) (by kernel_rfl) ?_
 exact rD_fin h (hs.put (by decide) (by decide)) sz e8 ((eval_ne (by decide)).trans e56) hL' ((eval_ne (by decide)).trans e58) ((eval_ne (by decide)).trans e59) (eval_same (by omega)) hW hb
theorem rD_4f (h:Rx B bp 30 nL ad l [] Lv Cv av lvs w3) (_hI:HasI w3 av l) (_hl60:l.length≤60) (hs:Same 46 62 a0 a) (sz:a0.tmps.size=134) (e8:a0.eval (.tmp 8) = .pointer (some ⟨bp,0,none⟩)) (e56:a.eval (.tmp 56)=L') (e58:a.eval (.tmp 58)=Cv) (hL':∃ g c,L' = .slice (some ⟨g,0,none⟩) (nL+1) c) (hW:W3 B nL l Lv lvs w3 w lv L'):wpU Tryz.prog .any opsB (QB_ a0 (Px B bp nL l Lv Cv lvs w3)) (Sx bp ad Lv Cv av) 16 6 (lsA [0,1,2,3,4,5,6,7,8,9,10,11,12]) a w:=by
 have hsz:a.tmps.size=134:=hs.1.trans sz
 have hS:=h.s3 hW
 refine wpU_take (i:=15) atB_15 (by kernel_rfl) (by kernel_rfl) (by kernel_rfl) (fun _ _ _ h=>by cases h.1) (by decide) (bind_of (by kernel_rfl)) (by kernel_rfl) (yif_field fB_15.2.2.1 fB_15.1 ((hs.2.2 8 (by decide)).trans e8) (fld30_0 bp)) hS ?_
 rw [fB_15.2.1]
 refine wpU_all (rs:=[13]) (by kernel_rfl) (by simp) (fun i hi=>?_)
 obtain rfl:i=13:=by simpa using hi
 refine op13 hW.g.size fun v59 hb=>?_
 have hW':=hW.on (World.grownBy_alloc w (.cells #[.bool true] 4) none)
 refine ⟨fun _=>h.s3 hW',?_⟩
 refine wpU_list (l':=lsA [0,1,2,3,4,5,6,7,8,9,10,11,12,13,15]) (by kernel_rfl) ?_
 exact rD_fin h ((hs.put (by decide) (by decide)).put (by decide) (by decide)) sz e8 ((eval_ne (by decide)).trans ((eval_ne (by decide)).trans e56)) hL' ((eval_ne (by decide)).trans ((eval_ne (by decide)).trans e58)) (eval_same (by rw [size_put]; omega)) ((eval_ne (by decide)).trans (eval_same (by omega))) hW' hb
theorem rD_3t (h:Rx B bp 30 nL ad l [] Lv Cv av lvs w3) (hI:HasI w3 av l) (hl60:l.length≤60) (hs:Same 46 62 a0 a) (sz:a0.tmps.size=134) (e8:a0.eval (.tmp 8) = .pointer (some ⟨bp,0,none⟩)) {v55:Value} (e47:a.eval (.tmp 47)=Lv) (e55:a.eval (.tmp 55)=v55) (e58:a.eval (.tmp 58)=Cv) (e59:a.eval (.tmp 59)=v59) (hl:∃ p n c,lv = .slice p n c) (hW:W1 B l w3 w lv) (hb1:Bk w3 w v55 lv 45) (hb:Bk w3 w v59 (.bool true) 4):wpU Tryz.prog .any opsB (QB_ a0 (Px B bp nL l Lv Cv lvs w3)) (Sx bp ad Lv Cv av) 16 6 (lsA [0,1,2,3,4,5,6,7,8,9,11,12,13]) a w:=by
 have hsz:a.tmps.size=134:=hs.1.trans sz
 refine wpU_all (rs:=[10]) (by kernel_rfl) (by simp) (fun i hi=>?_)
 obtain rfl:i=10:=by simpa using hi
 refine op10 h e47 e55 (by obtain ⟨p,n,c,rfl⟩:=hl; rfl) hW hb1 fun g c w' hW' hg=>⟨fun _=>h.s3 hW',?_⟩
 refine wpU_list (l':=lsA [0,1,2,3,4,5,6,7,8,9,10,11,12,13]) (by kernel_rfl) ?_
 exact rD_4t h hI hl60 (hs.put (by decide) (by decide)) sz e8 (eval_same (by omega)) ((eval_ne (by decide)).trans e58) ((eval_ne (by decide)).trans e59) ⟨_,_,rfl⟩ hW' (hb.onL h hg)
theorem rD_3f (h:Rx B bp 30 nL ad l [] Lv Cv av lvs w3) (hI:HasI w3 av l) (hl60:l.length≤60) (hs:Same 46 62 a0 a) (sz:a0.tmps.size=134) (e8:a0.eval (.tmp 8) = .pointer (some ⟨bp,0,none⟩)) {v55:Value} (e47:a.eval (.tmp 47)=Lv) (e55:a.eval (.tmp 55)=v55) (e58:a.eval (.tmp 58)=Cv) (hl:∃ p n c,lv = .slice p n c) (hW:W1 B l w3 w lv) (hb1:Bk w3 w v55 lv 45):wpU Tryz.prog .any opsB (QB_ a0 (Px B bp nL l Lv Cv lvs w3)) (Sx bp ad Lv Cv av) 16 7 (lsA [0,1,2,3,4,5,6,7,8,9,11,12]) a w:=by
 have hsz:a.tmps.size=134:=hs.1.trans sz
 refine wpU_all (rs:=[10,13]) (by kernel_rfl) (by simp) (fun i hi=>?_)
 have hi':i=10∨i=13:=by simpa using hi
 rcases hi' with rfl | rfl
 · refine op10 h e47 e55 (by obtain ⟨p,n,c,rfl⟩:=hl; rfl) hW hb1 fun g c w' hW' hg=>⟨fun _=>h.s3 hW',?_⟩
   refine wpU_list (l':=lsA [0,1,2,3,4,5,6,7,8,9,10,11,12]) (by kernel_rfl) ?_
   exact rD_4f h hI hl60 (hs.put (by decide) (by decide)) sz e8 (eval_same (by omega)) ((eval_ne (by decide)).trans e58) ⟨_,_,rfl⟩ hW'
 · have g:=World.grownBy_alloc w (.cells #[.bool true] 4) none
   refine op13 hW.g.size fun v59 hb=>⟨fun _=>h.s0 (hW.on g).g,?_⟩
   refine wpU_list (l':=lsA [0,1,2,3,4,5,6,7,8,9,11,12,13]) (by kernel_rfl) ?_
   exact rD_3t h hI hl60 (hs.put (by decide) (by decide)) sz e8 ((eval_ne (by decide)).trans e47) ((eval_ne (by decide)).trans e55) ((eval_ne (by decide)).trans e58) (eval_same (by omega)) hl (hW.on g) (hb1.on g) hb
theorem rD_2t (h:Rx B bp 30 nL ad l [] Lv Cv av lvs w3) (hI:HasI w3 av l) (hl60:l.length≤60) (hs:Same 46 62 a0 a) (sz:a0.tmps.size=134) (e8:a0.eval (.tmp 8) = .pointer (some ⟨bp,0,none⟩)) (e47:a.eval (.tmp 47)=Lv) (e54:a.eval (.tmp 54)=lv) (e58:a.eval (.tmp 58)=Cv) (e59:a.eval (.tmp 59)=v59) (hl:∃ p n c,lv = .slice p n c) (hW:W1 B l w3 w lv) (hb:Bk w3 w v59 (.bool true) 4):wpU Tryz.prog .any opsB (QB_ a0 (Px B bp nL l Lv Cv lvs w3)) (Sx bp ad Lv Cv av) 16 7 (lsA [0,1,2,3,4,5,6,7,8,11,12,13]) a w:=by
 have hsz:a.tmps.size=134:=hs.1.trans sz
 refine wpU_all (rs:=[9]) (by kernel_rfl) (by simp) (fun i hi=>?_)
 obtain rfl:i=9:=by simpa using hi
 have g:=World.grownBy_alloc w (.cells #[lv] 45) none
 refine op9 e54 hl hW fun v55 hb1=>⟨fun _=>h.s0 (hW.on g).g,?_⟩
 refine wpU_list (l':=lsA [0,1,2,3,4,5,6,7,8,9,11,12,13]) (by kernel_rfl) ?_
 exact rD_3t h hI hl60 (hs.put (by decide) (by decide)) sz e8 ((eval_ne (by decide)).trans e47) (eval_same (by omega)) ((eval_ne (by decide)).trans e58) ((eval_ne (by decide)).trans e59) hl (hW.on g) hb1 (hb.on g)
theorem rD_2f (h:Rx B bp 30 nL ad l [] Lv Cv av lvs w3) (hI:HasI w3 av l) (hl60:l.length≤60) (hs:Same 46 62 a0 a) (sz:a0.tmps.size=134) (e8:a0.eval (.tmp 8) = .pointer (some ⟨bp,0,none⟩)) (e47:a.eval (.tmp 47)=Lv) (e54:a.eval (.tmp 54)=lv) (e58:a.eval (.tmp 58)=Cv) (hl:∃ p n c,lv = .slice p n c) (hW:W1 B l w3 w lv):wpU Tryz.prog .any opsB (QB_ a0 (Px B bp nL l Lv Cv lvs w3)) (Sx bp ad Lv Cv av) 16 8 (lsA [0,1,2,3,4,5,6,7,8,11,12]) a w:=by
 have hsz:a.tmps.size=134:=hs.1.trans sz
 refine wpU_all (rs:=[9,13]) (by kernel_rfl) (by simp) (fun i hi=>?_)
 have hi':i=9∨i=13:=by simpa using hi
 rcases hi' with rfl | rfl
 · have g:=World.grownBy_alloc w (.cells #[lv] 45) none
   refine op9 e54 hl hW fun v55 hb1=>⟨fun _=>h.s0 (hW.on g).g,?_⟩
   refine wpU_list (l':=lsA [0,1,2,3,4,5,6,7,8,9,11,12]) (by kernel_rfl) ?_
   exact rD_3f h hI hl60 (hs.put (by decide) (by decide)) sz e8 ((eval_ne (by decide)).trans e47) (eval_same (by omega)) ((eval_ne (by decide)).trans e58) hl (hW.on g) hb1
 · have g:=World.grownBy_alloc w (.cells #[.bool true] 4) none
   refine op13 hW.g.size fun v59 hb=>⟨fun _=>h.s0 (hW.on g).g,?_⟩
   refine wpU_list (l':=lsA [0,1,2,3,4,5,6,7,8,11,12,13]) (by kernel_rfl) ?_
   exact rD_2t h hI hl60 (hs.put (by decide) (by decide)) sz e8 ((eval_ne (by decide)).trans e47) ((eval_ne (by decide)).trans e54) ((eval_ne (by decide)).trans e58) (eval_same (by omega)) hl (hW.on g) hb
theorem rD_1t (h:Rx B bp 30 nL ad l [] Lv Cv av lvs w3) (hI:HasI w3 av l) (hl60:l.length≤60) (hs:Same 46 62 a0 a) (sz:a0.tmps.size=134) (e8:a0.eval (.tmp 8) = .pointer (some ⟨bp,0,none⟩)) {ve:Value} (e47:a.eval (.tmp 47)=Lv) (e48:a.eval (.tmp 48)=ve) (e53:a.eval (.tmp 53)=av) (e58:a.eval (.tmp 58)=Cv) (e59:a.eval (.tmp 59)=v59) (hg:w3.grownBy w none) (he:Em B w3 w ve) (hb:Bk w3 w v59 (.bool true) 4):wpU Tryz.prog .any opsB (QB_ a0 (Px B bp nL l Lv Cv lvs w3)) (Sx bp ad Lv Cv av) 16 8 (lsA [0,1,2,3,4,5,6,7,11,12,13]) a w:=by
 have hsz:a.tmps.size=134:=hs.1.trans sz
 refine wpU_all (rs:=[8]) (by kernel_rfl) (by simp) (fun i hi=>?_)
 obtain rfl:i=8:=by simpa using hi
 refine op8 h hI hl60 e48 e53 hg he fun lv w' hl hW hg' hge=>⟨fun _=>h.s0 hg',?_⟩
 refine wpU_list (l':=lsA [0,1,2,3,4,5,6,7,8,11,12,13]) (by kernel_rfl) ?_
 exact rD_2t h hI hl60 (hs.put (by decide) (by decide)) sz e8 ((eval_ne (by decide)).trans e47) (eval_same (by omega)) ((eval_ne (by decide)).trans e58) ((eval_ne (by decide)).trans e59) hl hW (hb.onE he hge)
theorem rD_1f (h:Rx B bp 30 nL ad l [] Lv Cv av lvs w3) (hI:HasI w3 av l) (hl60:l.length≤60) (hs:Same 46 62 a0 a) (sz:a0.tmps.size=134) (e8:a0.eval (.tmp 8) = .pointer (some ⟨bp,0,none⟩)) {ve:Value} (e47:a.eval (.tmp 47)=Lv) (e48:a.eval (.tmp 48)=ve) (e53:a.eval (.tmp 53)=av) (e58:a.eval (.tmp 58)=Cv) (hg:w3.grownBy w none) (he:Em B w3 w ve):wpU Tryz.prog .any opsB (QB_ a0 (Px B bp nL l Lv Cv lvs w3)) (Sx bp ad Lv Cv av) 16 9 (lsA [0,1,2,3,4,5,6,7,11,12]) a w:=by
 have hsz:a.tmps.size=134:=hs.1.trans sz
 refine wpU_all (rs:=[8,13]) (by kernel_rfl) (by simp) (fun i hi=>?_)
 have hi':i=8∨i=13:=by simpa using hi
 rcases hi' with rfl | rfl
 · refine op8 h hI hl60 e48 e53 hg he fun lv w' hl hW hg' hge=>⟨fun _=>h.s0 hg',?_⟩
   refine wpU_list (l':=lsA [0,1,2,3,4,5,6,7,8,11,12]) (by kernel_rfl) ?_
   exact rD_2f h hI hl60 (hs.put (by decide) (by decide)) sz e8 ((eval_ne (by decide)).trans e47) (eval_same (by omega)) ((eval_ne (by decide)).trans e58) hl hW
 · have g:=World.grownBy_alloc w (.cells #[.bool true] 4) none
   refine op13 hg.size fun v59 hb=>⟨fun _=>h.s0 (grown_trans hg g),?_⟩
   refine wpU_list (l':=lsA [0,1,2,3,4,5,6,7,11,12,13]) (by kernel_rfl) ?_
   exact rD_1t h hI hl60 (hs.put (by decide) (by decide)) sz e8 ((eval_ne (by decide)).trans e47) ((eval_ne (by decide)).trans e48) ((eval_ne (by decide)).trans e53) ((eval_ne (by decide)).trans e58) (eval_same (by omega)) (grown_trans hg g) (he.on g) hb
theorem rD_0t (h:Rx B bp 30 nL ad l [] Lv Cv av lvs w3) (hI:HasI w3 av l) (hl60:l.length≤60) (hs:Same 46 62 a0 a) (sz:a0.tmps.size=134) (e8:a0.eval (.tmp 8) = .pointer (some ⟨bp,0,none⟩)) (e47:a.eval (.tmp 47)=Lv) (e53:a.eval (.tmp 53)=av) (e58:a.eval (.tmp 58)=Cv) (e59:a.eval (.tmp 59)=v59) (hg:w3.grownBy w none) (hb:Bk w3 w v59 (.bool true) 4):wpU Tryz.prog .any opsB (QB_ a0 (Px B bp nL l Lv Cv lvs w3)) (Sx bp ad Lv Cv av) 16 9 (lsA [0,1,3,4,5,6,7,11,12,13]) a w:=by
 have hsz:a.tmps.size=134:=hs.1.trans sz
 refine wpU_all (rs:=[2]) (by kernel_rfl) (by simp) (fun i hi=>?_)
 obtain rfl:i=2:=by simpa using hi
 have g:=World.grownBy_alloc w (.cells #[] 3) none
 refine op2 h.sB hg.size fun ve he=>⟨fun _=>h.s0 (grown_trans hg g),?_⟩
 refine wpU_list (l':=lsA [0,1,2,3,4,5,6,7,11,12,13]) (by kernel_rfl) ?_
 exact rD_1t h hI hl60 (hs.put (by decide) (by decide)) sz e8 ((eval_ne (by decide)).trans e47) (eval_same (by omega)) ((eval_ne (by decide)).trans e53) ((eval_ne (by decide)).trans e58) ((eval_ne (by decide)).trans e59) (grown_trans hg g) he (hb.on g)
theorem rD_0f (h:Rx B bp 30 nL ad l [] Lv Cv av lvs w3) (hI:HasI w3 av l) (hl60:l.length≤60) (hs:Same 46 62 a0 a) (sz:a0.tmps.size=134) (e8:a0.eval (.tmp 8) = .pointer (some ⟨bp,0,none⟩)) (e47:a.eval (.tmp 47)=Lv) (e53:a.eval (.tmp 53)=av) (e58:a.eval (.tmp 58)=Cv) (hg:w3.grownBy w none):wpU Tryz.prog .any opsB (QB_ a0 (Px B bp nL l Lv Cv lvs w3)) (Sx bp ad Lv Cv av) 16 10 (lsA [0,1,3,4,5,6,7,11,12]) a w:=by
 have hsz:a.tmps.size=134:=hs.1.trans sz
 refine wpU_all (rs:=[2,13]) (by kernel_rfl) (by simp) (fun i hi=>?_)
 have hi':i=2∨i=13:=by simpa using hi
 rcases hi' with rfl | rfl
 · have g:=World.grownBy_alloc w (.cells #[] 3) none
   refine op2 h.sB hg.size fun ve he=>⟨fun _=>h.s0 (grown_trans hg g),?_⟩
   refine wpU_list (l':=lsA [0,1,2,3,4,5,6,7,11,12]) (by kernel_rfl) ?_
   exact rD_1f h hI hl60 (hs.put (by decide) (by decide)) sz e8 ((eval_ne (by decide)).trans e47) (eval_same (by omega)) ((eval_ne (by decide)).trans e53) ((eval_ne (by decide)).trans e58) (grown_trans hg g) he
 · have g:=World.grownBy_alloc w (.cells #[.bool true] 4) none
   refine op13 hg.size fun v59 hb=>⟨fun _=>h.s0 (grown_trans hg g),?_⟩
   refine wpU_list (l':=lsA [0,1,3,4,5,6,7,11,12,13]) (by kernel_rfl) ?_
   exact rD_0t h hI hl60 (hs.put (by decide) (by decide)) sz e8 ((eval_ne (by decide)).trans e47) ((eval_ne (by decide)).trans e53) ((eval_ne (by decide)).trans e58) (eval_same (by omega)) (grown_trans hg g) hb
theorem rD_c {ab ao n c k:Nat} (h:Rx B bp 30 nL ad l [] Lv Cv av lvs w3) (hI:HasI w3 av l) (hl60:l.length≤60) (sz:a0.tmps.size=134) (e8:a0.eval (.tmp 8) = .pointer (some ⟨bp,0,none⟩))
 (e1:a0.eval (.tmp 1) = .slice (some ⟨ab,ao,none⟩) n c) (e11:a0.eval (.tmp 11) = .int .i64 k) (hk:k < n) (had:ad=⟨ab,ao+k * 3+2,none⟩) :
 (Code.region 10 opsB true).wp Tryz.prog (QB_ a0 (Px B bp nL l Lv Cv lvs w3)) a0 w3:=by
 subst had
 have hg:w3.grownBy w3.drew none:=⟨rfl,rfl,rfl,Nat.le_refl _,fun _ _ _=>rfl⟩
 have hS:=h.s0 hg
 refine wp_region_u (S:=Sx bp ⟨ab,ao+k * 3+2,none⟩ Lv Cv av) (st:=16) (by kernel_rfl) ?_
 rw [show opsB.size=19 by kernel_rfl]
 show wpU Tryz.prog .any opsB _ _ 16 19 _ a0 w3.drew
 refine wpU_take (i:=0) atB_0 (by kernel_rfl) (by kernel_rfl) (by kernel_rfl) (fun _ _ _ h=>by cases h.1) (by decide) (bind_of (by kernel_rfl)) (by kernel_rfl) (yif_field (p:=.pointer (some ⟨bp,0,none⟩)) fB_0.2.2.1 fB_0.1 (by (try simp only [eval_ne,ne_eq,Nat.reduceEqDiff,not_false_eq_true]); first | with_reducible exact e8 | with_reducible exact e1 | with_reducible exact e11 | exact eval_same (by (try simp only [size_put]); omega)) (fld30_0 bp)) hS ?_
 rw [fB_0.2.1]
 refine wpU_take (i:=1) atB_1 (by kernel_rfl) (by kernel_rfl) (by kernel_rfl) (fun _ _ _ h=>by cases h.1) (by decide) (bind_of (by kernel_rfl)) (by kernel_rfl) (yif_load (p:=Lv) fB_1.2.2.1 fB_1.1 (by (try simp only [eval_ne,ne_eq,Nat.reduceEqDiff,not_false_eq_true]); first | with_reducible exact e8 | with_reducible exact e1 | with_reducible exact e11 | exact eval_same (by (try simp only [size_put]); omega)) (fun w hw=>ld27 _ _ w hw.2.1)) hS ?_
 rw [fB_1.2.1]
 refine wpU_take (i:=3) atB_3 (by kernel_rfl) (by kernel_rfl) (by kernel_rfl) (fun _ _ _ h=>by cases h.1) (by decide) (bind_of (by kernel_rfl)) (by kernel_rfl) (yif_move (v:=.slice (some ⟨ab,ao,none⟩) n c) fB_3.2.2.1 fB_3.1 (by (try simp only [eval_ne,ne_eq,Nat.reduceEqDiff,not_false_eq_true]); first | with_reducible exact e8 | with_reducible exact e1 | with_reducible exact e11 | exact eval_same (by (try simp only [size_put]); omega))) hS ?_
 rw [fB_3.2.1]
 refine wpU_take (i:=4) atB_4 (by kernel_rfl) (by kernel_rfl) (by kernel_rfl) (fun _ _ _ h=>by cases h.1) (by decide) (bind_of (by kernel_rfl)) (by kernel_rfl) (yif_move (v:=.int .i64 k) fB_4.2.2.1 fB_4.1 (by (try simp only [eval_ne,ne_eq,Nat.reduceEqDiff,not_false_eq_true]); first | with_reducible exact e8 | with_reducible exact e1 | with_reducible exact e11 | exact eval_same (by (try simp only [size_put]); omega))) hS ?_
 rw [fB_4.2.1]
 refine wpU_take (i:=5) atB_5 (by kernel_rfl) (by kernel_rfl) (by kernel_rfl) (fun _ _ _ h=>by cases h.1) (by decide) (bind_of (by kernel_rfl)) (by kernel_rfl) (yif_index (p:=.pointer (some ⟨ab,ao+k * 3,none⟩)) fB_5.2.2.1 fB_5.1 (by (try simp only [eval_ne,ne_eq,Nat.reduceEqDiff,not_false_eq_true]); first | with_reducible exact e8 | with_reducible exact e1 | with_reducible exact e11 | exact eval_same (by (try simp only [size_put]); omega)) (by (try simp only [eval_ne,ne_eq,Nat.reduceEqDiff,not_false_eq_true]); first | with_reducible exact e8 | with_reducible exact e1 | with_reducible exact e11 | exact eval_same (by (try simp only [size_put]); omega)) (fun w _=>ix22 ab ao n c k hk w)) hS ?_
 rw [fB_5.2.1]
 refine wpU_take (i:=6) atB_6 (by kernel_rfl) (by kernel_rfl) (by kernel_rfl) (fun _ _ _ h=>by cases h.1) (by decide) (bind_of (by kernel_rfl)) (by kernel_rfl) (yif_field (p:=.pointer (some ⟨ab,ao+k * 3+2,none⟩)) fB_6.2.2.1 fB_6.1 (by (try simp only [eval_ne,ne_eq,Nat.reduceEqDiff,not_false_eq_true]); first | with_reducible exact e8 | with_reducible exact e1 | with_reducible exact e11 | exact eval_same (by (try simp only [size_put]); omega)) (fld60_2o ab _)) hS ?_
 rw [fB_6.2.1]
 refine wpU_take (i:=7) atB_7 (by kernel_rfl) (by kernel_rfl) (by kernel_rfl) (fun _ _ _ h=>by cases h.1) (by decide) (bind_of (by kernel_rfl)) (by kernel_rfl) (yif_load (p:=av) fB_7.2.2.1 fB_7.1 (by (try simp only [eval_ne,ne_eq,Nat.reduceEqDiff,not_false_eq_true]); first | with_reducible exact e8 | with_reducible exact e1 | with_reducible exact e11 | exact eval_same (by (try simp only [size_put]); omega)) (fun w hw=>ld45 _ _ w hw.1)) hS ?_
 rw [fB_7.2.1]
 refine wpU_take (i:=11) atB_11 (by kernel_rfl) (by kernel_rfl) (by kernel_rfl) (fun _ _ _ h=>by cases h.1) (by decide) (bind_of (by kernel_rfl)) (by kernel_rfl) (yif_field (p:=.pointer (some ⟨bp,1,none⟩)) fB_11.2.2.1 fB_11.1 (by (try simp only [eval_ne,ne_eq,Nat.reduceEqDiff,not_false_eq_true]); first | with_reducible exact e8 | with_reducible exact e1 | with_reducible exact e11 | exact eval_same (by (try simp only [size_put]); omega)) (fld30_1 bp)) hS ?_
 rw [fB_11.2.1]
 refine wpU_take (i:=12) atB_12 (by kernel_rfl) (by kernel_rfl) (by kernel_rfl) (fun _ _ _ h=>by cases h.1) (by decide) (bind_of (by kernel_rfl)) (by kernel_rfl) (yif_load (p:=Cv) fB_12.2.2.1 fB_12.1 (by (try simp only [eval_ne,ne_eq,Nat.reduceEqDiff,not_false_eq_true]); first | with_reducible exact e8 | with_reducible exact e1 | with_reducible exact e11 | exact eval_same (by (try simp only [size_put]); omega)) (fun w hw=>ld28 _ _ w hw.2.2)) hS ?_
 rw [fB_12.2.1]
 refine wpU_list (l':=lsA [0,1,3,4,5,6,7,11,12]) (by kernel_rfl) ?_
 have s0:=Same.refl 46 62 a0
 refine rD_0f h hI hl60 (((((((((s0.put ?_ ?_).put ?_ ?_).put ?_ ?_).put ?_ ?_).put ?_ ?_).put ?_ ?_).put ?_ ?_).put ?_ ?_).put ?_ ?_) sz e8 ?_ ?_ ?_ hg
 all_goals first | decide | skip
 · simp only [eval_ne,ne_eq,Nat.reduceEqDiff,not_false_eq_true]
   exact eval_same (by (try simp only [size_put]); omega)
 · simp only [eval_ne,ne_eq,Nat.reduceEqDiff,not_false_eq_true]
   exact eval_same (by simp only [size_put]; omega)
 · exact eval_same (by simp only [size_put]; omega)
end
end Lb
end Go.Proofs
namespace Go.Proofs
open Go.RowKit
namespace Lb
noncomputable def opsD:Array Oper:=regIn 22 Tryz.f11
noncomputable def opD (i:Nat):Oper:=opsD.getD i default
theorem atD_0:opsD[0]? = some (opD 0):=by kernel_rfl
theorem fD_0:(opD 0).op = .move (.tmp 7)∧(opD 0).dst=some 114∧(opD 0).guard=none∧(opD 0).type=9:=by refine ⟨?_,?_,?_,?_⟩ <;> kernel_rfl
theorem atD_1:opsD[1]? = some (opD 1):=by kernel_rfl
theorem fD_1:(opD 1).op = .binOp .add 9 (.tmp 114) (.const (.string { data:=#[100,101,102,32,109,97,105,110,40] })) 9∧(opD 1).dst=some 115∧(opD 1).guard=none∧(opD 1).type=9:=by refine ⟨?_,?_,?_,?_⟩ <;> kernel_rfl
theorem atD_2:opsD[2]? = some (opD 2):=by kernel_rfl
theorem fD_2:(opD 2).op = .move (.tmp 9)∧(opD 2).dst=some 116∧(opD 2).guard=none∧(opD 2).type=36:=by refine ⟨?_,?_,?_,?_⟩ <;> kernel_rfl
theorem atD_3:opsD[3]? = some (opD 3):=by kernel_rfl
theorem fD_3:(opD 3).op = .call { callee:=.value (.func 29),args:=#[.tmp 116,.const (.string { data:=#[44,32] })],argTypes:=#[36,9] }∧(opD 3).dst=some 117∧(opD 3).guard=none∧(opD 3).type=9:=by refine ⟨?_,?_,?_,?_⟩ <;> kernel_rfl
theorem atD_4:opsD[4]? = some (opD 4):=by kernel_rfl
theorem fD_4:(opD 4).op = .binOp .add 9 (.tmp 115) (.tmp 117) 9∧(opD 4).dst=some 118∧(opD 4).guard=none∧(opD 4).type=9:=by refine ⟨?_,?_,?_,?_⟩ <;> kernel_rfl
theorem atD_5:opsD[5]? = some (opD 5):=by kernel_rfl
theorem fD_5:(opD 5).op = .binOp .add 9 (.tmp 118) (.const (.string { data:=#[41,32,45,62,32] })) 9∧(opD 5).dst=some 119∧(opD 5).guard=none∧(opD 5).type=9:=by refine ⟨?_,?_,?_,?_⟩ <;> kernel_rfl
theorem atD_6:opsD[6]? = some (opD 6):=by kernel_rfl
theorem fD_6:(opD 6).op = .fieldAddr 38 (.tmp 2) 3∧(opD 6).dst=some 120∧(opD 6).guard=none∧(opD 6).type=0:=by refine ⟨?_,?_,?_,?_⟩ <;> kernel_rfl
theorem atD_7:opsD[7]? = some (opD 7):=by kernel_rfl
theorem fD_7:(opD 7).op = .load 36 (.tmp 120)∧(opD 7).dst=some 121∧(opD 7).guard=none∧(opD 7).type=36:=by refine ⟨?_,?_,?_,?_⟩ <;> kernel_rfl
theorem atD_8:opsD[8]? = some (opD 8):=by kernel_rfl
theorem fD_8:(opD 8).op = .call { callee:=.value (.func 29),args:=#[.tmp 121,.const (.string { data:=#[44,32] })],argTypes:=#[36,9] }∧(opD 8).dst=some 122∧(opD 8).guard=none∧(opD 8).type=9:=by refine ⟨?_,?_,?_,?_⟩ <;> kernel_rfl
theorem atD_9:opsD[9]? = some (opD 9):=by kernel_rfl
theorem fD_9:(opD 9).op = .binOp .add 9 (.tmp 119) (.tmp 122) 9∧(opD 9).dst=some 123∧(opD 9).guard=none∧(opD 9).type=9:=by refine ⟨?_,?_,?_,?_⟩ <;> kernel_rfl
theorem atD_10:opsD[10]? = some (opD 10):=by kernel_rfl
theorem fD_10:(opD 10).op = .binOp .add 9 (.tmp 123) (.const (.string { data:=#[32,123,32,103,105,118,101,32] })) 9∧(opD 10).dst=some 124∧(opD 10).guard=none∧(opD 10).type=9:=by refine ⟨?_,?_,?_,?_⟩ <;> kernel_rfl
theorem atD_11:opsD[11]? = some (opD 11):=by kernel_rfl
theorem fD_11:(opD 11).op = .fieldAddr 38 (.tmp 2) 0∧(opD 11).dst=some 125∧(opD 11).guard=none∧(opD 11).type=0:=by refine ⟨?_,?_,?_,?_⟩ <;> kernel_rfl
theorem atD_12:opsD[12]? = some (opD 12):=by kernel_rfl
theorem fD_12:(opD 12).op = .load 9 (.tmp 125)∧(opD 12).dst=some 126∧(opD 12).guard=none∧(opD 12).type=9:=by refine ⟨?_,?_,?_,?_⟩ <;> kernel_rfl
theorem atD_13:opsD[13]? = some (opD 13):=by kernel_rfl
theorem fD_13:(opD 13).op = .binOp .add 9 (.tmp 124) (.tmp 126) 9∧(opD 13).dst=some 127∧(opD 13).guard=none∧(opD 13).type=9:=by refine ⟨?_,?_,?_,?_⟩ <;> kernel_rfl
theorem atD_14:opsD[14]? = some (opD 14):=by kernel_rfl
theorem fD_14:(opD 14).op = .binOp .add 9 (.tmp 127) (.const (.string { data:=#[40] })) 9∧(opD 14).dst=some 128∧(opD 14).guard=none∧(opD 14).type=9:=by refine ⟨?_,?_,?_,?_⟩ <;> kernel_rfl
theorem atD_15:opsD[15]? = some (opD 15):=by kernel_rfl
theorem fD_15:(opD 15).op = .move (.tmp 10)∧(opD 15).dst=some 129∧(opD 15).guard=none∧(opD 15).type=36:=by refine ⟨?_,?_,?_,?_⟩ <;> kernel_rfl
theorem atD_16:opsD[16]? = some (opD 16):=by kernel_rfl
theorem fD_16:(opD 16).op = .call { callee:=.value (.func 29),args:=#[.tmp 129,.const (.string { data:=#[44,32] })],argTypes:=#[36,9] }∧(opD 16).dst=some 130∧(opD 16).guard=none∧(opD 16).type=9:=by refine ⟨?_,?_,?_,?_⟩ <;> kernel_rfl
theorem atD_17:opsD[17]? = some (opD 17):=by kernel_rfl
theorem fD_17:(opD 17).op = .binOp .add 9 (.tmp 128) (.tmp 130) 9∧(opD 17).dst=some 131∧(opD 17).guard=none∧(opD 17).type=9:=by refine ⟨?_,?_,?_,?_⟩ <;> kernel_rfl
theorem atD_18:opsD[18]? = some (opD 18):=by kernel_rfl
theorem fD_18:(opD 18).op = .binOp .add 9 (.tmp 131) (.const (.string { data:=#[41,32,125,10] })) 9∧(opD 18).dst=some 132∧(opD 18).guard=none∧(opD 18).type=9:=by refine ⟨?_,?_,?_,?_⟩ <;> kernel_rfl
theorem atD_19:opsD[19]? = some (opD 19):=by kernel_rfl
theorem fD_19:(opD 19).op = .load 30 (.tmp 8)∧(opD 19).dst=some 133∧(opD 19).guard=none∧(opD 19).type=30:=by refine ⟨?_,?_,?_,?_⟩ <;> kernel_rfl
theorem atD_20:opsD[20]? = some (opD 20):=by kernel_rfl
theorem fD_20:(opD 20).op = .assign (.tmp 132)∧(opD 20).dst=some 4∧(opD 20).guard=none∧(opD 20).type=9:=by refine ⟨?_,?_,?_,?_⟩ <;> kernel_rfl
theorem atD_21:opsD[21]? = some (opD 21):=by kernel_rfl
theorem fD_21:(opD 21).op = .store 30 (.tmp 5) (.tmp 133)∧(opD 21).dst=none∧(opD 21).guard=none∧(opD 21).type=0:=by refine ⟨?_,?_,?_,?_⟩ <;> kernel_rfl
theorem put_none (a:Act) (v:Value):a.put none v=a:=rfl
theorem yif_assign {P:Program} {ops:Array Oper} {S:World→Prop} {o:Oper} {a:Act} {x:Operand} {v:Value} (hg:o.guard=none) (ho:o.op = .assign x) (hx:a.eval x=v):YieldsIf P ops S o v a :=
 .inl ⟨wanted_at hg _,fun w _=>by unfold execOp; simp only [ho,hx]; rfl⟩
theorem fld38_3 (b:Nat) (w:World):(Instr.fieldAt 38 (.pointer (some ⟨b,0,none⟩)) 3).run Tryz.prog w = .ok (.pointer (some ⟨b,3,none⟩)) w:=by simp [go_sem]
theorem fld38_0 (b:Nat) (w:World):(Instr.fieldAt 38 (.pointer (some ⟨b,0,none⟩)) 0).run Tryz.prog w = .ok (.pointer (some ⟨b,0,none⟩)) w:=by simp [go_sem]
theorem info30:(Tryz.prog.info? 30).map (·.size)=some 2:=by kernel_rfl
theorem ld30 (b:Nat) (u v:Value) (w:World) (h:w.heap[b]? = some (.cells #[u,v] 30 (0,0))):(Instr.loadAt 30 (.pointer (some ⟨b,0,none⟩))).run Tryz.prog w = .ok (.agg #[u,v]) w:=by
 have:=run_loadVar_row (P:=Tryz.prog) w b 30 30 #[u,v] (0,0) _ h Tryz.underlying30 rfl info30
 simp only [Instr.loadAt,Instr.sureAddr,Sem.run_bind,Sem.run_pure,Result.andThen_ok,this]
def Sd (bd bp:Nat) (rv Lv Cv:Value) (nm:ByteArray) (w:World):Prop:=(w.cell? ⟨bd,3,none⟩=some rv∧w.cell? ⟨bd,0,none⟩=some (.string nm))∧w.heap[bp]? = some (.cells #[Lv,Cv] 30 (0,0))
theorem Sd.on {bd bp:Nat} {rv Lv Cv:Value} {nm:ByteArray} {w w':World} (h:Sd bd bp rv Lv Cv nm w) (g:w.grownBy w' none):Sd bd bp rv Lv Cv nm w':=⟨⟨g.cell h.1.1 (by simp),g.cell h.1.2 (by simp)⟩,row_keep h.2 g (by simp)⟩
set_option maxHeartbeats 2000000 in
set_option maxRecDepth 100000 in
theorem rE_c {a0:Act} {w3:World} {pa gi rv Lv Cv u1 u2:Value} {bd bp br:Nat} {T j1 j2 j3 nm:ByteArray} (sz:a0.tmps.size=134) (e7:a0.eval (.tmp 7) = .string T) (e9:a0.eval (.tmp 9)=pa) (e10:a0.eval (.tmp 10)=gi) (e2:a0.eval (.tmp 2) = .pointer (some ⟨bd,0,none⟩)) (e8:a0.eval (.tmp 8) = .pointer (some ⟨bp,0,none⟩)) (e5:a0.eval (.tmp 5) = .pointer (some ⟨br,0,none⟩))
 (hS:Sd bd bp rv Lv Cv nm w3) (hbr:w3.heap[br]? = some (.cells #[u1,u2] 30 (0,0))) (n1:bd≠br) (n2:bp≠br) (o1:Lv.oneCell'=true) (o2:Cv.oneCell'=true)
 (hj1:∀ w2,w3.grownBy w2 none→Calls Tryz.prog 29 #[pa,.string sepB] w2 fun e w'=>e = .returned (.string j1)∧w2.grownBy w' none) (hj2:∀ w2,w3.grownBy w2 none→Calls Tryz.prog 29 #[rv,.string sepB] w2 fun e w'=>e = .returned (.string j2)∧w2.grownBy w' none)
 (hj3:∀ w2,w3.grownBy w2 none→Calls Tryz.prog 29 #[gi,.string sepB] w2 fun e w'=>e = .returned (.string j3)∧w2.grownBy w' none)
 (l0:T.size≤1000000000) (l1:j1.size≤1000000) (l2:j2.size≤1000000) (l3:j3.size≤1000000) (ln:nm.size≤1000000) :
 (Code.region 22 opsD true).wp Tryz.prog (fun e a' w'=>e = .normal∧(∃ aM,Same 114 133 a0 aM∧a'=aM.put (some 4) (.string (T++mA++j1++mB++j2++mC++nm++mD++j3++mE)))∧∃ w2,w3.grownBy w2 none∧w'=w2.setRow br #[Lv,Cv]) a0 w3:=by
 refine wp_region_held (S:=Sd bd bp rv Lv Cv nm) (by kernel_rfl) ?_
 rw [show opsD.size=22 by kernel_rfl]
 show wpAnyH Tryz.prog .any opsD _ _ 22 _ a0 w3.drew
 have hg0:w3.grownBy w3.drew none:=⟨rfl,rfl,rfl,Nat.le_refl _,fun _ _ _=>rfl⟩
 have hS:Sd bd bp rv Lv Cv nm w3.drew:=hS
 refine wpAnyH_take (i:=0) atD_0 (by kernel_rfl) (by kernel_rfl) (by kernel_rfl) (fun _ _ _ h=>by cases h.1) (yif_move (v:=.string T) fD_0.2.2.1 fD_0.1 (by (try simp only [eval_ne,ne_eq,Nat.reduceEqDiff,not_false_eq_true]); first | with_reducible exact e7 | with_reducible exact e9 | with_reducible exact e10 | with_reducible exact e2 | with_reducible exact e8 | with_reducible exact e5 | exact eval_same (by (try simp only [size_put]); omega))) hS ?_
 rw [fD_0.2.1]
 refine wpAnyH_take (i:=2) atD_2 (by kernel_rfl) (by kernel_rfl) (by kernel_rfl) (fun _ _ _ h=>by cases h.1) (yif_move (v:=pa) fD_2.2.2.1 fD_2.1 (by (try simp only [eval_ne,ne_eq,Nat.reduceEqDiff,not_false_eq_true]); first | with_reducible exact e7 | with_reducible exact e9 | with_reducible exact e10 | with_reducible exact e2 | with_reducible exact e8 | with_reducible exact e5 | exact eval_same (by (try simp only [size_put]); omega))) hS ?_
 rw [fD_2.2.1]
 refine wpAnyH_take (i:=6) atD_6 (by kernel_rfl) (by kernel_rfl) (by kernel_rfl) (fun _ _ _ h=>by cases h.1) (yif_field (p:=.pointer (some ⟨bd,3,none⟩)) fD_6.2.2.1 fD_6.1 (by (try simp only [eval_ne,ne_eq,Nat.reduceEqDiff,not_false_eq_true]); first | with_reducible exact e7 | with_reducible exact e9 | with_reducible exact e10 | with_reducible exact e2 | with_reducible exact e8 | with_reducible exact e5 | exact eval_same (by (try simp only [size_put]); omega)) (fld38_3 bd)) hS ?_
 rw [fD_6.2.1]
 refine wpAnyH_take (i:=7) atD_7 (by kernel_rfl) (by kernel_rfl) (by kernel_rfl) (fun _ _ _ h=>by cases h.1) (yif_load (p:=rv) fD_7.2.2.1 fD_7.1 (by (try simp only [eval_ne,ne_eq,Nat.reduceEqDiff,not_false_eq_true]); first | with_reducible exact e7 | with_reducible exact e9 | with_reducible exact e10 | with_reducible exact e2 | with_reducible exact e8 | with_reducible exact e5 | exact eval_same (by (try simp only [size_put]); omega)) (fun w hw=>ld36 _ _ w hw.1.1)) hS ?_
 rw [fD_7.2.1]
 refine wpAnyH_take (i:=11) atD_11 (by kernel_rfl) (by kernel_rfl) (by kernel_rfl) (fun _ _ _ h=>by cases h.1) (yif_field (p:=.pointer (some ⟨bd,0,none⟩)) fD_11.2.2.1 fD_11.1 (by (try simp only [eval_ne,ne_eq,Nat.reduceEqDiff,not_false_eq_true]); first | with_reducible exact e7 | with_reducible exact e9 | with_reducible exact e10 | with_reducible exact e2 | with_reducible exact e8 | with_reducible exact e5 | exact eval_same (by (try simp only [size_put]); omega)) (fld38_0 bd)) hS ?_
 rw [fD_11.2.1]
 refine wpAnyH_take (i:=12) atD_12 (by kernel_rfl) (by kernel_rfl) (by kernel_rfl) (fun _ _ _ h=>by cases h.1) (yif_load (p:=.string nm) fD_12.2.2.1 fD_12.1 (by (try simp only [eval_ne,ne_eq,Nat.reduceEqDiff,not_false_eq_true]); first | with_reducible exact e7 | with_reducible exact e9 | with_reducible exact e10 | with_reducible exact e2 | with_reducible exact e8 | with_reducible exact e5 | exact eval_same (by (try simp only [size_put]); omega)) (fun w hw=>ld9 _ _ w hw.1.2)) hS ?_
 rw [fD_12.2.1]
 refine wpAnyH_take (i:=15) atD_15 (by kernel_rfl) (by kernel_rfl) (by kernel_rfl) (fun _ _ _ h=>by cases h.1) (yif_move (v:=gi) fD_15.2.2.1 fD_15.1 (by (try simp only [eval_ne,ne_eq,Nat.reduceEqDiff,not_false_eq_true]); first | with_reducible exact e7 | with_reducible exact e9 | with_reducible exact e10 | with_reducible exact e2 | with_reducible exact e8 | with_reducible exact e5 | exact eval_same (by (try simp only [size_put]); omega))) hS ?_
 rw [fD_15.2.1]
 refine wpAnyH_take (i:=19) atD_19 (by kernel_rfl) (by kernel_rfl) (by kernel_rfl) (fun _ _ _ h=>by cases h.1) (yif_load (p:=.agg #[Lv,Cv]) fD_19.2.2.1 fD_19.1 (by (try simp only [eval_ne,ne_eq,Nat.reduceEqDiff,not_false_eq_true]); first | with_reducible exact e7 | with_reducible exact e9 | with_reducible exact e10 | with_reducible exact e2 | with_reducible exact e8 | with_reducible exact e5 | exact eval_same (by (try simp only [size_put]); omega)) (fun w hw=>ld30 _ _ _ w hw.2)) hS ?_
 rw [fD_19.2.1]
 refine wpAnyH_take (i:=1) atD_1 (by kernel_rfl) (by kernel_rfl) (by kernel_rfl) (fun _ _ _ h=>by cases h.1) (yif_add (s:=T) (t:=mA) fD_1.2.2.1 fD_1.1 (by (try simp only [eval_ne,ne_eq,Nat.reduceEqDiff,not_false_eq_true]); first | with_reducible exact e7 | with_reducible exact e9 | with_reducible exact e10 | with_reducible exact e2 | with_reducible exact e8 | with_reducible exact e5 | exact eval_same (by (try simp only [size_put]); omega)) eval_const (by simp only [mA_size]; omega)) hS ?_
 rw [fD_1.2.1]
 refine wpAnyH_all (rs:=[3]) (by kernel_rfl) (by simp) (fun i hi=>?_)
 obtain rfl:i=3:=by simpa using hi
 refine wpOp_at atD_3 fD_3.2.2.1 ?_
 have h1:=fD_3.1
 have h2:=fD_3.2.1
 generalize opD 3=o at *
 refine wp_call2_at (by kernel_rfl) h1 (by (try simp only [eval_ne,ne_eq,Nat.reduceEqDiff,not_false_eq_true]); first | with_reducible exact e7 | with_reducible exact e9 | with_reducible exact e10 | with_reducible exact e2 | with_reducible exact e8 | with_reducible exact e5 | exact eval_same (by (try simp only [size_put]); omega)) eval_const ((hj1 _ hg0).mono ?_)
 clear h1
 rintro e w1 ⟨rfl,hg⟩
 rw [h2]
 clear h2
 have hS:=hS.on hg
 have hg1:=grown_trans hg0 hg
 refine ⟨hS,?_⟩
 refine wpAnyH_take (i:=4) atD_4 (by kernel_rfl) (by kernel_rfl) (by kernel_rfl) (fun _ _ _ h=>by cases h.1) (yif_add (s:=T++mA) (t:=j1) fD_4.2.2.1 fD_4.1 (by (try simp only [eval_ne,ne_eq,Nat.reduceEqDiff,not_false_eq_true]); first | with_reducible exact e7 | with_reducible exact e9 | with_reducible exact e10 | with_reducible exact e2 | with_reducible exact e8 | with_reducible exact e5 | exact eval_same (by (try simp only [size_put]); omega)) (by (try simp only [eval_ne,ne_eq,Nat.reduceEqDiff,not_false_eq_true]); first | with_reducible exact e7 | with_reducible exact e9 | with_reducible exact e10 | with_reducible exact e2 | with_reducible exact e8 | with_reducible exact e5 | exact eval_same (by (try simp only [size_put]); omega)) (by simp only [size_append,mA_size]; omega)) hS ?_
 rw [fD_4.2.1]
 refine wpAnyH_take (i:=5) atD_5 (by kernel_rfl) (by kernel_rfl) (by kernel_rfl) (fun _ _ _ h=>by cases h.1) (yif_add (s:=T++mA++j1) (t:=mB) fD_5.2.2.1 fD_5.1 (by (try simp only [eval_ne,ne_eq,Nat.reduceEqDiff,not_false_eq_true]); first | with_reducible exact e7 | with_reducible exact e9 | with_reducible exact e10 | with_reducible exact e2 | with_reducible exact e8 | with_reducible exact e5 | exact eval_same (by (try simp only [size_put]); omega)) eval_const (by simp only [size_append,mA_size,mB_size]; omega)) hS ?_
 rw [fD_5.2.1]
 refine wpAnyH_all (rs:=[8]) (by kernel_rfl) (by simp) (fun i hi=>?_)
 obtain rfl:i=8:=by simpa using hi
 refine wpOp_at atD_8 fD_8.2.2.1 ?_
 have h1:=fD_8.1
 have h2:=fD_8.2.1
 generalize opD 8=o at *
 refine wp_call2_at (by kernel_rfl) h1 (by (try simp only [eval_ne,ne_eq,Nat.reduceEqDiff,not_false_eq_true]); first | with_reducible exact e7 | with_reducible exact e9 | with_reducible exact e10 | with_reducible exact e2 | with_reducible exact e8 | with_reducible exact e5 | exact eval_same (by (try simp only [size_put]); omega)) eval_const ((hj2 _ hg1).mono ?_)
 clear h1
 rintro e w2 ⟨rfl,hg⟩
 rw [h2]
 clear h2
 have hS:=hS.on hg
 have hg2:=grown_trans hg1 hg
 refine ⟨hS,?_⟩
 refine wpAnyH_take (i:=9) atD_9 (by kernel_rfl) (by kernel_rfl) (by kernel_rfl) (fun _ _ _ h=>by cases h.1) (yif_add (s:=T++mA++j1++mB) (t:=j2) fD_9.2.2.1 fD_9.1 (by (try simp only [eval_ne,ne_eq,Nat.reduceEqDiff,not_false_eq_true]); first | with_reducible exact e7 | with_reducible exact e9 | with_reducible exact e10 | with_reducible exact e2 | with_reducible exact e8 | with_reducible exact e5 | exact eval_same (by (try simp only [size_put]); omega)) (by (try simp only [eval_ne,ne_eq,Nat.reduceEqDiff,not_false_eq_true]); first | with_reducible exact e7 | with_reducible exact e9 | with_reducible exact e10 | with_reducible exact e2 | with_reducible exact e8 | with_reducible exact e5 | exact eval_same (by (try simp only [size_put]); omega)) (by simp only [size_append,mA_size,mB_size]; omega)) hS ?_
 rw [fD_9.2.1]
 refine wpAnyH_take (i:=10) atD_10 (by kernel_rfl) (by kernel_rfl) (by kernel_rfl) (fun _ _ _ h=>by cases h.1) (yif_add (s:=T++mA++j1++mB++j2) (t:=mC) fD_10.2.2.1 fD_10.1 (by (try simp only [eval_ne,ne_eq,Nat.reduceEqDiff,not_false_eq_true]); first | with_reducible exact e7 | with_reducible exact e9 | with_reducible exact e10 | with_reducible exact e2 | with_reducible exact e8 | with_reducible exact e5 | exact eval_same (by (try simp only [size_put]); omega)) eval_const (by simp only [size_append,mA_size,mB_size,mC_size]; omega)) hS ?_
 rw [fD_10.2.1]
 refine wpAnyH_take (i:=13) atD_13 (by kernel_rfl) (by kernel_rfl) (by kernel_rfl) (fun _ _ _ h=>by cases h.1) (yif_add (s:=T++mA++j1++mB++j2++mC) (t:=nm) fD_13.2.2.1 fD_13.1 (by (try simp only [eval_ne,ne_eq,Nat.reduceEqDiff,not_false_eq_true]); first | with_reducible exact e7 | with_reducible exact e9 | with_reducible exact e10 | with_reducible exact e2 | with_reducible exact e8 | with_reducible exact e5 | exact eval_same (by (try simp only [size_put]); omega)) (by (try simp only [eval_ne,ne_eq,Nat.reduceEqDiff,not_false_eq_true]); first | with_reducible exact e7 | with_reducible exact e9 | with_reducible exact e10 | with_reducible exact e2 | with_reducible exact e8 | with_reducible exact e5 | exact eval_same (by (try simp only [size_put]); omega)) (by simp only [size_append,mA_size,mB_size,mC_size]; omega)) hS ?_
 rw [fD_13.2.1]
 refine wpAnyH_take (i:=14) atD_14 (by kernel_rfl) (by kernel_rfl) (by kernel_rfl) (fun _ _ _ h=>by cases h.1) (yif_add (s:=T++mA++j1++mB++j2++mC++nm) (t:=mD) fD_14.2.2.1 fD_14.1 (by (try simp only [eval_ne,ne_eq,Nat.reduceEqDiff,not_false_eq_true]); first | with_reducible exact e7 | with_reducible exact e9 | with_reducible exact e10 | with_reducible exact e2 | with_reducible exact e8 | with_reducible exact e5 | exact eval_same (by (try simp only [size_put]); omega)) eval_const (by simp only [size_append,mA_size,mB_size,mC_size,mD_size]; omega)) hS ?_
 rw [fD_14.2.1]
 refine wpAnyH_all (rs:=[16]) (by kernel_rfl) (by simp) (fun i hi=>?_)
 obtain rfl:i=16:=by simpa using hi
 refine wpOp_at atD_16 fD_16.2.2.1 ?_
 have h1:=fD_16.1
 have h2:=fD_16.2.1
 generalize opD 16=o at *
 refine wp_call2_at (by kernel_rfl) h1 (by (try simp only [eval_ne,ne_eq,Nat.reduceEqDiff,not_false_eq_true]); first | with_reducible exact e7 | with_reducible exact e9 | with_reducible exact e10 | with_reducible exact e2 | with_reducible exact e8 | with_reducible exact e5 | exact eval_same (by (try simp only [size_put]); omega)) eval_const ((hj3 _ hg2).mono ?_)
 clear h1
 rintro e w4 ⟨rfl,hg⟩
 rw [h2]
 clear h2
 have hS:=hS.on hg
 have hg3:=grown_trans hg2 hg
 refine ⟨hS,?_⟩
 refine wpAnyH_take (i:=17) atD_17 (by kernel_rfl) (by kernel_rfl) (by kernel_rfl) (fun _ _ _ h=>by cases h.1) (yif_add (s:=T++mA++j1++mB++j2++mC++nm++mD) (t:=j3) fD_17.2.2.1 fD_17.1 (by (try simp only [eval_ne,ne_eq,Nat.reduceEqDiff,not_false_eq_true]); first | with_reducible exact e7 | with_reducible exact e9 | with_reducible exact e10 | with_reducible exact e2 | with_reducible exact e8 | with_reducible exact e5 | exact eval_same (by (try simp only [size_put]); omega)) (by (try simp only [eval_ne,ne_eq,Nat.reduceEqDiff,not_false_eq_true]); first | with_reducible exact e7 | with_reducible exact e9 | with_reducible exact e10 | with_reducible exact e2 | with_reducible exact e8 | with_reducible exact e5 | exact eval_same (by (try simp only [size_put]); omega)) (by simp only [size_append,mA_size,mB_size,mC_size,mD_size]; omega)) hS ?_
 rw [fD_17.2.1]
 refine wpAnyH_take (i:=18) atD_18 (by kernel_rfl) (by kernel_rfl) (by kernel_rfl) (fun _ _ _ h=>by cases h.1) (yif_add (s:=T++mA++j1++mB++j2++mC++nm++mD++j3) (t:=mE) fD_18.2.2.1 fD_18.1 (by (try simp only [eval_ne,ne_eq,Nat.reduceEqDiff,not_false_eq_true]); first | with_reducible exact e7 | with_reducible exact e9 | with_reducible exact e10 | with_reducible exact e2 | with_reducible exact e8 | with_reducible exact e5 | exact eval_same (by (try simp only [size_put]); omega)) eval_const (by simp only [size_append,mA_size,mB_size,mC_size,mD_size,mE_size]; omega)) hS ?_
 rw [fD_18.2.1]
 refine wpAnyH_take (i:=20) atD_20 (by kernel_rfl) (by kernel_rfl) (by kernel_rfl) (fun _ _ _ h=>by cases h.1) (yif_assign (v:=.string (T++mA++j1++mB++j2++mC++nm++mD++j3++mE)) fD_20.2.2.1 fD_20.1 (by (try simp only [eval_ne,ne_eq,Nat.reduceEqDiff,not_false_eq_true]); exact eval_same (by (try simp only [size_put]); omega))) hS ?_
 rw [fD_20.2.1]
 have hbr4:=row_keep hbr hg3 (by simp)
 refine wpAnyH_all (rs:=[21]) (by kernel_rfl) (by simp) (fun i hi=>?_)
 obtain rfl:i=21:=by simpa using hi
 refine wpOp_at atD_21 fD_21.2.2.1 ?_
 have h1:=fD_21.1
 have h2:=fD_21.2.1
 generalize opD 21=o at *
 have hi2:(Tryz.prog.info? 30).map (·.size)=some (#[Lv,Cv]:Array Value).size:=info30
 refine wp_store_row 30 (.tmp 5) (.tmp 133) h1 br #[Lv,Cv] (by (try simp only [eval_ne,ne_eq,Nat.reduceEqDiff,not_false_eq_true]); exact e5) (by (try simp only [eval_ne,ne_eq,Nat.reduceEqDiff,not_false_eq_true]); exact eval_same (by (try simp only [size_put]); omega)) 30 #[u1,u2] hbr4 hi2 rfl (by simp [o1,o2]) ?_
 rw [h2,put_none]
 refine ⟨⟨⟨?_,?_⟩,?_⟩,?_⟩
 · unfold World.cell?
   rw [show (w4.setRow br #[Lv,Cv]).heap[(⟨bd,3,none⟩:Addr).block]? = w4.heap[bd]? from setRow_other _ _ _ _ n1]
   exact hS.1.1
 · unfold World.cell?
   rw [show (w4.setRow br #[Lv,Cv]).heap[(⟨bd,0,none⟩:Addr).block]? = w4.heap[bd]? from setRow_other _ _ _ _ n1]
   exact hS.1.2
 · rw [setRow_other _ _ _ _ n2]; exact hS.2
 refine ⟨by kernel_rfl,rfl,⟨_,?_,rfl⟩,w4,hg3,rfl⟩
 exact ((((((((((((((((((((Same.refl 114 133 a0).put (by decide) (by decide)).put (by decide) (by decide)).put (by decide) (by decide)).put (by decide) (by decide)).put (by decide) (by decide)).put (by decide) (by decide)).put (by decide) (by decide)).put (by decide) (by decide)).put (by decide) (by decide)).put (by decide) (by decide)).put (by decide) (by decide)).put (by decide) (by decide)).put (by decide) (by decide)).put (by decide) (by decide)).put (by decide) (by decide)).put (by decide) (by decide)).put (by decide) (by decide)).put (by decide) (by decide)).put (by decide) (by decide)).put (by decide) (by decide)
end Lb
end Go.Proofs
