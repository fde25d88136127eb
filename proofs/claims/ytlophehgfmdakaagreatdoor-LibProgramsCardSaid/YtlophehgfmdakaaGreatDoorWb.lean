/- PROVED HERE: a part (Wb) of the tied card of LibPrograms (floodgatelaw25): the call returns true and its argument reads as before. CONDITIONS: those of the given row and card alone. -/
import Derived.Test.YtlophehgfmdakaaGreatDoorWa
import Derived.Deep.RegionHeld3
import Derived.Deep.AppendLies
import Derived.OwnWalk
namespace Go.Proofs
open Go.RowKit
namespace Lb
theorem own_ne {w:World} {b1 b2 s1 s2 n1 n2:Nat} {e1 e2:TypeId} {v1 v2:Value} {x1 x2:List Value} (h1:w.ownsRow b1 e1 s1 v1 n1 x1) (h2:w.ownsRow b2 e2 s2 v2 n2 x2) (he:e1≠e2) :
 v1.ownBlock=none∨v1.ownBlock≠v2.ownBlock:=by
 rcases h1.2 with ⟨rfl,_⟩ | ⟨g1,c1,cur1,rfl,_,hg1,_⟩
 · exact .inl rfl
 · right
   rcases h2.2 with ⟨rfl,_⟩ | ⟨g2,c2,cur2,rfl,_,hg2,_⟩
   · intro h; cases h
   · intro h
     have h:g1=g2:=by simpa [Value.ownBlock] using h
     subst h
     rw [hg1] at hg2
     cases hg2
     exact he rfl
theorem own_none {w w':World} {b s n:Nat} {e:TypeId} {v:Value} {x:List Value} (h:w.ownsRow b e s v n x) (hg:w.grownBy w' none):w'.ownsRow b e s v n x :=
 h.kept hg (by cases v.ownBlock <;> simp)
def Cp (B:Nat) (w:World) (v:Value) (k:Nat) (xs:List AArg):Prop :=
 ∃ cs:List Value,w.ownsRow B 60 3 v k cs∧∀ j,j < k→∃ lv,cs[j * 3]? = some (.bool (xs.getD j default).il)∧cs[j * 3+1]? = some (.int .i64 (xs.getD j default).n)∧cs[j * 3+2]? = some lv ∧
  w.ownsRow B 3 1 lv (xs.getD j default).l.length ((xs.getD j default).l.map (Value.int .i64))
theorem Cp.zero (B:Nat) (w:World) (xs:List AArg):Cp B w (.slice none 0 0) 0 xs:=⟨[],World.ownsRow_nil _ _ _ _,fun _ h=>absurd h (Nat.not_lt_zero _)⟩
theorem Cp.next {B:Nat} {w w1 w2 w3:World} {v v' lv:Value} {k:Nat} {xs:List AArg} {cs:List Value} (h:w.ownsRow B 60 3 v k cs)
 (hj:∀ j,j < k→∃ lv,cs[j * 3]? = some (.bool (xs.getD j default).il)∧cs[j * 3+1]? = some (.int .i64 (xs.getD j default).n)∧cs[j * 3+2]? = some lv∧w.ownsRow B 3 1 lv (xs.getD j default).l.length ((xs.getD j default).l.map (Value.int .i64)))
 (g1:w.grownBy w1 none) (o1:w1.ownsRow B 3 1 lv (xs.getD k default).l.length ((xs.getD k default).l.map (Value.int .i64))) (g2:w1.grownBy w2 none)
 (o3:w3.ownsRow B 60 3 v' (k+1) (cs ++ [.bool (xs.getD k default).il,.int .i64 (xs.getD k default).n,lv])) (g3:w2.grownBy w3 v.ownBlock):Cp B w3 v' (k+1) xs:=by
 have h2:=own_none (own_none h g1) g2
 refine ⟨_,o3,fun j hjk=>?_⟩
 have hl:cs.length=k * 3:=h.1
 by_cases hjk2:j < k
 · obtain ⟨u,a0,a1,a2,a3⟩:=hj j hjk2
   refine ⟨u,by rw [List.getElem?_append_left (by omega)]; exact a0,by rw [List.getElem?_append_left (by omega)]; exact a1,by rw [List.getElem?_append_left (by omega)]; exact a2,?_⟩
   have a4:=own_none (own_none a3 g1) g2
   exact a4.kept g3 (own_ne a4 h2 (by decide))
 · obtain rfl:j=k:=by omega
   refine ⟨lv,by rw [List.getElem?_append_right (by omega),hl,Nat.sub_self]; rfl,by rw [List.getElem?_append_right (by omega),hl,show j * 3+1 - j * 3=1 by omega]; rfl,by rw [List.getElem?_append_right (by omega),hl,show j * 3+2 - j * 3=2 by omega]; rfl,?_⟩
   have a4:=own_none o1 g2
   exact a4.kept g3 (own_ne a4 h2 (by decide))
theorem hasI_own {w:World} {B n:Nat} {lv:Value} {l:List Int} (h:w.ownsRow B 3 1 lv n (l.map (Value.int .i64))) (hn:n=l.length):HasI w lv l:=by
 subst hn
 have h':=h
 rcases h.2 with ⟨rfl,h0⟩ | ⟨g,cap,cur,rfl,_,hg,_⟩
 · exact ⟨none,0,by rw [h0],fun hne=>absurd (List.eq_nil_of_length_eq_zero h0) hne⟩
 · refine ⟨_,_,rfl,fun _=>⟨g,0,rfl,fun i hi=>?_⟩⟩
   have:=h'.cells (g:=g) rfl i (.int .i64 (l.getD i 0)) (by rw [List.getElem?_map,List.getElem?_eq_getElem hi,List.getD_eq_getElem?_getD,List.getElem?_eq_getElem hi]; rfl)
   have e:(⟨g,0,none⟩:Addr).add i=⟨g,0+i,none⟩:=by unfold Addr.add; split <;> simp_all
   rw [e] at this; exact this
theorem Cp.has {B:Nat} {w:World} {v:Value} {xs:List AArg} (h:Cp B w v xs.length xs) (hL:∀ a∈xs,a.l.length≤60):HasA w v xs:=by
 obtain ⟨cs,h,hj⟩:=h
 have h':=h
 rcases h.2 with ⟨rfl,h0⟩ | ⟨g,cap,cur,rfl,_,hg,_⟩
 · exact ⟨none,0,by rw [h0],fun hne=>absurd (List.eq_nil_of_length_eq_zero h0) hne⟩
 · refine ⟨_,_,rfl,fun _=>⟨g,0,rfl,fun i hi=>?_⟩⟩
   obtain ⟨lv,a0,a1,a2,a3⟩:=hj i hi
   have c:=fun j u hu=>h'.cells (g:=g) rfl j u hu
   have e:∀ j,(⟨g,0,none⟩:Addr).add j=⟨g,0+j,none⟩:=by intro j; unfold Addr.add; split <;> simp_all
   refine ⟨lv,?_,?_,?_,hasI_own a3 rfl,?_⟩
   · have:=c _ _ a0; rw [e] at this; exact this
   · have:=c _ _ a1; rw [e] at this; exact this
   · have:=c _ _ a2; rw [e] at this; exact this
   · have:xs.getD i default∈xs:=by rw [List.getD_eq_getElem?_getD,List.getElem?_eq_getElem hi]; exact List.getElem_mem hi
     have:=hL _ this; omega
theorem run_append_zero {P:Program} {w:World} (t ty e:TypeId) (i:TypeInfo) (ht:P.underlying t=some (.slice e)) (hi:P.info? e=some i) (p:Option Addr) (c:Nat) :
 (Builtin.append_ #[t,t] ty #[.slice none 0 0,.slice p 0 c]).run P w = .ok (.slice none 0 0) w:=by
 cases p with
 | none=>simp [Builtin.append_,run_underlying ht,sizeOf,typeInfo,hi,Builtin.lenOf,Builtin.firstCells]
 | some a=>simp [Builtin.append_,run_underlying ht,sizeOf,typeInfo,hi,Builtin.lenOf,Builtin.firstCells,loadCells,loadCellsFrom]
theorem step_append_zero {P:Program} {w:World} {ops:Array Oper} {o:Oper} {a:Act} {K:Act→World→Prop} {Q:Exit→Act→World→Prop} {E:Prop} (hgd:o.guard=none) (s x:Operand) (t:TypeId)
 (ho:o.op = .call { callee:=.builtin .append,args:=#[s,x],argTypes:=#[t,t] }) (e:TypeId) (i:TypeInfo) (ht:P.underlying t=some (.slice e)) (hi:P.info? e=some i)
 (p:Option Addr) (c:Nat) (hs:a.eval s = .slice none 0 0) (hx:a.eval x = .slice p 0 c) (h:K (a.put o.dst (.slice none 0 0)) w) :
 if Region.wanted o (yielded ops a.tmps)=true then Oper.wp P o a w K Q else E:=by
 have hw:Region.wanted o (yielded ops a.tmps)=true:=by simp [Region.wanted,hgd]
 rw [if_pos hw]
 have hrun:=run_append_zero (P:=P) (w:=w) t o.type e i ht hi p c
 unfold Oper.wp execOp
 simp only [ho,resolve,invoke,builtin,Sem.run_bind,Sem.run_pure,Result.andThen_ok,List.map_toArray,List.map_cons,List.map_nil,hs,hx,hrun]
 exact h
end Lb
end Go.Proofs
namespace Go.Proofs
open Go.RowKit
namespace Lb
theorem infoInt:(Tryz.prog.info? 3).map (fun i=>(i.zero,i.size,i.bytes))=some (some (.int .i64 0),1,8):=by kernel_rfl
theorem infoArg:(Tryz.prog.info? 60).map (fun i=>(i.zero,i.size,i.bytes))=some (some (.agg #[.bool false,.int .i64 0,.slice none 0 0]),3,40):=by kernel_rfl
set_option maxRecDepth 100000 in
set_option maxHeartbeats 3200000 in
theorem copy_c (xs : List AArg) (v : Value) (w : World) (h : HasA w v xs) (hl : xs.length ≤ 6) (hL : ∀ a ∈ xs, a.l.length ≤ 60) :
    Calls Tryz.prog 26 #[v] w fun e w' => ∃ v', e = .returned v' ∧ HasA w' v' xs ∧ Below w.heap.size w w' := by
  obtain ⟨p, c, rfl, h⟩ := h
  obtain ⟨n, hn⟩ : ∃ n, n = xs.length := ⟨_, rfl⟩
  rw [← hn]
  rw [← hn] at hl
  by_cases h0 : xs = []
  · have hn0 : n = 0 := by rw [hn, h0]; rfl
    have hx : Hid (xs = []) := h0
    subst hn0
    clear h h0 hn hl hL
    go_enter Tryz.func26, Tryz.ntmps26
    go_wp2
    go_loop [3, 4] (fun o i => o = .slice none 0 0 ∧ i = .int .i64 0) (fun _ _ => 0)
    case atStart => exact ⟨rfl, rfl⟩
    case round =>
      obtain ⟨rfl, rfl⟩ := hrel
      go_wp2
      go_ret
      exact ⟨_, rfl, ⟨none, 0, by rw [hx.out]; rfl, fun h => absurd hx.out h⟩, Below.refl _ _⟩
  · obtain ⟨b, o, rfl, hq⟩ := h h0
    have hn' : Hid (n = xs.length) := hn
    rw [← hn] at hq
    have hq' : Hid _ := hq
    have hL' : Hid (∀ a ∈ xs, a.l.length ≤ 60) := hL
    obtain ⟨i0, hi0, hz0, hz1, hz2⟩ := info_parts infoInt
    obtain ⟨i1, hi1, hy0, hy1, hy2⟩ := info_parts infoArg
    clear h h0 hn hq hL
    go_enter Tryz.func26, Tryz.ntmps26
    go_wp2
    go_loopw [3, 4] (fun v i wr => ∃ (k : Nat) (vo : Value), k ≤ n ∧ vo = v ∧ i = .int .i64 k ∧ Cp w.heap.size wr v k xs ∧ Below w.heap.size w wr) (fun _ i _ => n - (intOf i).toNat)
    case atStart => exact ⟨0, _, Nat.zero_le _, rfl, rfl, Cp.zero _ _ _, Below.refl _ _⟩
    case round =>
      obtain ⟨k, vo, hk, rfl, rfl, hcp, hB⟩ := hrel
      by_cases hkn : k < n
      · obtain ⟨lv, g0, g1, g2, hI, _⟩ := hq'.out k hkn
        have g0 := cell_below g0 hB (cell_lt g0)
        have g1 := cell_below g1 hB (cell_lt g1)
        have g2 := cell_below g2 hB (cell_lt g2)
        have hlk : (xs.getD k default).l.length ≤ 60 := hL'.out _ (by rw [List.getD_eq_getElem?_getD, List.getElem?_eq_getElem (by rw [← hn'.out]; exact hkn)]; exact List.getElem_mem _)
        obtain ⟨cs, hown, hj⟩ := hcp
        have hnx := fun w1 w2 w3 v' lv => Cp.next (w1 := w1) (w2 := w2) (w3 := w3) (v' := v') (lv := lv) hown hj
        have hbB : Hid (b < w.heap.size) := cell_lt (hq'.out k hkn).choose_spec.1
        have hIr := hI.below hB
        have hBr : Hid (Below w.heap.size w wr) := hB
        have hsz := hB.size
        have hbr : b < wr.heap.size := Nat.lt_of_lt_of_le hbB.out hB.size
        have hvb : vo.ownBlock ≠ some b := fun h => by have := (hown.lt b h).1; have := hbB.out; omega
        clear hj hB hI
        by_cases hl0 : (xs.getD k default).l = []
        · obtain ⟨p2, c2, hlv, hc⟩ := hIr
          subst hlv
          rw [hl0] at g2
          have hnx0 : ∀ w1 w2 w3 v', wr.grownBy w1 none → w1.grownBy w2 none → w3.ownsRow w.heap.size 60 3 v' (k + 1) (cs ++ [.bool (xs.getD k default).il, .int .i64 (xs.getD k default).n, .slice none 0 0]) → w2.grownBy w3 vo.ownBlock → Cp w.heap.size w3 v' (k + 1) xs :=
            fun w1 w2 w3 v' q1 q2 q3 q4 => hnx w1 w2 w3 v' (.slice none 0 0) q1 (by rw [hl0]; exact World.ownsRow_nil _ _ _ _) q2 q3 q4
          obtain ⟨il, hil⟩ : ∃ il, il = (xs.getD k default).il := ⟨_, rfl⟩
          obtain ⟨nn, hnn⟩ : ∃ nn, nn = (xs.getD k default).n := ⟨_, rfl⟩
          rw [← hil] at g0 hnx0
          rw [← hnn] at g1 hnx0
          have hnx' : Hid _ := hnx0
          rw [show ([] : List Int).length = 0 from rfl] at g2
          clear hil hnn hl0 hnx hc hnx0 hlk
          go_wp2_with fail
          go_region_held3 (fun w' => w'.cell? ⟨b, o + k * 3, none⟩ = some (.bool il) ∧ w'.cell? ⟨b, o + k * 3 + 1, none⟩ = some (.int .i64 nn) ∧ w'.cell? ⟨b, o + k * 3 + 2, none⟩ = some (.slice p2 0 c2))
            (first
              | go_keep
              | (go_split_ands
                 refine ⟨?_, ?_, ?_⟩
                 · (rw [hgrow3.cell_far _ (by simp; omega) (Ne.symm hvb)]; assumption)
                 · (rw [hgrow3.cell_far _ (by simp; omega) (Ne.symm hvb)]; assumption)
                 · (rw [hgrow3.cell_far _ (by simp; omega) (Ne.symm hvb)]; assumption)))
            (first
              | (refine step_append_zero (by rfl) _ _ _ (by rfl) 3 i0 Tryz.underlying45 hi0 p2 c2 (by rfl) (by rfl) ?_)
              | ((refine step_append_lies _ (by rfl) _ _ _ (by rfl) w.heap.size 60 i1 _ 3 40 Tryz.underlying22 hi1 hy0 hy1 hy2 rfl (by omega) vo k cs (by rfl) ((World.ownsRow.drew hown).alloc _) ⟨wr.heap.size, 0, none⟩ 1 1 [.bool il, .int .i64 nn, .slice none 0 0] (by rfl) (by rfl) (World.news_of_block (cs := #[.bool il, .int .i64 nn, .slice none 0 0]) (t := 60) (fr := (0, 0)) (heap_alloc_new wr.drew _)) (by simp [Value.oneCell']) (by omega) (by unfold maxLen; omega) (by omega) (by simp; omega) (wr.heap.size + 1) (by simp) ?_; intro g3 cap3 w3 hown3 hgrow3 hat3 hlt3)))
          go_wp2
          go_roundw
          case rel =>
            have hb3 : Below w.heap.size w w3 := ((hBr.out.drew.alloc (by simp; omega) _).grown hgrow3 (by simp; omega) (fun k h => (hown.lt k h).1))
            exact ⟨k + 1, _, by omega, rfl, by go_num, hnx'.out wr _ w3 _ ⟨rfl, rfl, rfl, Nat.le_refl _, fun _ _ _ => rfl⟩ (World.grownBy_alloc wr _ _) hown3 ⟨hgrow3.os, hgrow3.tape, hgrow3.output, hgrow3.size, hgrow3.block⟩, hb3⟩
          case measure => simp [intOf]; omega
        · obtain ⟨p2, c2, hlv, hc⟩ := hIr
          obtain ⟨lb, lo, rfl, hcc⟩ := hc hl0
          subst hlv
          obtain ⟨m, hm⟩ : ∃ m, m = (xs.getD k default).l.length := ⟨_, rfl⟩
          have hm0 : 0 < m := by rw [hm]; exact List.length_pos_iff.2 hl0
          obtain ⟨zs, hzs⟩ : ∃ zs, zs = (xs.getD k default).l.map (Value.int .i64) := ⟨_, rfl⟩
          have hzl : zs.length = m * 1 := by rw [hzs, hm]; simp
          have hzc : ∀ j u, zs[j]? = some u → wr.cell? ((⟨lb, lo, none⟩ : Addr).add j) = some u := by
            intro j u hu
            rw [hzs, List.getElem?_map] at hu
            obtain ⟨z, hz, rfl⟩ := Option.map_eq_some_iff.1 hu
            have hj := (List.getElem?_eq_some_iff.1 hz).1
            rw [Addr.add_lit, hcc j hj, List.getD_eq_getElem?_getD, hz]; rfl
          have hzo : ∀ u ∈ zs, u.oneCell' = true := by
            intro u hu
            rw [hzs] at hu
            obtain ⟨z, _, rfl⟩ := List.mem_map.1 hu
            rfl
          rw [← hm] at g2 hlk hnx
          rw [← hzs] at hnx
          obtain ⟨il, hil⟩ : ∃ il, il = (xs.getD k default).il := ⟨_, rfl⟩
          obtain ⟨nn, hnn⟩ : ∃ nn, nn = (xs.getD k default).n := ⟨_, rfl⟩
          rw [← hil] at g0 hnx
          rw [← hnn] at g1 hnx
          have hnx' : Hid _ := hnx
          clear hil hnn hzs hm hl0 hnx hc hcc
          go_wp2_with fail
          go_region_held3 (fun w' => w'.cell? ⟨b, o + k * 3, none⟩ = some (.bool il) ∧ w'.cell? ⟨b, o + k * 3 + 1, none⟩ = some (.int .i64 nn) ∧ w'.cell? ⟨b, o + k * 3 + 2, none⟩ = some (.slice (some ⟨lb, lo, none⟩) m c2))
            (first
              | go_keep
              | (go_split_ands
                 refine ⟨?_, ?_, ?_⟩
                 · (rw [hgrow1.cell_far _ (by simp; omega) (by simp [Value.ownBlock])]; assumption)
                 · (rw [hgrow1.cell_far _ (by simp; omega) (by simp [Value.ownBlock])]; assumption)
                 · (rw [hgrow1.cell_far _ (by simp; omega) (by simp [Value.ownBlock])]; assumption))
              | (go_split_ands
                 refine ⟨?_, ?_, ?_⟩
                 · (rw [hgrow3.cell_far _ (by have := hgrow1.size; simp at this ⊢; omega) (Ne.symm hvb)]; assumption)
                 · (rw [hgrow3.cell_far _ (by have := hgrow1.size; simp at this ⊢; omega) (Ne.symm hvb)]; assumption)
                 · (rw [hgrow3.cell_far _ (by have := hgrow1.size; simp at this ⊢; omega) (Ne.symm hvb)]; assumption)))
            (first
              | ((refine step_append_lies _ (by rfl) _ _ _ (by rfl) w.heap.size 3 i0 _ 1 8 Tryz.underlying45 hi0 hz0 hz1 hz2 rfl (by omega) (.slice none 0 0) 0 [] (by rfl) (World.ownsRow_nil _ _ _ _) ⟨lb, lo, none⟩ m c2 zs (by rfl) hzl hzc hzo hm0 (by unfold maxLen; omega) (by omega) (by simp; omega) wr.heap.size (by simp) ?_; intro gg cap w1 hown1 hgrow1 hat1 hlt1; simp only [Nat.zero_add, List.nil_append] at hown1; simp only [Nat.zero_add]))
              | ((refine step_append_lies _ (by rfl) _ _ _ (by rfl) w.heap.size 60 i1 _ 3 40 Tryz.underlying22 hi1 hy0 hy1 hy2 rfl (by omega) vo k cs (by rfl) ((own_none (w := wr.drew) hown hgrow1).alloc _) ⟨w1.heap.size, 0, none⟩ 1 1 [.bool il, .int .i64 nn, .slice (some ⟨gg, 0, none⟩) m cap] (by rfl) (by rfl) (World.news_of_block (cs := #[.bool il, .int .i64 nn, .slice (some ⟨gg, 0, none⟩) m cap]) (t := 60) (fr := (0, 0)) (heap_alloc_new w1 _)) (by simp [Value.oneCell']) (by omega) (by unfold maxLen; omega) (by omega) (by have := hgrow1.size; simp at this ⊢; omega) (w1.heap.size + 1) (by simp) ?_; intro g3 cap3 w3 hown3 hgrow3 hat3 hlt3)))
          go_wp2
          go_roundw
          case rel =>
            have hb3 : Below w.heap.size w w3 := (((hBr.out.drew.grown hgrow1 (by simp; omega) (fun k h => by cases h)).alloc (by have := hgrow1.size; simp at this; omega) _).grown hgrow3 (by have := hgrow1.size; simp at this ⊢; omega) (fun k h => (hown.lt k h).1))
            exact ⟨k + 1, _, by omega, rfl, by go_num, hnx'.out w1 _ w3 _ _ ⟨hgrow1.os, hgrow1.tape, hgrow1.output, hgrow1.size, hgrow1.block⟩ hown1 (World.grownBy_alloc _ _ _) hown3 hgrow3, hb3⟩
          case measure => simp [intOf]; omega
      · obtain rfl : k = n := by omega
        go_wp2
        go_ret
        refine ⟨_, rfl, ?_, hB⟩
        rw [hn'.out] at hcp
        exact hcp.has hL'.out
end Lb
end Go.Proofs
namespace Go.Proofs
open Go.RowKit
namespace Lb
theorem HasA.below {w w':World} {v:Value} {xs:List AArg} (h:HasA w v xs) (hB:Below w.heap.size w w'):HasA w' v xs:=by
 obtain ⟨p,c,rfl,h⟩:=h
 refine ⟨p,c,rfl,fun h0=>?_⟩
 obtain ⟨b,o,hp,hq⟩:=h h0
 refine ⟨b,o,hp,fun i hi=>?_⟩
 obtain ⟨lv,g0,g1,g2,hI,hL⟩:=hq i hi
 exact ⟨lv,cell_below g0 hB (cell_lt g0),cell_below g1 hB (cell_lt g1),cell_below g2 hB (cell_lt g2),hI.below hB,hL⟩
set_option maxRecDepth 100000 in
theorem own_c (s:ByteArray) (xs:List AArg) (v:Value) (w:World) (h:HasA w v xs) (hl:xs.length≤6) (hL:∀ a∈xs,a.l.length≤60) :
 Calls Tryz.prog 8 #[.agg #[.string s,v]] w fun e w'=>∃ v',e = .returned (.tuple #[.string s,v'])∧HasA w' v' xs∧Below w.heap.size w w':=by
 have hB:Below w.heap.size w (w.alloc (.cells #[.string s,v] 24)):=(Below.refl _ _).alloc (Nat.le_refl _) _
 have k0:(w.alloc (.cells #[.string s,v] 24)).cell? ⟨w.heap.size,0,none⟩=some (.string s):=by rw [cells_new]; rfl
 have k1:(w.alloc (.cells #[.string s,v] 24)).cell? ⟨w.heap.size,1,none⟩=some v:=by rw [cells_new]; rfl
 have hz:=size_new w (.cells #[.string s,v] 24)
 have hc:=fun w1 (hw:Below (w.alloc (.cells #[.string s,v] 24)).heap.size (w.alloc (.cells #[.string s,v] 24)) w1)=>copy_c xs v w1 ((h.below hB).below hw) hl hL
 have hk:∀ w2 w3,Below (w.alloc (.cells #[.string s,v] 24)).heap.size (w.alloc (.cells #[.string s,v] 24)) w2→Below w2.heap.size w2 w3→w3.cell? ⟨w.heap.size,0,none⟩=some (.string s)∧w3.cell? ⟨w.heap.size,1,none⟩=some v :=
  fun w2 w3 b1 b2=>⟨cell_below (cell_below k0 b1 (by omega)) b2 (by have:=b1.size; omega),cell_below (cell_below k1 b1 (by omega)) b2 (by have:=b1.size; omega)⟩
 have hB':Hid _:=hB
 have hc':Hid _:=hc
 have hk':Hid _:=hk
 clear h hl hL hB hc hz hk
 go_enter Tryz.func8,Tryz.ntmps8
 go_wp2
 go_region_held3 (fun w'=>w'.cell? ⟨w.heap.size,0,none⟩=some (.string s)∧w'.cell? ⟨w.heap.size,1,none⟩=some v)
  (first | go_keep | (exact hk'.out _ _ (by exact below_drewN (n:=1) (Below.refl _ _)) hB2))
  ((go_at_call 26; refine (hc'.out _ (by exact below_drewN (n:=1) (Below.refl _ _))).mono ?_; rintro e w' ⟨v',rfl,hA,hB2⟩))
 go_wp2
 go_ret2
 have hb:=hB'.out
 exact ⟨v',rfl,hA,hb.trans (((below_drewN (n:=1) (Below.refl _ _)).trans hB2).mono hb.size)⟩
end Lb
end Go.Proofs
namespace Go.Proofs
open Go.RowKit
namespace Lb
def fitsA (pr:ByteArray) (a:AArg):Bool:=fitsV a.il a.n a.l.length pr
def fitsAll (prs:List ByteArray) (xs:List AArg):Bool:=(List.range xs.length).all fun i=>fitsA (prs.getD i ByteArray.empty) (xs.getD i default)
def badA (a:AArg):Bool:=!isNum a.n || badNums a.l
def argErr (prs:List ByteArray) (xs:List AArg):Int :=
 if xs.length≠prs.length then 2 else if fitsAll prs xs=false then 2 else if xs.any badA=true then 3 else if xs.any (fun a=>decide (40 < a.l.length))=true then 5 else 0
theorem fitsAll_false {prs:List ByteArray} {xs:List AArg} {i:Nat} (hi:i < xs.length) (h:fitsA (prs.getD i ByteArray.empty) (xs.getD i default)=false):fitsAll prs xs=false:=by
 unfold fitsAll
 rw [List.all_eq_false]
 exact ⟨i,List.mem_range.2 hi,by rw [h]; decide⟩
theorem fitsAll_true {prs:List ByteArray} {xs:List AArg} (h:∀ i,i < xs.length→fitsA (prs.getD i ByteArray.empty) (xs.getD i default)=true):fitsAll prs xs=true:=by
 unfold fitsAll
 rw [List.all_eq_true]
 exact fun i hi=>h i (List.mem_range.1 hi)
set_option maxRecDepth 100000 in
set_option maxHeartbeats 3200000 in
theorem checkArgs_c (prs:List ByteArray) (xs:List AArg) (d0 d1:ByteArray) (pv rv cv v:Value) (w:World) (hp:HasS w pv prs) (h:HasA w v xs) (hl:xs.length≤6) (hpl:prs.length≤6) :
 Calls Tryz.prog 38 #[.agg #[.string d0,.string d1,pv,rv,cv],v] w fun e w'=>e = .returned (.int .i64 (argErr prs xs))∧Below w.heap.size w w':=by
 have hA:Hid (HasA w v xs):=h
 obtain ⟨pp,pc,rfl,hp2⟩:=hp
 obtain ⟨p,c,rfl,h2⟩:=h
 obtain ⟨n,hn⟩:∃ n,n=xs.length:=⟨_,rfl⟩
 obtain ⟨m,hm⟩:∃ m,m=prs.length:=⟨_,rfl⟩
 rw [←hn] at hA hl ⊢
 rw [←hm] at hpl ⊢
 have hB:Below w.heap.size w (w.alloc (.cells #[.string d0,.string d1,.slice pp m pc,rv,cv] 90)):=(Below.refl _ _).alloc (Nat.le_refl _) _
 have hz:=size_new w (.cells #[.string d0,.string d1,.slice pp m pc,rv,cv] 90)
 have k2:(w.alloc (.cells #[.string d0,.string d1,.slice pp m pc,rv,cv] 90)).cell? ⟨w.heap.size,2,none⟩=some (.slice pp m pc):=by rw [cells_new]; rfl
 by_cases hnm:n=m
 · have hn':Hid (n=xs.length):=hn
   have hm':Hid (m=prs.length):=hm
   have hB':Hid _:=hB
   have hz':Hid _:=hz
   have hk2:Hid (∀ wr,Below (w.alloc (.cells #[.string d0,.string d1,.slice pp m pc,rv,cv] 90)).heap.size (w.alloc (.cells #[.string d0,.string d1,.slice pp m pc,rv,cv] 90)) wr→wr.cell? ⟨w.heap.size,2,none⟩=some (.slice pp m pc)):=fun wr hb=>cell_below k2 hb (by omega)
   rw [←hn] at h2
   rw [←hm] at hp2
   have h2':Hid _:=h2
   have hp2':Hid _:=hp2
   subst hnm
   clear hn hm hB hz h2 hp2
   go_enter Tryz.func38,Tryz.ntmps38
   go_wp2
   go_loopw [15] (fun i wr=>∃ k:Nat,k≤n∧i = .int .i64 k∧(∀ j,j < k→fitsA (prs.getD j ByteArray.empty) (xs.getD j default)=true)∧Below (w.alloc (.cells #[.string d0,.string d1,.slice pp n pc,rv,cv] 90)).heap.size (w.alloc (.cells #[.string d0,.string d1,.slice pp n pc,rv,cv] 90)) wr) (fun i _=>n - (intOf i).toNat)
   case atStart=>exact ⟨0,Nat.zero_le _,rfl,fun j h=>absurd h (Nat.not_lt_zero _),Below.refl _ _⟩
   case round =>
    obtain ⟨k,hk,rfl,hall,hBr⟩:=hrel
    by_cases hkn:k < n
    · obtain ⟨b,o,rfl,hq⟩:=h2'.out (fun h=>by have:=hn'.out; rw [h] at this; simp at this; omega)
      obtain ⟨pb,po,rfl,hpq⟩:=hp2'.out (fun h=>by have:=hm'.out; rw [h] at this; simp at this; omega)
      obtain ⟨lv,g0,g1,g2,hI,hL⟩:=hq k hkn
      have gp:=hpq k hkn
      have hBw:Below w.heap.size w wr:=hB'.out.trans (hBr.mono hB'.out.size)
      have g0:=cell_below g0 hBw (cell_lt g0)
      have g1:=cell_below g1 hBw (cell_lt g1)
      have g2:=cell_below g2 hBw (cell_lt g2)
      have gp:=cell_below gp hBw (cell_lt gp)
      have gd:=hk2.out wr hBr
      obtain ⟨lp,lc,rfl,_⟩:=hI
      have hfit:∀ x,fitsV (xs.getD k default).il (xs.getD k default).n (xs.getD k default).l.length (prs.getD k ByteArray.empty)=x→fitsA (prs.getD k ByteArray.empty) (xs.getD k default)=x:=fun x h=>h
      obtain ⟨ll,hll⟩:∃ ll,ll=(xs.getD k default).l.length:=⟨_,rfl⟩
      obtain ⟨il,hil⟩:∃ il,il=(xs.getD k default).il:=⟨_,rfl⟩
      obtain ⟨nn,hnn⟩:∃ nn,nn=(xs.getD k default).n:=⟨_,rfl⟩
      obtain ⟨ty,hty⟩:∃ ty,ty=prs.getD k ByteArray.empty:=⟨_,rfl⟩
      rw [←hll] at g2 hL
      rw [←hil] at g0
      rw [←hnn] at g1
      rw [←hty] at gp
      rw [←hll,← hil,← hnn,← hty] at hfit
      obtain ⟨fx,hfx⟩:∃ fx,fx=fitsV il nn ll ty:=⟨_,rfl⟩
      have hfit':Hid (fitsA (prs.getD k ByteArray.empty) (xs.getD k default)=fx):=by show _=_; rw [←hty]; exact hfit _ hfx.symm
      have hc:=fun w2=>fits_c il nn ll lc lp ty w2 hL
      rw [←hfx] at hc
      have hc':Hid _:=hc
      have hxl:k < xs.length:=by rw [←hn'.out]; exact hkn
      have hal:Below wr.heap.size wr (wr.alloc (.cells #[.bool il,.int .i64 nn,.slice lp ll lc] 60)):=(Below.refl _ _).alloc (Nat.le_refl _) _
      have hsz:=size_new wr (.cells #[.bool il,.int .i64 nn,.slice lp ll lc] 60)
      have t0:(wr.alloc (.cells #[.bool il,.int .i64 nn,.slice lp ll lc] 60)).cell? ⟨wr.heap.size,0,none⟩=some (.bool il):=by rw [cells_new]; rfl
      have t1:(wr.alloc (.cells #[.bool il,.int .i64 nn,.slice lp ll lc] 60)).cell? ⟨wr.heap.size,1,none⟩=some (.int .i64 nn):=by rw [cells_new]; rfl
      have t2:(wr.alloc (.cells #[.bool il,.int .i64 nn,.slice lp ll lc] 60)).cell? ⟨wr.heap.size,2,none⟩=some (.slice lp ll lc):=by rw [cells_new]; rfl
      have gd':=cell_below gd hal (cell_lt gd)
      have gp':=cell_below gp hal (cell_lt gp)
      have hlt1:=cell_lt gd
      have hlt2:=cell_lt gp
      have hk3:Hid (∀ w2 w3,Below (wr.alloc (.cells #[.bool il,.int .i64 nn,.slice lp ll lc] 60)).heap.size (wr.alloc (.cells #[.bool il,.int .i64 nn,.slice lp ll lc] 60)) w2→Below w2.heap.size w2 w3 →
       w3.cell? ⟨wr.heap.size,0,none⟩=some (.bool il)∧w3.cell? ⟨wr.heap.size,1,none⟩=some (.int .i64 nn)∧w3.cell? ⟨wr.heap.size,2,none⟩=some (.slice lp ll lc)∧w3.cell? ⟨w.heap.size,2,none⟩=some (.slice (some ⟨pb,po,none⟩) n pc)∧w3.cell? ⟨pb,po+k,none⟩=some (.string ty)) :=
       fun w2 w3 b1 b2=>⟨cell_below (cell_below t0 b1 (by omega)) b2 (by have:=b1.size; omega),cell_below (cell_below t1 b1 (by omega)) b2 (by have:=b1.size; omega),cell_below (cell_below t2 b1 (by omega)) b2 (by have:=b1.size; omega),
        cell_below (cell_below gd' b1 (by omega)) b2 (by have:=b1.size; omega),cell_below (cell_below gp' b1 (by omega)) b2 (by have:=b1.size; omega)⟩
      have hal':Hid _:=hal
      have hBr':Hid _:=hBr
      have hall':Hid _:=hall
      clear hq hpq k2 hfit hfx hc hll hil hnn hty hal hsz hall hBw hBr hlt1 hlt2
      go_wp2_with fail
      go_region_held3 (fun w'=>w'.cell? ⟨wr.heap.size,0,none⟩=some (.bool il)∧w'.cell? ⟨wr.heap.size,1,none⟩=some (.int .i64 nn)∧w'.cell? ⟨wr.heap.size,2,none⟩=some (.slice lp ll lc)∧w'.cell? ⟨w.heap.size,2,none⟩=some (.slice (some ⟨pb,po,none⟩) n pc)∧w'.cell? ⟨pb,po+k,none⟩=some (.string ty))
       (first | go_keep | (exact hk3.out _ _ (by exact below_drewN (n:=1) (Below.refl _ _)) hB2))
       ((go_at_call 49; refine (hc'.out _).mono ?_; rintro e w' ⟨rfl,hB2⟩))
      have hb2:Below wr.heap.size wr w':=hal'.out.trans (((below_drewN (n:=1) (Below.refl _ _)).trans hB2).mono hal'.out.size)
      have hb3:=hBr'.out.trans (hb2.mono hBr'.out.size)
      cases fx with
      | true =>
       go_wp2
       go_roundw
       case rel =>
        refine ⟨k+1,by omega,by go_num,fun j hj=>?_,hb3⟩
        by_cases he:j=k
        · subst he; exact hfit'.out
        · exact hall'.out j (by omega)
       case measure=>simp [intOf]; omega
      | false =>
       have hs:Hid (argErr prs xs=2):=by
        show _=_
        unfold argErr
        rw [if_neg (by rw [←hn'.out,← hm'.out]; simp),if_pos (fitsAll_false hxl hfit'.out)]
       go_wp2
       go_ret
       exact ⟨by rw [hs.out]; rfl,hB'.out.trans (hb3.mono hB'.out.size)⟩
    · have hfa:fitsAll prs xs=true:=fitsAll_true fun i hi=>hall i (by have:=hn'.out; omega)
      have hBw:Below w.heap.size w wr:=hB'.out.trans (hBr.mono hB'.out.size)
      have hc1:=fun w2 (hb:Below wr.heap.size wr w2)=>any_bad xs _ w2 ((hA.out.below hBw).below hb) (by have:=hn'.out; omega)
      have hc2:=fun w2 (hb:Below wr.heap.size wr w2)=>any_long xs _ w2 ((hA.out.below hBw).below hb) (by have:=hn'.out; omega)
      obtain ⟨x1,hx1⟩:∃ x1,x1=xs.any badA:=⟨_,rfl⟩
      obtain ⟨x2,hx2⟩:∃ x2,x2=xs.any (fun a=>decide (40 < a.l.length)):=⟨_,rfl⟩
      rw [show (xs.any fun a=>!isNum a.n || badNums a.l)=x1 from hx1.symm] at hc1
      rw [←hx2] at hc2
      have hs:Hid (argErr prs xs=if x1=true then 3 else if x2=true then 5 else 0):=by
       show _=_
       unfold argErr
       rw [if_neg (by rw [←hn'.out,← hm'.out]; simp),if_neg (by rw [hfa]; simp),← hx1,← hx2]
      have hc1':Hid _:=hc1
      have hc2':Hid _:=hc2
      have hBw':Hid _:=hBw
      clear hc1 hc2 hx1 hx2 hfa hall hBr k2 hBw
      cases x1 with
      | true =>
       go_wp2_with (go_at_call 50; refine (hc1'.out _ (Below.refl _ _)).mono ?_; rintro e w' ⟨rfl,hb1⟩)
       go_ret
       exact ⟨by rw [hs.out]; rfl,hBw'.out.trans (hb1.mono hBw'.out.size)⟩
      | false =>
       cases x2 with
       | true =>
        go_wp2_with (go_at_call 50; first | (refine (hc1'.out _ (Below.refl _ _)).mono ?_; rintro e w' ⟨rfl,hb1⟩) | (refine (hc2'.out _ (by assumption)).mono ?_; rintro e w'' ⟨rfl,hb2⟩))
        go_ret
        exact ⟨by rw [hs.out]; rfl,hBw'.out.trans ((hb1.trans (hb2.mono hb1.size)).mono hBw'.out.size)⟩
       | false =>
        go_wp2_with (go_at_call 50; first | (refine (hc1'.out _ (Below.refl _ _)).mono ?_; rintro e w' ⟨rfl,hb1⟩) | (refine (hc2'.out _ (by assumption)).mono ?_; rintro e w'' ⟨rfl,hb2⟩))
        go_ret
        exact ⟨by rw [hs.out]; rfl,hBw'.out.trans ((hb1.trans (hb2.mono hb1.size)).mono hBw'.out.size)⟩
 · have hs:Hid (argErr prs xs=2):=by show _=_; unfold argErr; rw [if_pos (by rw [←hn,← hm]; exact hnm)]
   have hne:¬ (n:Int)=(m:Int):=by omega
   have hB':Hid _:=hB
   clear hn hm hA h2 hp2 hB hz
   go_enter Tryz.func38,Tryz.ntmps38
   go_wp2
   go_ret
   exact ⟨by rw [hs.out]; rfl,hB'.out⟩
end Lb
end Go.Proofs
