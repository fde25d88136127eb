/- PROVED HERE: a part (Wb) of the tied card of LibAccepted (floodgatelaw25). CONDITIONS: those of the given row and card alone. -/
import Derived.Test.YtbelbhnfjejnmaaGreatDoorWa
import Derived.Deep.RegionHeld3
import Derived.Deep.AppendLies
import Derived.OwnWalk
import Derived.RangeFuncBox
namespace Go.Proofs
open Go.RowKit
namespace Lb
theorem own_ne {w:World} {b1 b2 s1 s2 n1 n2:Nat} {e1 e2:TypeId} {v1 v2:Value} {x1 x2:List Value} (h1:w.ownsRow b1 e1 s1 v1 n1 x1) (h2:w.ownsRow b2 e2 s2 v2 n2 x2) (he:e1≠e2) :
 v1.ownBlock=none∨v1.ownBlock≠v2.ownBlock:=by
 rcases h1.2 with ⟨rfl,_⟩ | ⟨g1,c1,cur1,rfl,_,hg1,_⟩
 · exact .inl rfl
 · right
   rcases h2.2 with ⟨rfl,_⟩ | ⟨g2,c2,cur2,rfl,_,hg2,_⟩
   · intro h; cases h
   · intro h
     have h:g1=g2:=by simpa [Value.ownBlock] using h
     subst h
     rw [hg1] at hg2
     cases hg2
     exact he rfl
theorem own_none {w w':World} {b s n:Nat} {e:TypeId} {v:Value} {x:List Value} (h:w.ownsRow b e s v n x) (hg:w.grownBy w' none):w'.ownsRow b e s v n x :=
 h.kept hg (by cases v.ownBlock <;> simp)
def Cp (B:Nat) (w:World) (v:Value) (k:Nat) (xs:List AArg):Prop :=
 ∃ cs:List Value,w.ownsRow B 49 3 v k cs∧∀ j,j < k→∃ lv,cs[j * 3]? = some (.bool (xs.getD j default).il)∧cs[j * 3+1]? = some (.int .i64 (xs.getD j default).n)∧cs[j * 3+2]? = some lv ∧
  w.ownsRow B 3 1 lv (xs.getD j default).l.length ((xs.getD j default).l.map (Value.int .i64))
theorem Cp.zero (B:Nat) (w:World) (xs:List AArg):Cp B w (.slice none 0 0) 0 xs:=⟨[],World.ownsRow_nil _ _ _ _,fun _ h=>absurd h (Nat.not_lt_zero _)⟩
theorem Cp.next {B:Nat} {w w1 w2 w3:World} {v v' lv:Value} {k:Nat} {xs:List AArg} {cs:List Value} (h:w.ownsRow B 49 3 v k cs)
 (hj:∀ j,j < k→∃ lv,cs[j * 3]? = some (.bool (xs.getD j default).il)∧cs[j * 3+1]? = some (.int .i64 (xs.getD j default).n)∧cs[j * 3+2]? = some lv∧w.ownsRow B 3 1 lv (xs.getD j default).l.length ((xs.getD j default).l.map (Value.int .i64)))
 (g1:w.grownBy w1 none) (o1:w1.ownsRow B 3 1 lv (xs.getD k default).l.length ((xs.getD k default).l.map (Value.int .i64))) (g2:w1.grownBy w2 none)
 (o3:w3.ownsRow B 49 3 v' (k+1) (cs ++ [.bool (xs.getD k default).il,.int .i64 (xs.getD k default).n,lv])) (g3:w2.grownBy w3 v.ownBlock):Cp B w3 v' (k+1) xs:=by
 have h2:=own_none (own_none h g1) g2
 refine ⟨_,o3,fun j hjk=>?_⟩
 have hl:cs.length=k * 3:=h.1
 by_cases hjk2:j < k
 · obtain ⟨u,a0,a1,a2,a3⟩:=hj j hjk2
   refine ⟨u,by rw [List.getElem?_append_left (by omega)]; exact a0,by rw [List.getElem?_append_left (by omega)]; exact a1,by rw [List.getElem?_append_left (by omega)]; exact a2,?_⟩
   have a4:=own_none (own_none a3 g1) g2
   exact a4.kept g3 (own_ne a4 h2 (by decide))
 · obtain rfl:j=k:=by omega
   refine ⟨lv,by rw [List.getElem?_append_right (by omega),hl,Nat.sub_self]; rfl,by rw [List.getElem?_append_right (by omega),hl,show j * 3+1 - j * 3=1 by omega]; rfl,by rw [List.getElem?_append_right (by omega),hl,show j * 3+2 - j * 3=2 by omega]; rfl,?_⟩
   have a4:=own_none o1 g2
   exact a4.kept g3 (own_ne a4 h2 (by decide))
theorem hasI_own {w:World} {B n:Nat} {lv:Value} {l:List Int} (h:w.ownsRow B 3 1 lv n (l.map (Value.int .i64))) (hn:n=l.length):HasI w lv l:=by
 subst hn
 have h':=h
 rcases h.2 with ⟨rfl,h0⟩ | ⟨g,cap,cur,rfl,_,hg,_⟩
 · exact ⟨none,0,by rw [h0],fun hne=>absurd (List.eq_nil_of_length_eq_zero h0) hne⟩
 · refine ⟨_,_,rfl,fun _=>⟨g,0,rfl,fun i hi=>?_⟩⟩
   have:=h'.cells (g:=g) rfl i (.int .i64 (l.getD i 0)) (by rw [List.getElem?_map,List.getElem?_eq_getElem hi,List.getD_eq_getElem?_getD,List.getElem?_eq_getElem hi]; rfl)
   have e:(⟨g,0,none⟩:Addr).add i=⟨g,0+i,none⟩:=by unfold Addr.add; split <;> simp_all
   rw [e] at this; exact this
theorem Cp.has {B:Nat} {w:World} {v:Value} {xs:List AArg} (h:Cp B w v xs.length xs) (hL:∀ a∈xs,a.l.length≤60):HasA w v xs:=by
 obtain ⟨cs,h,hj⟩:=h
 have h':=h
 rcases h.2 with ⟨rfl,h0⟩ | ⟨g,cap,cur,rfl,_,hg,_⟩
 · exact ⟨none,0,by rw [h0],fun hne=>absurd (List.eq_nil_of_length_eq_zero h0) hne⟩
 · refine ⟨_,_,rfl,fun _=>⟨g,0,rfl,fun i hi=>?_⟩⟩
   obtain ⟨lv,a0,a1,a2,a3⟩:=hj i hi
   have c:=fun j u hu=>h'.cells (g:=g) rfl j u hu
   have e:∀ j,(⟨g,0,none⟩:Addr).add j=⟨g,0+j,none⟩:=by intro j; unfold Addr.add; split <;> simp_all
   refine ⟨lv,?_,?_,?_,hasI_own a3 rfl,?_⟩
   · have:=c _ _ a0; rw [e] at this; exact this
   · have:=c _ _ a1; rw [e] at this; exact this
   · have:=c _ _ a2; rw [e] at this; exact this
   · have:xs.getD i default∈xs:=by rw [List.getD_eq_getElem?_getD,List.getElem?_eq_getElem hi]; exact List.getElem_mem hi
     have:=hL _ this; omega
theorem run_append_zero {P:Program} {w:World} (t ty e:TypeId) (i:TypeInfo) (ht:P.underlying t=some (.slice e)) (hi:P.info? e=some i) (p:Option Addr) (c:Nat) :
 (Builtin.append_ #[t,t] ty #[.slice none 0 0,.slice p 0 c]).run P w = .ok (.slice none 0 0) w:=by
 cases p with
 | none=>simp [Builtin.append_,run_underlying ht,sizeOf,typeInfo,hi,Builtin.lenOf,Builtin.firstCells]
 | some a=>simp [Builtin.append_,run_underlying ht,sizeOf,typeInfo,hi,Builtin.lenOf,Builtin.firstCells,loadCells,loadCellsFrom]
theorem step_append_zero {P:Program} {w:World} {ops:Array Oper} {o:Oper} {a:Act} {K:Act→World→Prop} {Q:Exit→Act→World→Prop} {E:Prop} (hgd:o.guard=none) (s x:Operand) (t:TypeId)
 (ho:o.op = .call { callee:=.builtin .append,args:=#[s,x],argTypes:=#[t,t] }) (e:TypeId) (i:TypeInfo) (ht:P.underlying t=some (.slice e)) (hi:P.info? e=some i)
 (p:Option Addr) (c:Nat) (hs:a.eval s = .slice none 0 0) (hx:a.eval x = .slice p 0 c) (h:K (a.put o.dst (.slice none 0 0)) w) :
 if Region.wanted o (yielded ops a.tmps)=true then Oper.wp P o a w K Q else E:=by
 have hw:Region.wanted o (yielded ops a.tmps)=true:=by simp [Region.wanted,hgd]
 rw [if_pos hw]
 have hrun:=run_append_zero (P:=P) (w:=w) t o.type e i ht hi p c
 unfold Oper.wp execOp
 simp only [ho,resolve,invoke,builtin,Sem.run_bind,Sem.run_pure,Result.andThen_ok,List.map_toArray,List.map_cons,List.map_nil,hs,hx,hrun]
 exact h
end Lb
end Go.Proofs
namespace Go.Proofs
open Go.RowKit
namespace Lb
theorem infoInt : (Tryz.prog.info? 3).map (fun i => (i.zero, i.size, i.bytes)) = some (some (.int .i64 0), 1, 8) := by kernel_rfl
theorem infoArg : (Tryz.prog.info? 49).map (fun i => (i.zero, i.size, i.bytes)) = some (some (.agg #[.bool false, .int .i64 0, .slice none 0 0]), 3, 40) := by kernel_rfl
set_option maxRecDepth 100000 in
set_option maxHeartbeats 3200000 in
theorem copy_c (xs : List AArg) (v : Value) (w : World) (h : HasA w v xs) (hl : xs.length ≤ 6) (hL : ∀ a ∈ xs, a.l.length ≤ 60) :
    Calls Tryz.prog 18 #[v] w fun e w' => ∃ v', e = .returned v' ∧ HasA w' v' xs ∧ Below w.heap.size w w' := by
  obtain ⟨p, c, rfl, h⟩ := h
  obtain ⟨n, hn⟩ : ∃ n, n = xs.length := ⟨_, rfl⟩
  rw [← hn]
  rw [← hn] at hl
  by_cases h0 : xs = []
  · have hn0 : n = 0 := by rw [hn, h0]; rfl
    have hx : Hid (xs = []) := h0
    subst hn0
    clear h h0 hn hl hL
    go_enter Tryz.func18, Tryz.ntmps18
    go_wp2
    go_loop [3, 4] (fun o i => o = .slice none 0 0 ∧ i = .int .i64 0) (fun _ _ => 0)
    case atStart => exact ⟨rfl, rfl⟩
    case round =>
      obtain ⟨rfl, rfl⟩ := hrel
      go_wp2
      go_ret
      exact ⟨_, rfl, ⟨none, 0, by rw [hx.out]; rfl, fun h => absurd hx.out h⟩, Below.refl _ _⟩
  · obtain ⟨b, o, rfl, hq⟩ := h h0
    have hn' : Hid (n = xs.length) := hn
    rw [← hn] at hq
    have hq' : Hid _ := hq
    have hL' : Hid (∀ a ∈ xs, a.l.length ≤ 60) := hL
    obtain ⟨i0, hi0, hz0, hz1, hz2⟩ := info_parts infoInt
    obtain ⟨i1, hi1, hy0, hy1, hy2⟩ := info_parts infoArg
    clear h h0 hn hq hL
    go_enter Tryz.func18, Tryz.ntmps18
    go_wp2
    go_loopw [3, 4] (fun v i wr => ∃ (k : Nat) (vo : Value), k ≤ n ∧ vo = v ∧ i = .int .i64 k ∧ Cp w.heap.size wr v k xs ∧ Below w.heap.size w wr) (fun _ i _ => n - (intOf i).toNat)
    case atStart => exact ⟨0, _, Nat.zero_le _, rfl, rfl, Cp.zero _ _ _, Below.refl _ _⟩
    case round =>
      obtain ⟨k, vo, hk, rfl, rfl, hcp, hB⟩ := hrel
      by_cases hkn : k < n
      · obtain ⟨lv, g0, g1, g2, hI, _⟩ := hq'.out k hkn
        have g0 := cell_below g0 hB (cell_lt g0)
        have g1 := cell_below g1 hB (cell_lt g1)
        have g2 := cell_below g2 hB (cell_lt g2)
        have hlk : (xs.getD k default).l.length ≤ 60 := hL'.out _ (by rw [List.getD_eq_getElem?_getD, List.getElem?_eq_getElem (by rw [← hn'.out]; exact hkn)]; exact List.getElem_mem _)
        obtain ⟨cs, hown, hj⟩ := hcp
        have hnx := fun w1 w2 w3 v' lv => Cp.next (w1 := w1) (w2 := w2) (w3 := w3) (v' := v') (lv := lv) hown hj
        have hbB : Hid (b < w.heap.size) := cell_lt (hq'.out k hkn).choose_spec.1
        have hIr := hI.below hB
        have hBr : Hid (Below w.heap.size w wr) := hB
        have hsz := hB.size
        have hbr : b < wr.heap.size := Nat.lt_of_lt_of_le hbB.out hB.size
        have hvb : vo.ownBlock ≠ some b := fun h => by have := (hown.lt b h).1; have := hbB.out; omega
        clear hj hB hI
        by_cases hl0 : (xs.getD k default).l = []
        · obtain ⟨p2, c2, hlv, hc⟩ := hIr
          subst hlv
          rw [hl0] at g2
          have hnx0 : ∀ w1 w2 w3 v', wr.grownBy w1 none → w1.grownBy w2 none → w3.ownsRow w.heap.size 49 3 v' (k + 1) (cs ++ [.bool (xs.getD k default).il, .int .i64 (xs.getD k default).n, .slice none 0 0]) → w2.grownBy w3 vo.ownBlock → Cp w.heap.size w3 v' (k + 1) xs :=
            fun w1 w2 w3 v' q1 q2 q3 q4 => hnx w1 w2 w3 v' (.slice none 0 0) q1 (by rw [hl0]; exact World.ownsRow_nil _ _ _ _) q2 q3 q4
          obtain ⟨il, hil⟩ : ∃ il, il = (xs.getD k default).il := ⟨_, rfl⟩
          obtain ⟨nn, hnn⟩ : ∃ nn, nn = (xs.getD k default).n := ⟨_, rfl⟩
          rw [← hil] at g0 hnx0
          rw [← hnn] at g1 hnx0
          have hnx' : Hid _ := hnx0
          rw [show ([] : List Int).length = 0 from rfl] at g2
          clear hil hnn hl0 hnx hc hnx0 hlk
          go_wp2_with fail
          go_region_held3 (fun w' => w'.cell? ⟨b, o + k * 3, none⟩ = some (.bool il) ∧ w'.cell? ⟨b, o + k * 3 + 1, none⟩ = some (.int .i64 nn) ∧ w'.cell? ⟨b, o + k * 3 + 2, none⟩ = some (.slice p2 0 c2))
            (first
              | go_keep
              | (go_split_ands
                 refine ⟨?_, ?_, ?_⟩
                 · (rw [hgrow3.cell_far _ (by simp; omega) (Ne.symm hvb)]; assumption)
                 · (rw [hgrow3.cell_far _ (by simp; omega) (Ne.symm hvb)]; assumption)
                 · (rw [hgrow3.cell_far _ (by simp; omega) (Ne.symm hvb)]; assumption)))
            (first
              | (refine step_append_zero (by rfl) _ _ _ (by rfl) 3 i0 Tryz.underlying37 hi0 p2 c2 (by rfl) (by rfl) ?_)
              | ((refine step_append_lies _ (by rfl) _ _ _ (by rfl) w.heap.size 49 i1 _ 3 40 Tryz.underlying22 hi1 hy0 hy1 hy2 rfl (by omega) vo k cs (by rfl) ((World.ownsRow.drew hown).alloc _) ⟨wr.heap.size, 0, none⟩ 1 1 [.bool il, .int .i64 nn, .slice none 0 0] (by rfl) (by rfl) (World.news_of_block (cs := #[.bool il, .int .i64 nn, .slice none 0 0]) (t := 49) (fr := (0, 0)) (heap_alloc_new wr.drew _)) (by simp [Value.oneCell']) (by omega) (by unfold maxLen; omega) (by omega) (by simp; omega) (wr.heap.size + 1) (by simp) ?_; intro g3 cap3 w3 hown3 hgrow3 hat3 hlt3)))
          go_wp2
          go_roundw
          case rel =>
            have hb3 : Below w.heap.size w w3 := ((hBr.out.drew.alloc (by simp; omega) _).grown hgrow3 (by simp; omega) (fun k h => (hown.lt k h).1))
            exact ⟨k + 1, _, by omega, rfl, by go_num, hnx'.out wr _ w3 _ ⟨rfl, rfl, rfl, Nat.le_refl _, fun _ _ _ => rfl⟩ (World.grownBy_alloc wr _ _) hown3 ⟨hgrow3.os, hgrow3.tape, hgrow3.output, hgrow3.size, hgrow3.block⟩, hb3⟩
          case measure => simp [intOf]; omega
        · obtain ⟨p2, c2, hlv, hc⟩ := hIr
          obtain ⟨lb, lo, rfl, hcc⟩ := hc hl0
          subst hlv
          obtain ⟨m, hm⟩ : ∃ m, m = (xs.getD k default).l.length := ⟨_, rfl⟩
          have hm0 : 0 < m := by rw [hm]; exact List.length_pos_iff.2 hl0
          obtain ⟨zs, hzs⟩ : ∃ zs, zs = (xs.getD k default).l.map (Value.int .i64) := ⟨_, rfl⟩
          have hzl : zs.length = m * 1 := by rw [hzs, hm]; simp
          have hzc : ∀ j u, zs[j]? = some u → wr.cell? ((⟨lb, lo, none⟩ : Addr).add j) = some u := by
            intro j u hu
            rw [hzs, List.getElem?_map] at hu
            obtain ⟨z, hz, rfl⟩ := Option.map_eq_some_iff.1 hu
            have hj := (List.getElem?_eq_some_iff.1 hz).1
            rw [Addr.add_lit, hcc j hj, List.getD_eq_getElem?_getD, hz]; rfl
          have hzo : ∀ u ∈ zs, u.oneCell' = true := by
            intro u hu
            rw [hzs] at hu
            obtain ⟨z, _, rfl⟩ := List.mem_map.1 hu
            rfl
          rw [← hm] at g2 hlk hnx
          rw [← hzs] at hnx
          obtain ⟨il, hil⟩ : ∃ il, il = (xs.getD k default).il := ⟨_, rfl⟩
          obtain ⟨nn, hnn⟩ : ∃ nn, nn = (xs.getD k default).n := ⟨_, rfl⟩
          rw [← hil] at g0 hnx
          rw [← hnn] at g1 hnx
          have hnx' : Hid _ := hnx
          clear hil hnn hzs hm hl0 hnx hc hcc
          go_wp2_with fail
          go_region_held3 (fun w' => w'.cell? ⟨b, o + k * 3, none⟩ = some (.bool il) ∧ w'.cell? ⟨b, o + k * 3 + 1, none⟩ = some (.int .i64 nn) ∧ w'.cell? ⟨b, o + k * 3 + 2, none⟩ = some (.slice (some ⟨lb, lo, none⟩) m c2))
            (first
              | go_keep
              | (go_split_ands
                 refine ⟨?_, ?_, ?_⟩
                 · (rw [hgrow1.cell_far _ (by simp; omega) (by simp [Value.ownBlock])]; assumption)
                 · (rw [hgrow1.cell_far _ (by simp; omega) (by simp [Value.ownBlock])]; assumption)
                 · (rw [hgrow1.cell_far _ (by simp; omega) (by simp [Value.ownBlock])]; assumption))
              | (go_split_ands
                 refine ⟨?_, ?_, ?_⟩
                 · (rw [hgrow3.cell_far _ (by have := hgrow1.size; simp at this ⊢; omega) (Ne.symm hvb)]; assumption)
                 · (rw [hgrow3.cell_far _ (by have := hgrow1.size; simp at this ⊢; omega) (Ne.symm hvb)]; assumption)
                 · (rw [hgrow3.cell_far _ (by have := hgrow1.size; simp at this ⊢; omega) (Ne.symm hvb)]; assumption)))
            (first
              | ((refine step_append_lies _ (by rfl) _ _ _ (by rfl) w.heap.size 3 i0 _ 1 8 Tryz.underlying37 hi0 hz0 hz1 hz2 rfl (by omega) (.slice none 0 0) 0 [] (by rfl) (World.ownsRow_nil _ _ _ _) ⟨lb, lo, none⟩ m c2 zs (by rfl) hzl hzc hzo hm0 (by unfold maxLen; omega) (by omega) (by simp; omega) wr.heap.size (by simp) ?_; intro gg cap w1 hown1 hgrow1 hat1 hlt1; simp only [Nat.zero_add, List.nil_append] at hown1; simp only [Nat.zero_add]))
              | ((refine step_append_lies _ (by rfl) _ _ _ (by rfl) w.heap.size 49 i1 _ 3 40 Tryz.underlying22 hi1 hy0 hy1 hy2 rfl (by omega) vo k cs (by rfl) ((own_none (w := wr.drew) hown hgrow1).alloc _) ⟨w1.heap.size, 0, none⟩ 1 1 [.bool il, .int .i64 nn, .slice (some ⟨gg, 0, none⟩) m cap] (by rfl) (by rfl) (World.news_of_block (cs := #[.bool il, .int .i64 nn, .slice (some ⟨gg, 0, none⟩) m cap]) (t := 49) (fr := (0, 0)) (heap_alloc_new w1 _)) (by simp [Value.oneCell']) (by omega) (by unfold maxLen; omega) (by omega) (by have := hgrow1.size; simp at this ⊢; omega) (w1.heap.size + 1) (by simp) ?_; intro g3 cap3 w3 hown3 hgrow3 hat3 hlt3)))
          go_wp2
          go_roundw
          case rel =>
            have hb3 : Below w.heap.size w w3 := (((hBr.out.drew.grown hgrow1 (by simp; omega) (fun k h => by cases h)).alloc (by have := hgrow1.size; simp at this; omega) _).grown hgrow3 (by have := hgrow1.size; simp at this ⊢; omega) (fun k h => (hown.lt k h).1))
            exact ⟨k + 1, _, by omega, rfl, by go_num, hnx'.out w1 _ w3 _ _ ⟨hgrow1.os, hgrow1.tape, hgrow1.output, hgrow1.size, hgrow1.block⟩ hown1 (World.grownBy_alloc _ _ _) hown3 hgrow3, hb3⟩
          case measure => simp [intOf]; omega
      · obtain rfl : k = n := by omega
        go_wp2
        go_ret
        refine ⟨_, rfl, ?_, hB⟩
        rw [hn'.out] at hcp
        exact hcp.has hL'.out
end Lb
end Go.Proofs
namespace Go.Proofs
open Go.RowKit
namespace Lb
theorem HasA.below {w w':World} {v:Value} {xs:List AArg} (h:HasA w v xs) (hB:Below w.heap.size w w'):HasA w' v xs:=by
 obtain ⟨p,c,rfl,h⟩:=h
 refine ⟨p,c,rfl,fun h0=>?_⟩
 obtain ⟨b,o,hp,hq⟩:=h h0
 refine ⟨b,o,hp,fun i hi=>?_⟩
 obtain ⟨lv,g0,g1,g2,hI,hL⟩:=hq i hi
 exact ⟨lv,cell_below g0 hB (cell_lt g0),cell_below g1 hB (cell_lt g1),cell_below g2 hB (cell_lt g2),hI.below hB,hL⟩
set_option maxRecDepth 100000 in
theorem own_c (s:ByteArray) (xs:List AArg) (v:Value) (w:World) (h:HasA w v xs) (hl:xs.length≤6) (hL:∀ a∈xs,a.l.length≤60) :
 Calls Tryz.prog 7 #[.agg #[.string s,v]] w fun e w'=>∃ v',e = .returned (.tuple #[.string s,v'])∧HasA w' v' xs∧Below w.heap.size w w':=by
 have hB:Below w.heap.size w (w.alloc (.cells #[.string s,v] 24)):=(Below.refl _ _).alloc (Nat.le_refl _) _
 have k0:(w.alloc (.cells #[.string s,v] 24)).cell? ⟨w.heap.size,0,none⟩=some (.string s):=by rw [cells_new]; rfl
 have k1:(w.alloc (.cells #[.string s,v] 24)).cell? ⟨w.heap.size,1,none⟩=some v:=by rw [cells_new]; rfl
 have hz:=size_new w (.cells #[.string s,v] 24)
 have hc:=fun w1 (hw:Below (w.alloc (.cells #[.string s,v] 24)).heap.size (w.alloc (.cells #[.string s,v] 24)) w1)=>copy_c xs v w1 ((h.below hB).below hw) hl hL
 have hk:∀ w2 w3,Below (w.alloc (.cells #[.string s,v] 24)).heap.size (w.alloc (.cells #[.string s,v] 24)) w2→Below w2.heap.size w2 w3→w3.cell? ⟨w.heap.size,0,none⟩=some (.string s)∧w3.cell? ⟨w.heap.size,1,none⟩=some v :=
  fun w2 w3 b1 b2=>⟨cell_below (cell_below k0 b1 (by omega)) b2 (by have:=b1.size; omega),cell_below (cell_below k1 b1 (by omega)) b2 (by have:=b1.size; omega)⟩
 have hB':Hid _:=hB
 have hc':Hid _:=hc
 have hk':Hid _:=hk
 clear h hl hL hB hc hz hk
 go_enter Tryz.func7,Tryz.ntmps7
 go_wp2
 go_region_held3 (fun w'=>w'.cell? ⟨w.heap.size,0,none⟩=some (.string s)∧w'.cell? ⟨w.heap.size,1,none⟩=some v)
  (first | go_keep | (exact hk'.out _ _ (by exact below_drewN (n:=1) (Below.refl _ _)) hB2))
  ((go_at_call 18; refine (hc'.out _ (by exact below_drewN (n:=1) (Below.refl _ _))).mono ?_; rintro e w' ⟨v',rfl,hA,hB2⟩))
 go_wp2
 go_ret2
 have hb:=hB'.out
 exact ⟨v',rfl,hA,hb.trans (((below_drewN (n:=1) (Below.refl _ _)).trans hB2).mono hb.size)⟩
end Lb
end Go.Proofs
namespace Go.Proofs
open Go.RowKit
namespace Lb
def fitsA (pr:ByteArray) (a:AArg):Bool:=fitsV a.il a.n a.l.length pr
def fitsAll (prs:List ByteArray) (xs:List AArg):Bool:=(List.range xs.length).all fun i=>fitsA (prs.getD i ByteArray.empty) (xs.getD i default)
def badA (a:AArg):Bool:=!isNum a.n || badNums a.l
def argErr (prs:List ByteArray) (xs:List AArg):Int :=
 if xs.length≠prs.length then 2 else if fitsAll prs xs=false then 2 else if xs.any badA=true then 3 else if xs.any (fun a=>decide (40 < a.l.length))=true then 5 else 0
theorem fitsAll_false {prs:List ByteArray} {xs:List AArg} {i:Nat} (hi:i < xs.length) (h:fitsA (prs.getD i ByteArray.empty) (xs.getD i default)=false):fitsAll prs xs=false:=by
 unfold fitsAll
 rw [List.all_eq_false]
 exact ⟨i,List.mem_range.2 hi,by rw [h]; decide⟩
theorem fitsAll_true {prs:List ByteArray} {xs:List AArg} (h:∀ i,i < xs.length→fitsA (prs.getD i ByteArray.empty) (xs.getD i default)=true):fitsAll prs xs=true:=by
 unfold fitsAll
 rw [List.all_eq_true]
 exact fun i hi=>h i (List.mem_range.1 hi)
set_option maxRecDepth 100000 in
set_option maxHeartbeats 3200000 in
theorem checkArgs_c (prs:List ByteArray) (xs:List AArg) (d0 d1:ByteArray) (pv rv cv v:Value) (w:World) (hp:HasS w pv prs) (h:HasA w v xs) (hl:xs.length≤6) (hpl:prs.length≤6) :
 Calls Tryz.prog 34 #[.agg #[.string d0,.string d1,pv,rv,cv],v] w fun e w'=>e = .returned (.int .i64 (argErr prs xs))∧Below w.heap.size w w':=by
 have hA:Hid (HasA w v xs):=h
 obtain ⟨pp,pc,rfl,hp2⟩:=hp
 obtain ⟨p,c,rfl,h2⟩:=h
 obtain ⟨n,hn⟩:∃ n,n=xs.length:=⟨_,rfl⟩
 obtain ⟨m,hm⟩:∃ m,m=prs.length:=⟨_,rfl⟩
 rw [←hn] at hA hl ⊢
 rw [←hm] at hpl ⊢
 have hB:Below w.heap.size w (w.alloc (.cells #[.string d0,.string d1,.slice pp m pc,rv,cv] 110)):=(Below.refl _ _).alloc (Nat.le_refl _) _
 have hz:=size_new w (.cells #[.string d0,.string d1,.slice pp m pc,rv,cv] 110)
 have k2:(w.alloc (.cells #[.string d0,.string d1,.slice pp m pc,rv,cv] 110)).cell? ⟨w.heap.size,2,none⟩=some (.slice pp m pc):=by rw [cells_new]; rfl
 by_cases hnm:n=m
 · have hn':Hid (n=xs.length):=hn
   have hm':Hid (m=prs.length):=hm
   have hB':Hid _:=hB
   have hz':Hid _:=hz
   have hk2:Hid (∀ wr,Below (w.alloc (.cells #[.string d0,.string d1,.slice pp m pc,rv,cv] 110)).heap.size (w.alloc (.cells #[.string d0,.string d1,.slice pp m pc,rv,cv] 110)) wr→wr.cell? ⟨w.heap.size,2,none⟩=some (.slice pp m pc)):=fun wr hb=>cell_below k2 hb (by omega)
   rw [←hn] at h2
   rw [←hm] at hp2
   have h2':Hid _:=h2
   have hp2':Hid _:=hp2
   subst hnm
   clear hn hm hB hz h2 hp2
   go_enter Tryz.func34,Tryz.ntmps34
   go_wp2
   go_loopw [15] (fun i wr=>∃ k:Nat,k≤n∧i = .int .i64 k∧(∀ j,j < k→fitsA (prs.getD j ByteArray.empty) (xs.getD j default)=true)∧Below (w.alloc (.cells #[.string d0,.string d1,.slice pp n pc,rv,cv] 110)).heap.size (w.alloc (.cells #[.string d0,.string d1,.slice pp n pc,rv,cv] 110)) wr) (fun i _=>n - (intOf i).toNat)
   case atStart=>exact ⟨0,Nat.zero_le _,rfl,fun j h=>absurd h (Nat.not_lt_zero _),Below.refl _ _⟩
   case round =>
    obtain ⟨k,hk,rfl,hall,hBr⟩:=hrel
    by_cases hkn:k < n
    · obtain ⟨b,o,rfl,hq⟩:=h2'.out (fun h=>by have:=hn'.out; rw [h] at this; simp at this; omega)
      obtain ⟨pb,po,rfl,hpq⟩:=hp2'.out (fun h=>by have:=hm'.out; rw [h] at this; simp at this; omega)
      obtain ⟨lv,g0,g1,g2,hI,hL⟩:=hq k hkn
      have gp:=hpq k hkn
      have hBw:Below w.heap.size w wr:=hB'.out.trans (hBr.mono hB'.out.size)
      have g0:=cell_below g0 hBw (cell_lt g0)
      have g1:=cell_below g1 hBw (cell_lt g1)
      have g2:=cell_below g2 hBw (cell_lt g2)
      have gp:=cell_below gp hBw (cell_lt gp)
      have gd:=hk2.out wr hBr
      obtain ⟨lp,lc,rfl,_⟩:=hI
      have hfit:∀ x,fitsV (xs.getD k default).il (xs.getD k default).n (xs.getD k default).l.length (prs.getD k ByteArray.empty)=x→fitsA (prs.getD k ByteArray.empty) (xs.getD k default)=x:=fun x h=>h
      obtain ⟨ll,hll⟩:∃ ll,ll=(xs.getD k default).l.length:=⟨_,rfl⟩
      obtain ⟨il,hil⟩:∃ il,il=(xs.getD k default).il:=⟨_,rfl⟩
      obtain ⟨nn,hnn⟩:∃ nn,nn=(xs.getD k default).n:=⟨_,rfl⟩
      obtain ⟨ty,hty⟩:∃ ty,ty=prs.getD k ByteArray.empty:=⟨_,rfl⟩
      rw [←hll] at g2 hL
      rw [←hil] at g0
      rw [←hnn] at g1
      rw [←hty] at gp
      rw [←hll,← hil,← hnn,← hty] at hfit
      obtain ⟨fx,hfx⟩:∃ fx,fx=fitsV il nn ll ty:=⟨_,rfl⟩
      have hfit':Hid (fitsA (prs.getD k ByteArray.empty) (xs.getD k default)=fx):=by show _=_; rw [←hty]; exact hfit _ hfx.symm
      have hc:=fun w2=>fits_c il nn ll lc lp ty w2 hL
      rw [←hfx] at hc
      have hc':Hid _:=hc
      have hxl:k < xs.length:=by rw [←hn'.out]; exact hkn
      have hal:Below wr.heap.size wr (wr.alloc (.cells #[.bool il,.int .i64 nn,.slice lp ll lc] 49)):=(Below.refl _ _).alloc (Nat.le_refl _) _
      have hsz:=size_new wr (.cells #[.bool il,.int .i64 nn,.slice lp ll lc] 49)
      have t0:(wr.alloc (.cells #[.bool il,.int .i64 nn,.slice lp ll lc] 49)).cell? ⟨wr.heap.size,0,none⟩=some (.bool il):=by rw [cells_new]; rfl
      have t1:(wr.alloc (.cells #[.bool il,.int .i64 nn,.slice lp ll lc] 49)).cell? ⟨wr.heap.size,1,none⟩=some (.int .i64 nn):=by rw [cells_new]; rfl
      have t2:(wr.alloc (.cells #[.bool il,.int .i64 nn,.slice lp ll lc] 49)).cell? ⟨wr.heap.size,2,none⟩=some (.slice lp ll lc):=by rw [cells_new]; rfl
      have gd':=cell_below gd hal (cell_lt gd)
      have gp':=cell_below gp hal (cell_lt gp)
      have hlt1:=cell_lt gd
      have hlt2:=cell_lt gp
      have hk3:Hid (∀ w2 w3,Below (wr.alloc (.cells #[.bool il,.int .i64 nn,.slice lp ll lc] 49)).heap.size (wr.alloc (.cells #[.bool il,.int .i64 nn,.slice lp ll lc] 49)) w2→Below w2.heap.size w2 w3 →
       w3.cell? ⟨wr.heap.size,0,none⟩=some (.bool il)∧w3.cell? ⟨wr.heap.size,1,none⟩=some (.int .i64 nn)∧w3.cell? ⟨wr.heap.size,2,none⟩=some (.slice lp ll lc)∧w3.cell? ⟨w.heap.size,2,none⟩=some (.slice (some ⟨pb,po,none⟩) n pc)∧w3.cell? ⟨pb,po+k,none⟩=some (.string ty)) :=
       fun w2 w3 b1 b2=>⟨cell_below (cell_below t0 b1 (by omega)) b2 (by have:=b1.size; omega),cell_below (cell_below t1 b1 (by omega)) b2 (by have:=b1.size; omega),cell_below (cell_below t2 b1 (by omega)) b2 (by have:=b1.size; omega),
        cell_below (cell_below gd' b1 (by omega)) b2 (by have:=b1.size; omega),cell_below (cell_below gp' b1 (by omega)) b2 (by have:=b1.size; omega)⟩
      have hal':Hid _:=hal
      have hBr':Hid _:=hBr
      have hall':Hid _:=hall
      clear hq hpq k2 hfit hfx hc hll hil hnn hty hal hsz hall hBw hBr hlt1 hlt2
      go_wp2_with fail
      go_region_held3 (fun w'=>w'.cell? ⟨wr.heap.size,0,none⟩=some (.bool il)∧w'.cell? ⟨wr.heap.size,1,none⟩=some (.int .i64 nn)∧w'.cell? ⟨wr.heap.size,2,none⟩=some (.slice lp ll lc)∧w'.cell? ⟨w.heap.size,2,none⟩=some (.slice (some ⟨pb,po,none⟩) n pc)∧w'.cell? ⟨pb,po+k,none⟩=some (.string ty))
       (first | go_keep | (exact hk3.out _ _ (by exact below_drewN (n:=1) (Below.refl _ _)) hB2))
       ((go_at_call 71; refine (hc'.out _).mono ?_; rintro e w' ⟨rfl,hB2⟩))
      have hb2:Below wr.heap.size wr w':=hal'.out.trans (((below_drewN (n:=1) (Below.refl _ _)).trans hB2).mono hal'.out.size)
      have hb3:=hBr'.out.trans (hb2.mono hBr'.out.size)
      cases fx with
      | true =>
       go_wp2
       go_roundw
       case rel =>
        refine ⟨k+1,by omega,by go_num,fun j hj=>?_,hb3⟩
        by_cases he:j=k
        · subst he; exact hfit'.out
        · exact hall'.out j (by omega)
       case measure=>simp [intOf]; omega
      | false =>
       have hs:Hid (argErr prs xs=2):=by
        show _=_
        unfold argErr
        rw [if_neg (by rw [←hn'.out,← hm'.out]; simp),if_pos (fitsAll_false hxl hfit'.out)]
       go_wp2
       go_ret
       exact ⟨by rw [hs.out]; rfl,hB'.out.trans (hb3.mono hB'.out.size)⟩
    · have hfa:fitsAll prs xs=true:=fitsAll_true fun i hi=>hall i (by have:=hn'.out; omega)
      have hBw:Below w.heap.size w wr:=hB'.out.trans (hBr.mono hB'.out.size)
      have hc1:=fun w2 (hb:Below wr.heap.size wr w2)=>any_bad xs _ w2 ((hA.out.below hBw).below hb) (by have:=hn'.out; omega)
      have hc2:=fun w2 (hb:Below wr.heap.size wr w2)=>any_long xs _ w2 ((hA.out.below hBw).below hb) (by have:=hn'.out; omega)
      obtain ⟨x1,hx1⟩:∃ x1,x1=xs.any badA:=⟨_,rfl⟩
      obtain ⟨x2,hx2⟩:∃ x2,x2=xs.any (fun a=>decide (40 < a.l.length)):=⟨_,rfl⟩
      rw [show (xs.any fun a=>!isNum a.n || badNums a.l)=x1 from hx1.symm] at hc1
      rw [←hx2] at hc2
      have hs:Hid (argErr prs xs=if x1=true then 3 else if x2=true then 5 else 0):=by
       show _=_
       unfold argErr
       rw [if_neg (by rw [←hn'.out,← hm'.out]; simp),if_neg (by rw [hfa]; simp),← hx1,← hx2]
      have hc1':Hid _:=hc1
      have hc2':Hid _:=hc2
      have hBw':Hid _:=hBw
      clear hc1 hc2 hx1 hx2 hfa hall hBr k2 hBw
      cases x1 with
      | true =>
       go_wp2_with (go_at_call 72; refine (hc1'.out _ (Below.refl _ _)).mono ?_; rintro e w' ⟨rfl,hb1⟩)
       go_ret
       exact ⟨by rw [hs.out]; rfl,hBw'.out.trans (hb1.mono hBw'.out.size)⟩
      | false =>
       cases x2 with
       | true =>
        go_wp2_with (go_at_call 72; first | (refine (hc1'.out _ (Below.refl _ _)).mono ?_; rintro e w' ⟨rfl,hb1⟩) | (refine (hc2'.out _ (by assumption)).mono ?_; rintro e w'' ⟨rfl,hb2⟩))
        go_ret
        exact ⟨by rw [hs.out]; rfl,hBw'.out.trans ((hb1.trans (hb2.mono hb1.size)).mono hBw'.out.size)⟩
       | false =>
        go_wp2_with (go_at_call 72; first | (refine (hc1'.out _ (Below.refl _ _)).mono ?_; rintro e w' ⟨rfl,hb1⟩) | (refine (hc2'.out _ (by assumption)).mono ?_; rintro e w'' ⟨rfl,hb2⟩))
        go_ret
        exact ⟨by rw [hs.out]; rfl,hBw'.out.trans ((hb1.trans (hb2.mono hb1.size)).mono hBw'.out.size)⟩
 · have hs:Hid (argErr prs xs=2):=by show _=_; unfold argErr; rw [if_pos (by rw [←hn,← hm]; exact hnm)]
   have hne:¬ (n:Int)=(m:Int):=by omega
   have hB':Hid _:=hB
   clear hn hm hA h2 hp2 hB hz
   go_enter Tryz.func34,Tryz.ntmps34
   go_wp2
   go_ret
   exact ⟨by rw [hs.out]; rfl,hB'.out⟩
end Lb
end Go.Proofs
namespace Go.Proofs
open Go.RowKit
namespace Lb
def Ap (a b:Value):Prop:=a.ownBlock=none∨a.ownBlock≠b.ownBlock
theorem Ap.symm {a b:Value} (h:Ap a b):Ap b a:=by
 rcases h with h | h
 · cases hb:b.ownBlock with
   | none=>exact .inl hb
   | some g=>right; rw [hb,h]; intro h; cases h
 · exact .inr (Ne.symm h)
structure Of (B Bp tp:Nat) (rest:List Value) (w:World) (r pa gi Lv Cv:Value) (R Pa Gi:List ByteArray) (L:List (List Int)):Prop where
 hp:w.heap[Bp]? = some (.cells (Lv :: Cv :: rest).toArray tp (0,0))
 or:w.ownsRow B 9 1 r R.length (R.map Value.string)
 op:w.ownsRow B 9 1 pa Pa.length (Pa.map Value.string)
 og:w.ownsRow B 9 1 gi Gi.length (Gi.map Value.string)
 oL:∃ lvs,w.ownsRow B 37 1 Lv L.length lvs∧∀ j,j < L.length→∃ lv,lvs[j]? = some lv∧w.ownsRow B 3 1 lv (L.getD j []).length ((L.getD j []).map (Value.int .i64))
 oC:w.ownsRow B 4 1 Cv L.length (List.replicate L.length (Value.bool true))
 rp:Ap r pa
 rg:Ap r gi
 pg:Ap pa gi
variable {B Bp tp:Nat} {rest:List Value} {w w' w2 w3:World} {r pa gi Lv Cv v':Value} {R Pa Gi:List ByteArray} {L:List (List Int)} {x:ByteArray}
theorem grown_below (h:Below w.heap.size w w'):w.grownBy w' none:=⟨h.os,h.tape,h.output,h.size,fun k hk _=>h.block k hk⟩
theorem row_keep {o:Obj} {b:Nat} {row:Option Nat} (h:w.heap[b]? = some o) (hg:w.grownBy w' row) (hne:some b≠row):w'.heap[b]? = some o:=by
 rw [hg.block b (Array.getElem?_eq_some_iff.1 h).1 hne]; exact h
theorem Of.quiet (h:Of B Bp tp rest w r pa gi Lv Cv R Pa Gi L) (hg:w.grownBy w' none):Of B Bp tp rest w' r pa gi Lv Cv R Pa Gi L:=by
 obtain ⟨h1,h2,h3,h4,⟨lvs,h5,h6⟩,h7,h8,h9,h10⟩:=h
 exact ⟨row_keep h1 hg (by simp),own_none h2 hg,own_none h3 hg,own_none h4 hg,⟨lvs,own_none h5 hg,fun j hj=>let ⟨lv,a,b⟩:=h6 j hj; ⟨lv,a,own_none b hg⟩⟩,own_none h7 hg,h8,h9,h10⟩
theorem own_ne9 {b2 s2 n2:Nat} {e2:TypeId} {v2:Value} {x2:List Value} {b1 n1:Nat} {v1:Value} {x1:List Value} (h1:w.ownsRow b1 9 1 v1 n1 x1) (h2:w.ownsRow b2 e2 s2 v2 n2 x2) (he:e2≠9):v2.ownBlock=none∨v2.ownBlock≠v1.ownBlock:=own_ne h2 h1 he
theorem bp_ne {b1 n1 s e:Nat} {v1:Value} {x1:List Value} {cs:Array Value} (hp:w.heap[Bp]? = some (.cells cs tp (0,0))) (h1:w.ownsRow b1 e s v1 n1 x1) (ht:tp≠e):some Bp≠v1.ownBlock:=by
 intro h
 rcases h1.2 with ⟨rfl,_⟩ | ⟨g1,c1,cur1,rfl,_,hg1,_⟩
 · cases h
 · have h:Bp=g1:=by simpa [Value.ownBlock] using h
   subst h
   rw [hp] at hg1
   cases hg1
   exact ht rfl
theorem ap_new {b e s n:Nat} {u:Value} {xs:List Value} {v:Value} {g c m:Nat} (h:w.ownsRow b e s u n xs) (hg:v.ownBlock=some g∨g=w.heap.size) (ha:Ap v u):Ap (.slice (some ⟨g,0,none⟩) m c) u:=by
 right
 intro he
 have he:some g=u.ownBlock:=by simpa [Value.ownBlock] using he
 rcases hg with hg | hg
 · rcases ha with ha | ha
   · rw [ha] at hg; cases hg
   · exact ha (by rw [hg,he])
 · have:=(h.lt g he.symm).2; omega
theorem map_snoc (l:List ByteArray) (x:ByteArray):(l ++ [x]).map Value.string=l.map Value.string ++ [.string x]:=by simp
theorem Of.app3 {g c:Nat} (h:Of B Bp tp rest w r pa gi Lv Cv R Pa Gi L) (ht:tp≠9) (o3:w3.ownsRow B 9 1 (.slice (some ⟨g,0,none⟩) (Gi.length+1) c) (Gi.length+1) (Gi.map Value.string ++ [.string x])) (g3:w.grownBy w3 gi.ownBlock)
 (hat:gi.ownBlock=some g∨g=w.heap.size):Of B Bp tp rest w3 r pa (.slice (some ⟨g,0,none⟩) (Gi.length+1) c) Lv Cv R Pa (Gi ++ [x]) L:=by
 obtain ⟨h1,h2,h3,h4,⟨lvs,h5,h6⟩,h7,h8,h9,h10⟩:=h
 refine ⟨row_keep h1 g3 (bp_ne h1 h4 ht),h2.kept g3 h9,h3.kept g3 h10,by rw [map_snoc]; simpa using o3,⟨lvs,h5.kept g3 (own_ne9 h4 h5 (by decide)),fun j hj=>let ⟨lv,a,b⟩:=h6 j hj; ⟨lv,a,b.kept g3 (own_ne9 h4 b (by decide))⟩⟩,h7.kept g3 (own_ne9 h4 h7 (by decide)),h8,?_,?_⟩
 · exact (ap_new h2 hat h9.symm).symm
 · exact (ap_new h3 hat h10.symm).symm
theorem Of.app2 {g c:Nat} (h:Of B Bp tp rest w r pa gi Lv Cv R Pa Gi L) (ht:tp≠9) (o3:w3.ownsRow B 9 1 (.slice (some ⟨g,0,none⟩) (Pa.length+1) c) (Pa.length+1) (Pa.map Value.string ++ [.string x])) (g3:w.grownBy w3 pa.ownBlock)
 (hat:pa.ownBlock=some g∨g=w.heap.size):Of B Bp tp rest w3 r (.slice (some ⟨g,0,none⟩) (Pa.length+1) c) gi Lv Cv R (Pa ++ [x]) Gi L:=by
 obtain ⟨h1,h2,h3,h4,⟨lvs,h5,h6⟩,h7,h8,h9,h10⟩:=h
 refine ⟨row_keep h1 g3 (bp_ne h1 h3 ht),h2.kept g3 h8,by rw [map_snoc]; simpa using o3,h4.kept g3 h10.symm,⟨lvs,h5.kept g3 (own_ne9 h3 h5 (by decide)),fun j hj=>let ⟨lv,a,b⟩:=h6 j hj; ⟨lv,a,b.kept g3 (own_ne9 h3 b (by decide))⟩⟩,h7.kept g3 (own_ne9 h3 h7 (by decide)),?_,h9,?_⟩
 · exact (ap_new h2 hat h8.symm).symm
 · exact ap_new h4 hat h10
theorem Of.app1 {g c:Nat} {ys:List ByteArray} (h:Of B Bp tp rest w r pa gi Lv Cv R Pa Gi L) (ht:tp≠9) (o3:w3.ownsRow B 9 1 (.slice (some ⟨g,0,none⟩) (R.length+ys.length) c) (R.length+ys.length) (R.map Value.string++ys.map Value.string)) (g3:w.grownBy w3 r.ownBlock)
 (hat:r.ownBlock=some g∨g=w.heap.size):Of B Bp tp rest w3 (.slice (some ⟨g,0,none⟩) (R.length+ys.length) c) pa gi Lv Cv (R++ys) Pa Gi L:=by
 obtain ⟨h1,h2,h3,h4,⟨lvs,h5,h6⟩,h7,h8,h9,h10⟩:=h
 refine ⟨row_keep h1 g3 (bp_ne h1 h2 ht),by simpa using o3,h3.kept g3 h8.symm,h4.kept g3 h9.symm,⟨lvs,h5.kept g3 (own_ne9 h2 h5 (by decide)),fun j hj=>let ⟨lv,a,b⟩:=h6 j hj; ⟨lv,a,b.kept g3 (own_ne9 h2 b (by decide))⟩⟩,h7.kept g3 (own_ne9 h2 h7 (by decide)),?_,?_,h10⟩
 · exact ap_new h3 hat h8
 · exact ap_new h4 hat h9
end Lb
end Go.Proofs
namespace Go.Proofs
open Go.RowKit
namespace Lb
variable {B Bp tp:Nat} {rest:List Value} {w w1 w2 w3 w4 w5:World} {r pa gi Lv Cv lv L' C':Value} {R Pa Gi:List ByteArray} {L:List (List Int)} {l:List Int}
theorem own_bp {b1 n1 s e:Nat} {v1:Value} {x1:List Value} {cs:Array Value} (hp:w.heap[Bp]? = some (.cells cs tp (0,0))) (h1:w.ownsRow b1 e s v1 n1 x1) (ht:tp≠e):v1.ownBlock=none∨v1.ownBlock≠some Bp:=by
 right; exact fun h=>bp_ne hp h1 ht h.symm
theorem Of.both {lvs:List Value} (h:Of B Bp tp rest w r pa gi Lv Cv R Pa Gi L) (ht9:tp≠9) (ht45:tp≠37) (ht4:tp≠4) (ht3:tp≠3)
 (hlv:w.ownsRow B 37 1 Lv L.length lvs) (hlj:∀ j,j < L.length→∃ lv,lvs[j]? = some lv∧w.ownsRow B 3 1 lv (L.getD j []).length ((L.getD j []).map (Value.int .i64)))
 (g1:w.grownBy w1 none) (o1:w1.ownsRow B 3 1 lv l.length (l.map (Value.int .i64))) (g2:w1.grownBy w2 none) (o3:w3.ownsRow B 37 1 L' (L.length+1) (lvs ++ [lv])) (g3:w2.grownBy w3 Lv.ownBlock)
 (g4:w3.grownBy w4 none) (o5:w5.ownsRow B 4 1 C' (L.length+1) (List.replicate L.length (Value.bool true) ++ [.bool true])) (g5:w4.grownBy w5 Cv.ownBlock) :
 Of B Bp tp rest ((w5.setCell ⟨Bp,0,none⟩ L').setCell ⟨Bp,1,none⟩ C') r pa gi L' C' R Pa Gi (L ++ [l]):=by
 obtain ⟨h1,h2,h3,h4,_,h7,h8,h9,h10⟩:=h
 have a1:=row_keep (row_keep h1 g1 (by simp)) g2 (by simp)
 have a2:=own_none (own_none h2 g1) g2
 have a3:=own_none (own_none h3 g1) g2
 have a4:=own_none (own_none h4 g1) g2
 have aL:=own_none (own_none hlv g1) g2
 have aC:=own_none (own_none h7 g1) g2
 have o1:=own_none o1 g2
 have aj:∀ j,j < L.length→∃ lv,lvs[j]? = some lv∧w2.ownsRow B 3 1 lv (L.getD j []).length ((L.getD j []).map (Value.int .i64)):=fun j hj=>let ⟨u,p,q⟩:=hlj j hj; ⟨u,p,own_none (own_none q g1) g2⟩
 have b1:=row_keep (row_keep a1 g3 (bp_ne a1 aL ht45)) g4 (by simp)
 have b2:=own_none (a2.kept g3 (own_ne a2 aL (by decide))) g4
 have b3:=own_none (a3.kept g3 (own_ne a3 aL (by decide))) g4
 have b4:=own_none (a4.kept g3 (own_ne a4 aL (by decide))) g4
 have bC:=own_none (aC.kept g3 (own_ne aC aL (by decide))) g4
 have bl:=own_none (o1.kept g3 (own_ne o1 aL (by decide))) g4
 have bL:=own_none o3 g4
 have bj:∀ j,j < L.length→∃ lv,lvs[j]? = some lv∧w4.ownsRow B 3 1 lv (L.getD j []).length ((L.getD j []).map (Value.int .i64)):=fun j hj=>let ⟨u,p,q⟩:=aj j hj; ⟨u,p,own_none (q.kept g3 (own_ne q aL (by decide))) g4⟩
 have c1:=row_keep b1 g5 (bp_ne b1 bC ht4)
 have c2:=b2.kept g5 (own_ne b2 bC (by decide))
 have c3:=b3.kept g5 (own_ne b3 bC (by decide))
 have c4:=b4.kept g5 (own_ne b4 bC (by decide))
 have cL:=bL.kept g5 (own_ne bL bC (by decide))
 have cl:=bl.kept g5 (own_ne bl bC (by decide))
 have cj:∀ j,j < L.length→∃ lv,lvs[j]? = some lv∧w5.ownsRow B 3 1 lv (L.getD j []).length ((L.getD j []).map (Value.int .i64)):=fun j hj=>let ⟨u,p,q⟩:=bj j hj; ⟨u,p,q.kept g5 (own_ne q bC (by decide))⟩
 have s1:=heap_setCell_same w5 Bp 0 _ _ L' c1
 have s2:=heap_setCell_same _ Bp 1 _ _ C' s1
 have k:∀ {e s n:Nat} {v:Value} {xs:List Value},tp≠e→w5.ownsRow B e s v n xs→((w5.setCell ⟨Bp,0,none⟩ L').setCell ⟨Bp,1,none⟩ C').ownsRow B e s v n xs:=by
  intro e s n v xs he hh
  have q1:=ownsRow_setCell_other hh (a:=⟨Bp,0,none⟩) (fun h=>bp_ne c1 hh he h.symm) L'
  exact ownsRow_setCell_other q1 (a:=⟨Bp,1,none⟩) (fun h=>bp_ne c1 hh he h.symm) C'
 refine ⟨?_,k ht9 c2,k ht9 c3,k ht9 c4,⟨lvs ++ [lv],by simpa using k ht45 cL,fun j hj=>?_⟩,by rw [List.length_append,List.length_singleton,List.replicate_succ']; exact k ht4 o5,h8,h9,h10⟩
 · rw [s2]; simp
 · have hll:lvs.length=L.length:=by have:=hlv.1; simpa using this
   by_cases hjl:j < L.length
   · obtain ⟨u,p,q⟩:=cj j hjl
     refine ⟨u,by rw [List.getElem?_append_left (by omega)]; exact p,?_⟩
     rw [show (L ++ [l]).getD j []=L.getD j [] by simp [List.getD_eq_getElem?_getD,List.getElem?_append_left hjl]]
     exact k ht3 q
   · have hjl:j=L.length:=by simp at hj; omega
     subst hjl
     refine ⟨lv,by rw [List.getElem?_append_right (by omega),hll,Nat.sub_self]; rfl,?_⟩
     rw [show (L ++ [l]).getD L.length []=l by simp [List.getD_eq_getElem?_getD]]
     exact k ht3 cl
end Lb
end Go.Proofs
