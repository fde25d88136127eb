/- PROVED HERE: a part (Wd) of the tied card of LibPrograms (floodgatelaw25): the call returns true and its argument reads as before. CONDITIONS: those of the given row and card alone. -/
import Derived.Test.YtlophehgfmdakaaGreatDoorWc
namespace Go.Proofs
open Go.RowKit
namespace Lb
theorem infoInt':(Tryz.prog.info? 3).map (fun i=>(i.zero,i.size,i.bytes))=some (some (.int .i64 0),1,8):=by kernel_rfl
set_option maxRecDepth 100000 in
set_option maxHeartbeats 6400000 in
theorem refArgs_c (prs:List ByteArray) (xs:List AArg) (d0 d1:ByteArray) (pv rv cv v:Value) (w:World) (hp:HasS w pv prs) (h:HasA w v xs) (hl:xs.length≤6) (hpl:prs.length≤6) (hL:∀ a∈xs,a.l.length≤60) :
 Calls Tryz.prog 10 #[.agg #[.string d0,.string d1,pv,rv,cv],v] w fun e w'=>e = .returned (.int .i64 (argErr prs xs))∧Below w.heap.size w w':=by
 have hA:Hid (HasA w v xs):=h
 have hL':Hid (∀ a∈xs,a.l.length≤60):=hL
 obtain ⟨pp,pc,rfl,hp2⟩:=hp
 obtain ⟨p,c,rfl,h2⟩:=h
 obtain ⟨n,hn⟩:∃ n,n=xs.length:=⟨_,rfl⟩
 obtain ⟨m,hm⟩:∃ m,m=prs.length:=⟨_,rfl⟩
 rw [←hn] at hA hl ⊢
 rw [←hm] at hpl ⊢
 have hB:Below w.heap.size w (w.alloc (.cells #[.string d0,.string d1,.slice pp m pc,rv,cv] 38)):=(Below.refl _ _).alloc (Nat.le_refl _) _
 have hz:=size_new w (.cells #[.string d0,.string d1,.slice pp m pc,rv,cv] 38)
 have k2:(w.alloc (.cells #[.string d0,.string d1,.slice pp m pc,rv,cv] 38)).cell? ⟨w.heap.size,2,none⟩=some (.slice pp m pc):=by rw [cells_new]; rfl
 by_cases hnm:n=m
 · have hn':Hid (n=xs.length):=hn
   have hm':Hid (m=prs.length):=hm
   have hB':Hid _:=hB
   have hz':Hid _:=hz
   have hk2:Hid (∀ wr,Below (w.alloc (.cells #[.string d0,.string d1,.slice pp m pc,rv,cv] 38)).heap.size (w.alloc (.cells #[.string d0,.string d1,.slice pp m pc,rv,cv] 38)) wr→wr.cell? ⟨w.heap.size,2,none⟩=some (.slice pp m pc)):=fun wr hb=>cell_below k2 hb (by omega)
   rw [←hn] at h2
   rw [←hm] at hp2
   have h2':Hid _:=h2
   have hp2':Hid _:=hp2
   subst hnm
   clear hn hm hB hz h2 hp2 hL
   go_enter Tryz.func10,Tryz.ntmps10
   go_wp2
   go_loopw [5] (fun i wr=>∃ k:Nat,k≤n∧i = .int .i64 k∧(∀ j,j < k→fitsA (prs.getD j ByteArray.empty) (xs.getD j default)=true)∧Below (w.alloc (.cells #[.string d0,.string d1,.slice pp n pc,rv,cv] 38)).heap.size (w.alloc (.cells #[.string d0,.string d1,.slice pp n pc,rv,cv] 38)) wr) (fun i _=>n - (intOf i).toNat)
   case atStart=>exact ⟨0,Nat.zero_le _,rfl,fun j h=>absurd h (Nat.not_lt_zero _),Below.refl _ _⟩
   case round =>
    obtain ⟨k,hk,rfl,hall,hBr⟩:=hrel
    by_cases hkn:k < n
    · obtain ⟨b,o,rfl,hq⟩:=h2'.out (fun h=>by have:=hn'.out; rw [h] at this; simp at this; omega)
      obtain ⟨pb,po,rfl,hpq⟩:=hp2'.out (fun h=>by have:=hm'.out; rw [h] at this; simp at this; omega)
      obtain ⟨lv,g0,g1,g2,hI,hLL⟩:=hq k hkn
      have gp:=hpq k hkn
      have hBw:Below w.heap.size w wr:=hB'.out.trans (hBr.mono hB'.out.size)
      have g0:=cell_below g0 hBw (cell_lt g0)
      have g1:=cell_below g1 hBw (cell_lt g1)
      have g2:=cell_below g2 hBw (cell_lt g2)
      have gp:=cell_below gp hBw (cell_lt gp)
      have gd:=hk2.out wr hBr
      obtain ⟨lp,lc,rfl,_⟩:=hI
      have hfit:∀ x,fitsV (xs.getD k default).il (xs.getD k default).n (xs.getD k default).l.length (prs.getD k ByteArray.empty)=x→fitsA (prs.getD k ByteArray.empty) (xs.getD k default)=x:=fun x h=>h
      obtain ⟨ll,hll⟩:∃ ll,ll=(xs.getD k default).l.length:=⟨_,rfl⟩
      obtain ⟨il,hil⟩:∃ il,il=(xs.getD k default).il:=⟨_,rfl⟩
      obtain ⟨nn,hnn⟩:∃ nn,nn=(xs.getD k default).n:=⟨_,rfl⟩
      obtain ⟨ty,hty⟩:∃ ty,ty=prs.getD k ByteArray.empty:=⟨_,rfl⟩
      rw [←hll] at g2 hLL
      rw [←hil] at g0
      rw [←hnn] at g1
      rw [←hty] at gp
      rw [←hll,← hil,← hnn,← hty] at hfit
      have hxl:k < xs.length:=by rw [←hn'.out]; exact hkn
      have hok:∀ (_:fitsV il nn ll ty=true),Hid (fitsA (prs.getD k ByteArray.empty) (xs.getD k default)=true):=fun h=>by show _=_; rw [←hty]; exact hfit _ h
      have hno:∀ (_:fitsV il nn ll ty=false),Hid (argErr prs xs=2):=fun h=>by
       show _=_
       unfold argErr
       rw [if_neg (by rw [←hn'.out,← hm'.out]; simp),if_pos (fitsAll_false hxl (by rw [←hty]; exact hfit _ h))]
      have hi:intB.toList = [105,110,116]:=by decide +kernel
      have hBr':Hid _:=hBr
      have hall':Hid _:=hall
      clear hq hpq k2 hfit hll hil hnn hty hall hBw hBr
      cases hty:(ty.toList == [105,110,116]) with
      | true =>
       cases il with
       | true =>
        have hs:=hno (by unfold fitsV; rw [hi,hty]; rfl)
        have hal:Below wr.heap.size wr (wr.alloc (.cells #[.bool true,.int .i64 nn,.slice lp ll lc] 60)):=(Below.refl _ _).alloc (Nat.le_refl _) _
        have gd':=cell_below gd hal (cell_lt gd)
        have gp':=cell_below gp hal (cell_lt gp)
        have t0:(wr.alloc (.cells #[.bool true,.int .i64 nn,.slice lp ll lc] 60)).cell? ⟨wr.heap.size,0,none⟩=some (.bool true):=by rw [cells_new]; rfl
        have t1:(wr.alloc (.cells #[.bool true,.int .i64 nn,.slice lp ll lc] 60)).cell? ⟨wr.heap.size,1,none⟩=some (.int .i64 nn):=by rw [cells_new]; rfl
        have t2:(wr.alloc (.cells #[.bool true,.int .i64 nn,.slice lp ll lc] 60)).cell? ⟨wr.heap.size,2,none⟩=some (.slice lp ll lc):=by rw [cells_new]; rfl
        have hal':Hid _:=hal
        clear hal
        clear hok hno
        go_wp2
        go_quiet (fail)
        go_wp2
        go_ret
        exact ⟨by rw [hs.out]; rfl,hB'.out.trans ((hBr'.out.trans ((below_drewN hal'.out).mono hBr'.out.size)).mono hB'.out.size)⟩
       | false =>
        by_cases hk0:ll=0
        · subst hk0
          have hs:=hok (by unfold fitsV; rw [hi,hty]; rfl)
          have hal:Below wr.heap.size wr (wr.alloc (.cells #[.bool false,.int .i64 nn,.slice lp 0 lc] 60)):=(Below.refl _ _).alloc (Nat.le_refl _) _
          have gd':=cell_below gd hal (cell_lt gd)
          have gp':=cell_below gp hal (cell_lt gp)
          have t0:(wr.alloc (.cells #[.bool false,.int .i64 nn,.slice lp 0 lc] 60)).cell? ⟨wr.heap.size,0,none⟩=some (.bool false):=by rw [cells_new]; rfl
          have t1:(wr.alloc (.cells #[.bool false,.int .i64 nn,.slice lp 0 lc] 60)).cell? ⟨wr.heap.size,1,none⟩=some (.int .i64 nn):=by rw [cells_new]; rfl
          have t2:(wr.alloc (.cells #[.bool false,.int .i64 nn,.slice lp 0 lc] 60)).cell? ⟨wr.heap.size,2,none⟩=some (.slice lp 0 lc):=by rw [cells_new]; rfl
          have hal':Hid _:=hal
          clear hal
          clear hok hno
          go_wp2
          go_quiet (fail)
          go_wp2
          go_roundw
          case rel =>
           refine ⟨k+1,by omega,by go_num,fun j hj=>?_,by exact hBr'.out.trans ((below_drewN hal'.out).mono hBr'.out.size)⟩
           by_cases he:j=k
           · subst he; exact hs.out
           · exact hall'.out j (by omega)
          case measure=>simp [intOf]; omega
        · have hs:=hno (by unfold fitsV; rw [hi,hty]; simp [hk0])
          have hk1:(0:Int) < (ll:Int):=by omega
          have hal:Below wr.heap.size wr (wr.alloc (.cells #[.bool false,.int .i64 nn,.slice lp ll lc] 60)):=(Below.refl _ _).alloc (Nat.le_refl _) _
          have gd':=cell_below gd hal (cell_lt gd)
          have gp':=cell_below gp hal (cell_lt gp)
          have t0:(wr.alloc (.cells #[.bool false,.int .i64 nn,.slice lp ll lc] 60)).cell? ⟨wr.heap.size,0,none⟩=some (.bool false):=by rw [cells_new]; rfl
          have t1:(wr.alloc (.cells #[.bool false,.int .i64 nn,.slice lp ll lc] 60)).cell? ⟨wr.heap.size,1,none⟩=some (.int .i64 nn):=by rw [cells_new]; rfl
          have t2:(wr.alloc (.cells #[.bool false,.int .i64 nn,.slice lp ll lc] 60)).cell? ⟨wr.heap.size,2,none⟩=some (.slice lp ll lc):=by rw [cells_new]; rfl
          have hal':Hid _:=hal
          clear hal
          clear hok hno
          go_wp2
          go_quiet (fail)
          go_wp2
          go_ret
          exact ⟨by rw [hs.out]; rfl,hB'.out.trans ((hBr'.out.trans ((below_drewN hal'.out).mono hBr'.out.size)).mono hB'.out.size)⟩
      | false =>
       cases il with
       | false =>
        have hs:=hno (by unfold fitsV; rw [hi,hty]; rfl)
        have hal:Below wr.heap.size wr (wr.alloc (.cells #[.bool false,.int .i64 nn,.slice lp ll lc] 60)):=(Below.refl _ _).alloc (Nat.le_refl _) _
        have gd':=cell_below gd hal (cell_lt gd)
        have gp':=cell_below gp hal (cell_lt gp)
        have t0:(wr.alloc (.cells #[.bool false,.int .i64 nn,.slice lp ll lc] 60)).cell? ⟨wr.heap.size,0,none⟩=some (.bool false):=by rw [cells_new]; rfl
        have t1:(wr.alloc (.cells #[.bool false,.int .i64 nn,.slice lp ll lc] 60)).cell? ⟨wr.heap.size,1,none⟩=some (.int .i64 nn):=by rw [cells_new]; rfl
        have t2:(wr.alloc (.cells #[.bool false,.int .i64 nn,.slice lp ll lc] 60)).cell? ⟨wr.heap.size,2,none⟩=some (.slice lp ll lc):=by rw [cells_new]; rfl
        have hal':Hid _:=hal
        clear hal
        clear hok hno
        go_wp2
        go_quiet (fail)
        go_wp2
        go_ret
        exact ⟨by rw [hs.out]; rfl,hB'.out.trans ((hBr'.out.trans ((below_drewN hal'.out).mono hBr'.out.size)).mono hB'.out.size)⟩
       | true =>
        by_cases hn0:nn=0
        · subst hn0
          have hs:=hok (by unfold fitsV; rw [hi,hty]; rfl)
          have hal:Below wr.heap.size wr (wr.alloc (.cells #[.bool true,.int .i64 0,.slice lp ll lc] 60)):=(Below.refl _ _).alloc (Nat.le_refl _) _
          have gd':=cell_below gd hal (cell_lt gd)
          have gp':=cell_below gp hal (cell_lt gp)
          have t0:(wr.alloc (.cells #[.bool true,.int .i64 0,.slice lp ll lc] 60)).cell? ⟨wr.heap.size,0,none⟩=some (.bool true):=by rw [cells_new]; rfl
          have t1:(wr.alloc (.cells #[.bool true,.int .i64 0,.slice lp ll lc] 60)).cell? ⟨wr.heap.size,1,none⟩=some (.int .i64 0):=by rw [cells_new]; rfl
          have t2:(wr.alloc (.cells #[.bool true,.int .i64 0,.slice lp ll lc] 60)).cell? ⟨wr.heap.size,2,none⟩=some (.slice lp ll lc):=by rw [cells_new]; rfl
          have hal':Hid _:=hal
          clear hal
          clear hok hno
          go_wp2
          go_quiet (fail)
          go_wp2
          go_roundw
          case rel =>
           refine ⟨k+1,by omega,by go_num,fun j hj=>?_,by exact hBr'.out.trans ((below_drewN hal'.out).mono hBr'.out.size)⟩
           by_cases he:j=k
           · subst he; exact hs.out
           · exact hall'.out j (by omega)
          case measure=>simp [intOf]; omega
        · have hs:=hno (by unfold fitsV; rw [hi,hty]; simp [hn0])
          have hal:Below wr.heap.size wr (wr.alloc (.cells #[.bool true,.int .i64 nn,.slice lp ll lc] 60)):=(Below.refl _ _).alloc (Nat.le_refl _) _
          have gd':=cell_below gd hal (cell_lt gd)
          have gp':=cell_below gp hal (cell_lt gp)
          have t0:(wr.alloc (.cells #[.bool true,.int .i64 nn,.slice lp ll lc] 60)).cell? ⟨wr.heap.size,0,none⟩=some (.bool true):=by rw [cells_new]; rfl
          have t1:(wr.alloc (.cells #[.bool true,.int .i64 nn,.slice lp ll lc] 60)).cell? ⟨wr.heap.size,1,none⟩=some (.int .i64 nn):=by rw [cells_new]; rfl
          have t2:(wr.alloc (.cells #[.bool true,.int .i64 nn,.slice lp ll lc] 60)).cell? ⟨wr.heap.size,2,none⟩=some (.slice lp ll lc):=by rw [cells_new]; rfl
          have hal':Hid _:=hal
          clear hal
          clear hok hno
          go_wp2
          go_quiet (fail)
          go_wp2
          go_ret
          exact ⟨by rw [hs.out]; rfl,hB'.out.trans ((hBr'.out.trans ((below_drewN hal'.out).mono hBr'.out.size)).mono hB'.out.size)⟩
    · obtain rfl:k=n:=by omega
      have hfa:Hid (fitsAll prs xs=true):=fitsAll_true fun i hi=>hall i (by have:=hn'.out; omega)
      have hBw:Below w.heap.size w wr:=hB'.out.trans (hBr.mono hB'.out.size)
      have hBw':Hid _:=hBw
      clear hall hBr k2 hBw hk
      go_wp2
      go_loopw [7] (fun i w2=>∃ q:Nat,q≤k∧i = .int .i64 q∧(∀ j,j < q→badA (xs.getD j default)=false)∧Below w.heap.size w w2) (fun i _=>k - (intOf i).toNat)
      case atStart=>exact ⟨0,Nat.zero_le _,rfl,fun j h=>absurd h (Nat.not_lt_zero _),hBw'.out⟩
      case round =>
       obtain ⟨q,hq,rfl,hall,hB2⟩:=hrel
       by_cases hqk:q < k
       · obtain ⟨b,o,rfl,hqq⟩:=h2'.out (fun h=>by have:=hn'.out; rw [h] at this; simp at this; omega)
         obtain ⟨lv,g0,g1,g2,hI,hLL⟩:=hqq q hqk
         have hxm:xs.getD q default∈xs:=by rw [List.getD_eq_getElem?_getD,List.getElem?_eq_getElem (by rw [←hn'.out]; exact hqk)]; exact List.getElem_mem _
         have hl60:=hL'.out _ hxm
         have hI:=hI.below hB2
         have g1:=cell_below g1 hB2 (cell_lt g1)
         have g2:=cell_below g2 hB2 (cell_lt g2)
         obtain ⟨a,ha⟩:∃ a,a=xs.getD q default:=⟨_,rfl⟩
         rw [←ha] at g1 hI hl60
         obtain ⟨il,nn,al⟩:=a
         have hxq:q < xs.length:=by rw [←hn'.out]; exact hqk
         have hbad:∀ t,t < al.length+1→isNum ((nn :: al).getD t 0)=false→Hid (argErr prs xs=3):=fun t ht hb=>by
          show _=_
          unfold argErr
          rw [if_neg (by rw [←hn'.out,← hm'.out]; simp),if_neg (by rw [hfa.out]; simp),if_pos (any_true hxq (by
           rw [←ha]
           show (!isNum nn || badNums al)=true
           cases t with
           | zero=>rw [show isNum nn=false from hb]; rfl
           | succ t=>rw [badNums_true (i:=t) (by omega) hb]; simp))]
         have hok:(∀ t,t < al.length+1→isNum ((nn :: al).getD t 0)=true)→Hid (badA (xs.getD q default)=false):=fun h=>by
          show _=_
          rw [←ha]
          show (!isNum nn || badNums al)=false
          rw [show isNum nn=true from h 0 (by omega),badNums_false fun i hi=>h (i+1) (by omega)]; rfl
         have hall':Hid _:=hall
         have hB2':Hid _:=hB2
         obtain ⟨m,hm2⟩:∃ m,m=al.length:=⟨_,rfl⟩
         have hg1:wr.cell? ⟨b,o+q * 3+1,none⟩=some (.int .i64 nn):=g1
         have hg2:wr.cell? ⟨b,o+q * 3+2,none⟩=some lv:=g2
         have hlm:m≤60:=by rw [hm2]; exact hl60
         rw [←hm2] at hbad hok
         obtain ⟨ap,ac,hlv0,hcells⟩:=hI
         have hlv:lv = .slice ap m ac:=by rw [hlv0,hm2]
         subst hlv
         clear hlv0
         obtain ⟨i0,hi0,hz0,hz1,hz2⟩:=info_parts infoInt'
         have hbl:=World.block_lt_of_cell? wr _ hg1
         clear hqq g0 g1 g2 hLL ha hxm hl60 hall hxq
         by_cases hm0:m=0
         · subst hm0
           have hal0:al = []:=List.eq_nil_of_length_eq_zero hm2.symm
           subst hal0
           clear hm2 hcells
           go_wp2_with fail
           go_region_held3 (fun w'=>w'.cell? ⟨b,o+q * 3+1,none⟩=some (.int .i64 nn)∧w'.cell? ⟨b,o+q * 3+2,none⟩=some (.slice ap 0 ac))
            (go_keep)
            ((refine step_append_zero1 (by rfl) _ _ _ (by rfl) 3 i0 Tryz.underlying45 hi0 ⟨wr.heap.size,0,none⟩ 1 1 (Nat.le_refl _) ap ac (by rfl) (by rfl) ?_))
           have hB3':Hid (Below w.heap.size w (wr.alloc (.cells #[.int .i64 nn] 3)).drew):=(hB2'.out.alloc hB2'.out.size (.cells #[.int .i64 nn] 3)).drew
           have hc8:Hid (∀ t,t < 0+1→(wr.alloc (.cells #[.int .i64 nn] 3)).drew.cell? ⟨wr.heap.size,t,none⟩=some (.int .i64 ((nn :: ([]:List Int)).getD t 0))):=fun t ht=>by
            obtain rfl:t=0:=by omega
            exact (cells_new wr #[.int .i64 nn] 3 0).trans rfl
           generalize (wr.alloc (.cells #[.int .i64 nn] 3)).drew=w3 at hB3' hc8 ⊢
           clear hg1 hg2 hbl
           go_wp2
           go_loopw [9] (fun i w4=>∃ t:Nat,t≤0+1∧i = .int .i64 t∧(∀ j,j < t→isNum ((nn :: ([]:List Int)).getD j 0)=true)∧Below w3.heap.size w3 w4) (fun i _=>0+1 - (intOf i).toNat)
           case atStart=>exact ⟨0,Nat.zero_le _,rfl,fun j h=>absurd h (Nat.not_lt_zero _),Below.refl _ _⟩
           case round =>
            obtain ⟨t,ht,rfl,hin,hB4⟩:=hrel
            by_cases htm:t < 0+1
            · have g:=cell_below (hc8.out t htm) hB4 (cell_lt (hc8.out t htm))
              obtain ⟨x,hx⟩:∃ x,x=(nn :: ([]:List Int)).getD t 0:=⟨_,rfl⟩
              rw [←hx] at g
              by_cases hlo:x < -1000000000
              · have hbx:isNum x=false:=by unfold isNum; simp; omega
                have hs:=hbad t htm (by rw [←hx]; exact hbx)
                clear hbad hok hin hx
                go_wp2
                go_ret
                exact ⟨by rw [hs.out]; rfl,hB3'.out.trans (hB4.mono hB3'.out.size)⟩
              · by_cases hhi:(1000000000:Int) < x
                · have hbx:isNum x=false:=by unfold isNum; simp; omega
                  have hs:=hbad t htm (by rw [←hx]; exact hbx)
                  clear hbad hok hin hx
                  go_wp2
                  go_ret
                  exact ⟨by rw [hs.out]; rfl,hB3'.out.trans (hB4.mono hB3'.out.size)⟩
                · have hgx:Hid (isNum ((nn :: ([]:List Int)).getD t 0)=true):=by show _=_; rw [←hx]; unfold isNum; simp; omega
                  clear hbad hok hx
                  go_wp2
                  go_roundw
                  case rel =>
                   refine ⟨t+1,by omega,by go_num,fun j hj=>?_,hB4⟩
                   by_cases he:j=t
                   · subst he; exact hgx.out
                   · exact hin j (by omega)
                  case measure=>simp [intOf]; omega
            · have hgood:=hok fun j hj=>hin j (by omega)
              clear hbad hok hin
              go_wp2
              go_roundw
              case rel =>
               refine ⟨q+1,by omega,by go_num,fun j hj=>?_,hB3'.out.trans (hB4.mono hB3'.out.size)⟩
               by_cases he:j=q
               · subst he; exact hgood.out
               · exact hall'.out j (by omega)
              case measure=>simp [intOf]; omega
         · obtain ⟨lb,lo,rfl,hcc⟩:=hcells (fun h=>by have h:al = []:=h; rw [h] at hm2; exact hm0 (by simpa using hm2))
           obtain ⟨zs,hzs⟩:∃ zs,zs=al.map (Value.int .i64):=⟨_,rfl⟩
           have hzl:zs.length=m * 1:=by rw [hzs,hm2]; simp
           have hzc:∀ j u,zs[j]? = some u→wr.cell? ((⟨lb,lo,none⟩:Addr).add j)=some u:=by
            intro j u hu
            rw [hzs,List.getElem?_map] at hu
            obtain ⟨z,hz,rfl⟩:=Option.map_eq_some_iff.1 hu
            have hj:=(List.getElem?_eq_some_iff.1 hz).1
            have:=hcc j hj
            rw [Addr.add_lit,this,List.getD_eq_getElem?_getD,hz]; rfl
           have hzo:∀ u∈zs,u.oneCell'=true:=by
            intro u hu
            rw [hzs] at hu
            obtain ⟨z,_,rfl⟩:=List.mem_map.1 hu
            rfl
           have hzs':Hid _:=hzs
           have hm2':Hid _:=hm2
           clear hcells hcc hzs hm2
           go_wp2_with fail
           go_region_held3 (fun w'=>w'.cell? ⟨b,o+q * 3+1,none⟩=some (.int .i64 nn)∧w'.cell? ⟨b,o+q * 3+2,none⟩=some (.slice (some ⟨lb,lo,none⟩) m ac))
            (first
             | go_keep
             | (exact ⟨hgrow3.cell (cell_alloc hg1 _) (by simp [Value.ownBlock]; omega),hgrow3.cell (cell_alloc hg2 _) (by simp [Value.ownBlock]; omega)⟩))
            (first
             | ((refine step_append_lies _ (by rfl) _ _ _ (by rfl) wr.heap.size 3 i0 _ 1 8 Tryz.underlying45 hi0 hz0 hz1 hz2 rfl (by omega) (.slice (some ⟨wr.heap.size,0,none⟩) 1 1) 1 [.int .i64 nn] (by rfl) (World.ownsRow_lit wr #[.int .i64 nn] 1 (Nat.le_refl _) (by decide) rfl) ⟨lb,lo,none⟩ m ac zs (by rfl) hzl (fun j u h=>by have h5:=hzc j u h; rw [Addr.add_lit] at h5 ⊢; exact cell_alloc h5 _) hzo (by omega) (by unfold maxLen; omega) (by omega) (by simp) _ rfl ?_; intro gg cap w3 hown3 hgrow3 hat3 hlt3))
             | fail)
           have hB3':Hid (Below w.heap.size w w3):=((hB2'.out.drew.alloc hB2'.out.size (.cells #[.int .i64 nn] 3)).grown (w':=w3) hgrow3 (by have:=hB2'.out.size; simp; omega) (fun k h=>by have h:wr.heap.size=k:=(by simpa [Value.ownBlock] using h); have:=hB2'.out.size; omega))
           have hc8:Hid (∀ t,t < m+1→w3.cell? ⟨gg,t,none⟩=some (.int .i64 ((nn :: al).getD t 0))):=fun t ht=>by
            have e1:=hown3.cells (g:=gg) rfl t (.int .i64 ((nn :: al).getD t 0)) (by
             rw [hzs'.out,show [Value.int .i64 nn]++al.map (Value.int .i64)=(nn :: al).map (Value.int .i64) from rfl,List.getElem?_map,List.getD_eq_getElem?_getD,List.getElem?_eq_getElem (by rw [List.length_cons,← hm2'.out]; exact ht)]; rfl)
            have e2:(⟨gg,0,none⟩:Addr).add t=⟨gg,t,none⟩:=by rw [Addr.add_lit,Nat.zero_add]
            rw [e2] at e1; exact e1
           clear hown3 hgrow3 hat3 hlt3 hzc hzl hzo hg1 hg2 hbl
           go_wp2
           go_loopw [9] (fun i w4=>∃ t:Nat,t≤m+1∧i = .int .i64 t∧(∀ j,j < t→isNum ((nn :: al).getD j 0)=true)∧Below w3.heap.size w3 w4) (fun i _=>m+1 - (intOf i).toNat)
           case atStart=>exact ⟨0,Nat.zero_le _,rfl,fun j h=>absurd h (Nat.not_lt_zero _),Below.refl _ _⟩
           case round =>
            obtain ⟨t,ht,rfl,hin,hB4⟩:=hrel
            by_cases htm:t < m+1
            · have g:=cell_below (hc8.out t htm) hB4 (cell_lt (hc8.out t htm))
              obtain ⟨x,hx⟩:∃ x,x=(nn :: al).getD t 0:=⟨_,rfl⟩
              rw [←hx] at g
              by_cases hlo:x < -1000000000
              · have hbx:isNum x=false:=by unfold isNum; simp; omega
                have hs:=hbad t htm (by rw [←hx]; exact hbx)
                clear hbad hok hin hx
                go_wp2
                go_ret
                exact ⟨by rw [hs.out]; rfl,hB3'.out.trans (hB4.mono hB3'.out.size)⟩
              · by_cases hhi:(1000000000:Int) < x
                · have hbx:isNum x=false:=by unfold isNum; simp; omega
                  have hs:=hbad t htm (by rw [←hx]; exact hbx)
                  clear hbad hok hin hx
                  go_wp2
                  go_ret
                  exact ⟨by rw [hs.out]; rfl,hB3'.out.trans (hB4.mono hB3'.out.size)⟩
                · have hgx:Hid (isNum ((nn :: al).getD t 0)=true):=by show _=_; rw [←hx]; unfold isNum; simp; omega
                  clear hbad hok hx
                  go_wp2
                  go_roundw
                  case rel =>
                   refine ⟨t+1,by omega,by go_num,fun j hj=>?_,hB4⟩
                   by_cases he:j=t
                   · subst he; exact hgx.out
                   · exact hin j (by omega)
                  case measure=>simp [intOf]; omega
            · have hgood:=hok fun j hj=>hin j (by omega)
              clear hbad hok hin
              go_wp2
              go_roundw
              case rel =>
               refine ⟨q+1,by omega,by go_num,fun j hj=>?_,hB3'.out.trans (hB4.mono hB3'.out.size)⟩
               by_cases he:j=q
               · subst he; exact hgood.out
               · exact hall'.out j (by omega)
              case measure=>simp [intOf]; omega
       · obtain rfl:q=k:=by omega
         have hba:Hid (xs.any badA=false):=any_false fun i hi=>hall i (by have:=hn'.out; omega)
         have hB2':Hid _:=hB2
         clear hall hB2 hq
         go_wp2
         go_loopw [10] (fun i w5=>∃ t:Nat,t≤q∧i = .int .i64 t∧(∀ j,j < t→(decide (40 < (xs.getD j default).l.length))=false)∧w5=wr) (fun i _=>q - (intOf i).toNat)
         case atStart=>exact ⟨0,Nat.zero_le _,rfl,fun j h=>absurd h (Nat.not_lt_zero _),rfl⟩
         case round =>
          obtain ⟨t,ht,rfl,hall,rfl⟩:=hrel
          by_cases htq:t < q
          · obtain ⟨b,o,rfl,hqq⟩:=h2'.out (fun h=>by have:=hn'.out; rw [h] at this; simp at this; omega)
            obtain ⟨lv,g0,g1,g2,hI,hLL⟩:=hqq t htq
            have g2:=cell_below g2 hB2'.out (cell_lt g2)
            obtain ⟨ap,ac,rfl,_⟩:=hI
            have hbad:∀ (_:40 < (xs.getD t default).l.length),Hid (argErr prs xs=5):=fun h=>by
             show _=_
             unfold argErr
             rw [if_neg (by rw [←hn'.out,← hm'.out]; simp),if_neg (by rw [hfa.out]; simp),if_neg (by rw [hba.out]; simp),if_pos (any_true (f:=fun a=>decide (40 < a.l.length)) (i:=t) (by rw [←hn'.out]; exact htq) (by simpa using h))]
            have hok:∀ (_:¬ 40 < (xs.getD t default).l.length),Hid (decide (40 < (xs.getD t default).l.length)=false):=fun h=>by show _=_; simpa using h
            obtain ⟨m,hm2⟩:∃ m,m=(xs.getD t default).l.length:=⟨_,rfl⟩
            rw [←hm2] at g2 hbad hok hLL
            have hok':∀ (_:¬ 40 < m),Hid (decide (40 < (xs.getD t default).l.length)=false):=by rw [hm2] at hok ⊢; exact hok
            have hall':Hid _:=hall
            clear hqq g0 g1 hm2 hok hall
            by_cases h40:40 < m
            · have hs:=hbad h40
              have h40':(40:Int) < (m:Int):=by omega
              clear hbad hok'
              go_wp2
              go_ret
              exact ⟨by rw [hs.out]; rfl,hB2'.out⟩
            · have hs:=hok' h40
              have h40':(m:Int)≤40:=by omega
              clear hbad hok'
              go_wp2
              go_roundw
              case rel =>
               refine ⟨t+1,by omega,by go_num,fun j hj=>?_,by first | trivial | rfl⟩
               by_cases he:j=t
               · subst he; exact hs.out
               · exact hall'.out j (by omega)
              case measure=>simp [intOf]; omega
          · have hs:Hid (argErr prs xs=0):=by
             show _=_
             unfold argErr
             rw [if_neg (by rw [←hn'.out,← hm'.out]; simp),if_neg (by rw [hfa.out]; simp),if_neg (by rw [hba.out]; simp),if_neg (by rw [any_false (f:=fun a=>decide (40 < a.l.length)) fun i hi=>hall i (by have:=hn'.out; omega)]; simp)]
            clear hall
            go_wp2
            go_ret
            exact ⟨by rw [hs.out]; rfl,hB2'.out⟩
 · have hs:Hid (argErr prs xs=2):=by show _=_; unfold argErr; rw [if_pos (by rw [←hn,← hm]; exact hnm)]
   have hne:¬ (n:Int)=(m:Int):=by omega
   have hB':Hid _:=hB
   clear hn hm hA h2 hp2 hB hz hL
   go_enter Tryz.func10,Tryz.ntmps10
   go_wp2
   go_ret
   exact ⟨by rw [hs.out]; rfl,hB'.out⟩
end Lb
end Go.Proofs
