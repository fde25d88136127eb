/- PROVED HERE: a part (Wi) of the tied card of LibPrograms (floodgatelaw25): the call returns true and its argument reads as before. CONDITIONS: those of the given row and card alone. -/
import Derived.Test.YtlophehgfmdakaaGreatDoorWg
import Derived.Test.YtlophehgfmdakaaGreatDoorWh
namespace Go.Proofs
open Go.RowKit
namespace Lb
theorem Same.act20 {lo:Nat} {a a':Act} (h:Same lo (lo+19) a a') (hs:lo+19 < a.tmps.size):∃ v0 v1 v2 v3 v4 v5 v6 v7 v8 v9 v10 v11 v12 v13 v14 v15 v16 v17 v18 v19,a'=((((((((((((((((((((a.put (some lo) v0).put (some (lo+1)) v1).put (some (lo+2)) v2).put (some (lo+3)) v3).put (some (lo+4)) v4).put (some (lo+5)) v5).put (some (lo+6)) v6).put (some (lo+7)) v7).put (some (lo+8)) v8).put (some (lo+9)) v9).put (some (lo+10)) v10).put (some (lo+11)) v11).put (some (lo+12)) v12).put (some (lo+13)) v13).put (some (lo+14)) v14).put (some (lo+15)) v15).put (some (lo+16)) v16).put (some (lo+17)) v17).put (some (lo+18)) v18).put (some (lo+19)) v19):=by
 have h:=h.next (by (try simp only [size_put]); omega)
 have h:=h.next (by (try simp only [size_put]); omega)
 have h:=h.next (by (try simp only [size_put]); omega)
 have h:=h.next (by (try simp only [size_put]); omega)
 have h:=h.next (by (try simp only [size_put]); omega)
 have h:=h.next (by (try simp only [size_put]); omega)
 have h:=h.next (by (try simp only [size_put]); omega)
 have h:=h.next (by (try simp only [size_put]); omega)
 have h:=h.next (by (try simp only [size_put]); omega)
 have h:=h.next (by (try simp only [size_put]); omega)
 have h:=h.next (by (try simp only [size_put]); omega)
 have h:=h.next (by (try simp only [size_put]); omega)
 have h:=h.next (by (try simp only [size_put]); omega)
 have h:=h.next (by (try simp only [size_put]); omega)
 have h:=h.next (by (try simp only [size_put]); omega)
 have h:=h.next (by (try simp only [size_put]); omega)
 have h:=h.next (by (try simp only [size_put]); omega)
 have h:=h.next (by (try simp only [size_put]); omega)
 have h:=h.next (by (try simp only [size_put]); omega)
 have h:=h.next (by (try simp only [size_put]); omega)
 exact ⟨_,_,_,_,_,_,_,_,_,_,_,_,_,_,_,_,_,_,_,_,h.eq (by omega)⟩
def rfW (w:World) (nm0 tx0:ByteArray) (pv rv cv:Value):World :=
 (((w.alloc (.cells #[.string nm0,.string tx0,pv,rv,cv] 38)).alloc (.cells #[.slice none 0 0,.slice none 0 0] 30)).alloc (.cells #[.string nm0] 9)).alloc (.cells #[.slice none 0 0,.slice none 0 0] 30)
theorem rfW_size (w:World) (nm0 tx0:ByteArray) (pv rv cv:Value):(rfW w nm0 tx0 pv rv cv).heap.size=w.heap.size+4:=by unfold rfW; rw [size_new,size_new,size_new,size_new]
theorem rfW_below (w:World) (nm0 tx0:ByteArray) (pv rv cv:Value):Below w.heap.size w (rfW w nm0 tx0 pv rv cv):=by
 unfold rfW
 exact ((((Below.refl _ _).alloc (Nat.le_refl _) _).alloc (by rw [size_new]; omega) _).alloc (by rw [size_new,size_new]; omega) _).alloc (by rw [size_new,size_new,size_new]; omega) _
theorem rfW_d (w:World) (nm0 tx0:ByteArray) (pv rv cv:Value):(rfW w nm0 tx0 pv rv cv).heap[w.heap.size]? = some (.cells #[.string nm0,.string tx0,pv,rv,cv] 38 (0,0)):=by
 unfold rfW
 rw [heap_alloc_old _ _ (by rw [size_new,size_new,size_new]; omega),heap_alloc_old _ _ (by rw [size_new,size_new]; omega),heap_alloc_old _ _ (by rw [size_new]; omega)]
 exact heap_alloc_new w _
theorem rfW_r (w:World) (nm0 tx0:ByteArray) (pv rv cv:Value):(rfW w nm0 tx0 pv rv cv).heap[w.heap.size+1]? = some (.cells #[.slice none 0 0,.slice none 0 0] 30 (0,0)):=by
 unfold rfW
 have s1:=size_new w (.cells #[.string nm0,.string tx0,pv,rv,cv] 38)
 rw [heap_alloc_old _ _ (by rw [size_new,size_new,size_new]; omega),heap_alloc_old _ _ (by rw [size_new,size_new]; omega)]
 have:=heap_alloc_new (w.alloc (.cells #[.string nm0,.string tx0,pv,rv,cv] 38)) (.cells #[.slice none 0 0,.slice none 0 0] 30)
 rw [s1] at this
 exact this
theorem rfW_start (w:World) (nm0 tx0:ByteArray) (pv rv cv:Value) :
 Of (w.heap.size+2) (w.heap.size+3) 30 [] (rfW w nm0 tx0 pv rv cv) (.slice (some ⟨w.heap.size+1+1,0,none⟩) 1 1) (.slice none 0 0) (.slice none 0 0) (.slice none 0 0) (.slice none 0 0) [nm0] [] [] []:=by
 have s1:=size_new w (.cells #[.string nm0,.string tx0,pv,rv,cv] 38)
 have s2:=size_new (w.alloc (.cells #[.string nm0,.string tx0,pv,rv,cv] 38)) (.cells #[.slice none 0 0,.slice none 0 0] 30)
 have s3:=size_new ((w.alloc (.cells #[.string nm0,.string tx0,pv,rv,cv] 38)).alloc (.cells #[.slice none 0 0,.slice none 0 0] 30)) (.cells #[.string nm0] 9)
 refine ⟨?_,?_,World.ownsRow_nil _ _ _ _,World.ownsRow_nil _ _ _ _,⟨[],World.ownsRow_nil _ _ _ _,fun j h=>absurd h (Nat.not_lt_zero _)⟩,World.ownsRow_nil _ _ _ _,.inr (by simp [Value.ownBlock]),.inr (by simp [Value.ownBlock]),.inl rfl⟩
 · unfold rfW
   have:=heap_alloc_new (((w.alloc (.cells #[.string nm0,.string tx0,pv,rv,cv] 38)).alloc (.cells #[.slice none 0 0,.slice none 0 0] 30)).alloc (.cells #[.string nm0] 9)) (.cells #[.slice none 0 0,.slice none 0 0] 30)
   rw [s3,s2,s1] at this
   exact this
 · refine ⟨rfl,.inr ⟨w.heap.size+1+1,1,#[.string nm0],rfl,by omega,?_,Nat.le_refl _,by decide,rfl,rfl⟩⟩
   unfold rfW
   rw [heap_alloc_old _ _ (by rw [s3,s2,s1]; omega)]
   have:=heap_alloc_new ((w.alloc (.cells #[.string nm0,.string tx0,pv,rv,cv] 38)).alloc (.cells #[.slice none 0 0,.slice none 0 0] 30)) (.cells #[.string nm0] 9)
   rw [s2,s1] at this
   exact this
def catN (tys:List ByteArray):Nat→ByteArray
 | 0=>ByteArray.empty
 | k+1=>catN tys k++(tys.getD k ByteArray.empty++⟨#[10]⟩)
theorem catN_size (tys:List ByteArray) (M:Nat) (h:∀ i,(tys.getD i ByteArray.empty).size≤M):∀ k,(catN tys k).size≤k * (M+1)
 | 0=>Nat.le_of_eq (by simp [catN])
 | k+1=>by
  have h1:=catN_size tys M h k
  have h2:=h k
  have e:(k+1) * (M+1)=k * (M+1)+(M+1):=Nat.succ_mul _ _
  unfold catN
  rw [size_append,size_append,show (⟨#[10]⟩:ByteArray).size=1 from rfl]; omega
def textR (tys res:List ByteArray) (nm:ByteArray) (s:St):ByteArray:=catN tys tys.length++mA++joinB s.Pa sepB++mB++joinB res sepB++mC++nm++mD++joinB s.Gi sepB++mE
theorem Lst.setRow {B br:Nat} {w:World} {Lv Cv:Value} {L:List (List Int)} {cs cs':Array Value} (h:Lst B w Lv Cv L) (hp:w.heap[br]? = some (.cells cs 30 (0,0))):Lst B (w.setRow br cs') Lv Cv L:=by
 have hg:w.grownBy (w.setRow br cs') (some br):=⟨rfl,rfl,rfl,by simp [World.setRow],fun k _ hk=>setRow_other w br k _ (fun e=>hk (by rw [e]))⟩
 obtain ⟨⟨lvs,h1,h2⟩,h3⟩:=h
 exact ⟨⟨lvs,h1.kept hg (own_bp hp h1 (by decide)),fun j hj=>let ⟨lv,a,b⟩:=h2 j hj; ⟨lv,a,b.kept hg (own_bp hp b (by decide))⟩⟩,h3.kept hg (own_bp hp h3 (by decide))⟩
set_option maxRecDepth 100000 in
set_option maxHeartbeats 6400000 in
theorem rf_c (nm0 tx0:ByteArray) (prs res:List ByteArray) (xs:List AArg) (pv rv cv v:Value) (w:World) (hp:HasS w pv prs) (h:HasA w v xs) (hl:xs.length≤6) (hL:∀ a∈xs,a.l.length≤60) (hN:∀ a∈xs,isNum a.n=true) (hpl:prs.length=xs.length)
 (hr:HasS w rv res) (hres:∀ x∈res,x.size≤100) (hrl:res.length≤100) (hnm:nm0.size≤1000000)
 (nds tys:List ByteArray) (htl:tys.length≤100) (hts:∀ i,(tys.getD i ByteArray.empty).size≤1000000) (hbl:nds.length=tys.length) (I:World→Prop) (hI0:I w) (hImono:∀ wa wb:World,Below wa.heap.size wa wb→I wa→I wb)
 (hnd:∀ (w1:World) (r:Value),w1.ownsRow (w.heap.size+2) 9 1 r (stK [packB] nm0 prs xs xs.length).R.length ((stK [packB] nm0 prs xs xs.length).R.map Value.string)→Below w.heap.size w w1→I w1 →
  Calls Tryz.prog 19 #[r] w1 fun e w'=>∃ v',e = .returned v'∧HasS w' v' nds∧Below w1.heap.size w1 w')
 (hfd:∀ (w1:World) (i:Nat),i < nds.length→Below w.heap.size w w1→I w1→Calls Tryz.prog 9 #[.string (nds.getD i ByteArray.empty)] w1 fun e w'=>∃ q0 p2 n2 c2 p3 n3 c3 p4 n4 c4 u5,e = .returned (.tuple #[.agg #[.string q0,.string (tys.getD i ByteArray.empty),.slice p2 n2 c2,.slice p3 n3 c3,.slice p4 n4 c4],.int .i64 u5])∧Below w1.heap.size w1 w') :
 Calls Tryz.prog 11 #[.agg #[.string nm0,.string tx0,pv,rv,cv],v] w fun e w' =>
  ∃ Lv Cv,e = .returned (.tuple #[.string (textR tys res nm0 (stK [packB] nm0 prs xs xs.length)),.agg #[Lv,Cv]])∧Lst (w.heap.size+2) w' Lv Cv (stK [packB] nm0 prs xs xs.length).L∧Below w.heap.size w w':=by
 obtain ⟨pp,pc,rfl,hp2⟩:=hp
 obtain ⟨p,c,rfl,h2⟩:=h
 obtain ⟨n,hn⟩:∃ n,n=xs.length:=⟨_,rfl⟩
 have hpl0:=hpl
 rw [←hn]
 rw [hpl,← hn] at hp2 ⊢
 rw [←hn] at hpl0
 rw [←hn] at hl h2
 have hB0:=rfW_below w nm0 tx0 (.slice pp n pc) rv cv
 have hz0:=rfW_size w nm0 tx0 (.slice pp n pc) rv cv
 have hS0:=rfW_start w nm0 tx0 (.slice pp n pc) rv cv
 have hD0:=rfW_d w nm0 tx0 (.slice pp n pc) rv cv
 have hR0:=rfW_r w nm0 tx0 (.slice pp n pc) rv cv
 have hn':Hid (n=xs.length):=hn
 have h2':Hid _:=h2
 have hp2':Hid _:=hp2
 have hL':Hid _:=hL
 have hN':Hid _:=hN
 have hB0':Hid _:=hB0
 have hS0':Hid _:=hS0
 have hD0':Hid _:=hD0
 have hR0':Hid _:=hR0
 obtain ⟨i9,hi9,h90,h91,h92⟩:=info_parts infoStr
 have hr':Hid _:=hr
 have hres':Hid _:=hres
 have hts':Hid _:=hts
 have hnd':Hid _:=hnd
 have hfd':Hid _:=hfd
 have hrl':Hid _:=hrl
 have htl':Hid _:=htl
 have hbl':Hid _:=hbl
 have hnm0':Hid _:=hnm
 have hIm':Hid _:=hImono
 have hI0':Hid (I w):=hI0
 clear hn h2 hp2 hL hpl hB0 hS0 hD0 hR0 hN hr hres hts hnd hfd hrl htl hbl hnm hImono hI0
 go_enter Tryz.func11,Tryz.ntmps11
 go_wp2
 go_loopw [6,9,10,11] (fun s6 s9 s10 i wr=>∃ (k:Nat) (r pa gi Lv Cv:Value),k≤n∧r=s6∧pa=s9∧gi=s10∧i = .int .i64 k ∧
  Of (w.heap.size+2) (w.heap.size+3) 30 [] wr r pa gi Lv Cv (stK [packB] nm0 prs xs k).R (stK [packB] nm0 prs xs k).Pa (stK [packB] nm0 prs xs k).Gi (stK [packB] nm0 prs xs k).L ∧
  Below (w.heap.size+2) (rfW w nm0 tx0 (.slice pp n pc) rv cv) wr) (fun _ _ _ i _=>n - (intOf i).toNat)
 case atStart=>exact ⟨0,_,_,_,_,_,Nat.zero_le _,rfl,rfl,rfl,rfl,hS0'.out,Below.refl _ _⟩
 case round =>
  obtain ⟨k,r,pa,gi,Lv,Cv,hk,rfl,rfl,rfl,rfl,hof,hBr⟩:=hrel
  by_cases hkn:k < n
  · obtain ⟨b,o,rfl,hq⟩:=h2'.out (fun h=>by have:=hn'.out; rw [h] at this; simp at this; omega)
    obtain ⟨av,g0,g1,g2,hI,hLL⟩:=hq k hkn
    have hxm:xs.getD k default∈xs:=by rw [List.getD_eq_getElem?_getD,List.getElem?_eq_getElem (by rw [←hn'.out]; exact hkn)]; exact List.getElem_mem _
    have hl60:=hL'.out _ hxm
    have hnum : -1000000000000≤(xs.getD k default).n∧(xs.getD k default).n≤1000000000000:=by
     have:=hN'.out _ hxm
     unfold isNum at this
     simp only [Bool.and_eq_true,decide_eq_true_eq] at this
     omega
    have hBw:Below w.heap.size w wr:=hB0'.out.trans (hBr.mono (by omega))
    have gb:=cell_lt g2
    have gw2:Hid _:=g2
    have g0:=cell_below g0 hBw (cell_lt g0)
    have g1:=cell_below g1 hBw (cell_lt g1)
    have g2:=cell_below g2 hBw (cell_lt g2)
    have hIr:=hI.below hBw
    have hst:∀ s,st1 [packB] (prs.getD k ByteArray.empty) (xs.getD k default) (stK [packB] nm0 prs xs k)=s→stK [packB] nm0 prs xs (k+1)=s:=fun s h=>h
    obtain ⟨q1,q2,q3,q4⟩:=stK_len [packB] nm0 prs xs k
    obtain ⟨s,hs⟩:∃ s,s=stK [packB] nm0 prs xs k:=⟨_,rfl⟩
    rw [←hs] at hof hst q1 q2 q3 q4
    have hwr:=hBr.size
    clear hq hI hLL hs
    cases hil:(xs.getD k default).il with
    | false =>
     rw [hil] at g0
     have hst1:Hid (stK [packB] nm0 prs xs (k+1)=stNum (xs.getD k default) s):=hst _ (by unfold st1; rw [if_pos hil])
     obtain ⟨a,ha⟩:∃ a,a=xs.getD k default:=⟨_,rfl⟩
     rw [←ha] at g1 hl60 hnum hst1
     obtain ⟨z,hz⟩:∃ z,z=a.n:=⟨_,rfl⟩
     rw [←hz] at g1 hnum
     have hit:=decimal_c z hnum.1 hnum.2 wr
     have hz':Hid (z=a.n):=hz
     have hof':Hid _:=hof
     have hBr':Hid _:=hBr
     have hog:=hof.og
     have hogs:=map_len s.Gi
     clear ha hz hst hil hof hBr hBw hIr g2 q1 q2 q4
     go_wp2_with (first | (go_at_call 27; refine hit.mono ?_; rintro e w1 ⟨rfl,hw1⟩; rw [hw1]; clear hw1) | (at_builtin; refine wpList_append_lies _ rfl _ _ _ rfl (w.heap.size+2) 9 i9 _ 1 16 Tryz.underlying36 hi9 h90 h91 h92 rfl (by omega) gi s.Gi.length (s.Gi.map Value.string) (by rfl) (hog.alloc _) ⟨wr.heap.size,0,none⟩ 1 1 [.string (mkD (Lib.itoa z))] (by rfl) (by rfl) (World.news_of_block (cs:=#[.string (mkD (Lib.itoa z))]) (t:=9) (fr:=(0,0)) (heap_alloc_new wr _)) (by simp [Value.oneCell']) (by omega) (by unfold maxLen; omega) (by omega) (by simp; omega) (wr.heap.size+1) (by simp) ?_; intro g3 cap3 w3 hown3 hgrow3 hat3 hlt3))
     go_roundw
     case rel =>
      have hb3:Below (w.heap.size+2) (rfW w nm0 tx0 (.slice pp n pc) rv cv) w3:=(hBr'.out.alloc (by omega) _).grown hgrow3 (by rw [size_new]; omega) (fun k h=>by have:=(hog.lt k h).1; omega)
      have ho3:=(hof'.out.quiet (World.grownBy_alloc wr (.cells #[.string (mkD (Lib.itoa z))] 9) none)).app3 (by decide) hown3 hgrow3 (by rw [size_new]; exact hat3)
      rw [q3] at ho3
      refine ⟨k+1,r,pa,_,Lv,Cv,by omega,rfl,rfl,rfl,by go_num,?_,hb3⟩
      rw [hst1.out]
      unfold stNum
      rw [←hz'.out]
      exact ho3
     case measure=>simp [intOf]; omega
    | true =>
     rw [hil] at g0
     have hst1:stK [packB] nm0 prs xs (k+1)=if isArr (prs.getD k ByteArray.empty)=true then stArr [packB] (xs.getD k default) s else stStr (xs.getD k default) s:=hst _ (by unfold st1; rw [if_neg (by rw [hil]; decide)])
     obtain ⟨a,ha⟩:∃ a,a=xs.getD k default:=⟨_,rfl⟩
     rw [←ha] at g1 hl60 hnum hIr hst1
     have hst1':Hid _:=hst1
     obtain ⟨m,hm⟩:∃ m,m=a.l.length:=⟨_,rfl⟩
     have hIr0:Hid (HasI wr av a.l):=hIr
     obtain ⟨ap,ac,rfl,_⟩:=hIr
     rw [←hm] at g2 hIr0 gw2
     have hl60':Hid (a.l.length≤60):=hl60
     rw [←hm] at hl60
     have hm':Hid (m=a.l.length):=hm
     obtain ⟨np,hnp⟩:∃ np,np=s.Pa.length:=⟨_,rfl⟩
     rw [←hnp] at q2 q4
     have hit:=decimal_c (np:Int) (by omega) (by omega)
     have hts:=itoa_size (np:Int) (by omega) (by omega)
     obtain ⟨t,ht⟩:∃ t,t=mkD (Lib.itoa (np:Int)):=⟨_,rfl⟩
     rw [←ht] at hit hts
     have hpar:Hid (parB np=⟨#[115]⟩++t++⟨#[58,32,115,116,114,101,97,109,32,105,110,116]⟩):=by
      show _=_
      rw [ht]; unfold parB nmB
      rw [ByteArray.append_assoc]; rfl
     have hnm:Hid (nmB np=⟨#[115]⟩++t):=by show _=_; rw [ht]; rfl
     have hnp':Hid (np=s.Pa.length):=hnp
     have hof':Hid _:=hof
     have hBr':Hid _:=hBr
     obtain ⟨lvs,hoL,hoj⟩:=hof.oL
     have hoC:=hof.oC
     have hoP:=hof.hp
     rw [q4] at hoL hoC
     obtain ⟨pL,cL,rfl⟩:=slice_of hoL
     obtain ⟨pC,cC,rfl⟩:=slice_of hoC
     have k0:wr.cell? ⟨w.heap.size+3,0,none⟩=some (.slice pL np cL):=(cell_of_heap hoP).trans rfl
     have hoL':Hid _:=hoL
     have hoC':Hid _:=hoC
     have hoj':Hid _:=hoj
     have hoP':Hid _:=hoP
     have hwr4:w.heap.size+4≤wr.heap.size:=by omega
     clear ha hm hz0 hst hil hof hBr hBw ht hst1 hnp hoL hoC hoj hoP g1
     go_wp2_with (go_at_call 27; refine (hit wr).mono ?_; rintro e w1 ⟨rfl,hw1⟩; rw [hw1]; clear hw1)
     have hR:Rx (w.heap.size+2) (w.heap.size+3) 30 np ⟨b,o+k * 3+2,none⟩ a.l [] (.slice pL np cL) (.slice pC np cC) (.slice ap m ac) lvs wr :=
      ⟨hoP'.out,g2,(fun e=>by have:=(World.ownsRow.lt (hoL'.out) _ e.symm).1; simp at this; omega),hoL'.out,hoC'.out,(fun e=>by have:=(World.ownsRow.lt (hoC'.out) _ e.symm).1; simp at this; omega),by omega,by omega,by decide,by decide⟩
     refine Code.wp_mono (fun e aF wF h=>?_) (rD_c hR hIr0.out hl60'.out (by rfl) (by rfl) (by rfl) (by rfl) hkn rfl)
     obtain ⟨rfl,hsm,lvN,LN,CN,wA,wB,wC,wD,wE,gA,oA,gB,oB,gC,gD,oE,gE,rfl⟩:=h
     obtain ⟨v46,v47,v48,v49,v50,v51,v52,v53,v54,v55,v56,v57,v58,v59,v60,v61,v62,rfl⟩:=Same.act17 (lo:=46) hsm (show 46+16 < 134 by decide)
     simp only [Act.put,List.setIfInBounds_toArray,List.set_cons_zero,List.set_cons_succ]
     have ho5:Of (w.heap.size+2) (w.heap.size+3) 30 [] ((wE.setCell ⟨w.heap.size+3,0,none⟩ LN).setCell ⟨w.heap.size+3,1,none⟩ CN) r pa gi LN CN s.R s.Pa s.Gi (s.L ++ [a.l]) :=
      Of.both hof'.out (by decide) (by decide) (by decide) (by decide) (by rw [q4]; exact hoL'.out) hoj'.out gA oA gB (by rw [q4]; exact oB) gC gD (by rw [q4]; exact oE) gE
     have hb5:Below (w.heap.size+2) (rfW w nm0 tx0 (.slice pp n pc) rv cv) ((wE.setCell ⟨w.heap.size+3,0,none⟩ LN).setCell ⟨w.heap.size+3,1,none⟩ CN):=by
      have zA:=gA.size
      have zB:=gB.size
      have zC:=gC.size
      have zD:=gD.size
      exact ((((((hBr'.out.grown gA (by omega) (fun k h=>by cases h)).grown gB (by omega) (fun k h=>by cases h)).grown gC (by omega) (fun k h=>by have:=(World.ownsRow.lt (hoL'.out) k h).1; omega)).grown gD (by omega) (fun k h=>by cases h)).grown gE (by omega) (fun k h=>by have:=(World.ownsRow.lt (hoC'.out) k h).1; omega)).setCell (p:=⟨w.heap.size+3,0,none⟩) (by simp) _).setCell (p:=⟨w.heap.size+3,1,none⟩) (by simp) _
     have hsz5:wr.heap.size≤((wE.setCell ⟨w.heap.size+3,0,none⟩ LN).setCell ⟨w.heap.size+3,1,none⟩ CN).heap.size:=by
      have zA:=gA.size
      have zB:=gB.size
      have zC:=gC.size
      have zD:=gD.size
      have zE:=gE.size
      simp [World.setCell]
      omega
     generalize (wE.setCell ⟨w.heap.size+3,0,none⟩ LN).setCell ⟨w.heap.size+3,1,none⟩ CN=w5 at ho5 hb5 hsz5 ⊢
     have hBw5:Below w.heap.size w w5:=hB0'.out.trans (hb5.mono (by omega))
     have hz1:=rfW_size w nm0 tx0 (.slice pp n pc) rv cv
     have hd5:w5.heap[w.heap.size]? = some (.cells #[.string nm0,.string tx0,.slice pp n pc,rv,cv] 38 (0,0)):=by
      rw [hb5.block _ (by omega)]; exact hD0'.out
     obtain ⟨pb,po,rfl,hpc⟩:=hp2'.out (fun h=>by rw [h] at hpl0; simp at hpl0; omega)
     have hpr:=hpc k hkn
     have hpb:=cell_lt hpr
     obtain ⟨pr,hprd⟩:∃ pr,pr=prs.getD k ByteArray.empty:=⟨_,rfl⟩
     rw [←hprd] at hpr
     have hst2:=hst1'.out
     rw [←hprd] at hst2
     have hop5:=ho5.op
     have hog5:=ho5.og
     have hor5:=ho5.or
     have hops:=map_len s.Pa
     have hogs:=map_len s.Gi
     have hors:=map_len s.R
     have hrp:r.ownBlock=none∨r.ownBlock≠pa.ownBlock:=ho5.rp
     have hgp:gi.ownBlock=none∨gi.ownBlock≠pa.ownBlock:=ho5.pg.symm
     have hgr:gi.ownBlock=none∨gi.ownBlock≠r.ownBlock:=ho5.rg.symm
     have q1':s.R.length≤7:=by simp at q1; omega
     rw [←hnp'.out] at hop5 hops
     have harr:Hid (arrB.toList = [91,105,110,116,93]):=by show arrB.toList=_; decide +kernel
     have hfacts:∀ w6:World,(∀ j,j < w.heap.size+1→w6.heap[j]? = w5.heap[j]?)→w6.cell? ⟨w.heap.size,2,none⟩=some (.slice (some ⟨pb,po,none⟩) n pc)∧w6.cell? ⟨pb,po+k,none⟩=some (.string pr)∧w6.cell? ⟨b,o+k * 3+2,none⟩=some (.slice ap m ac):=by
      intro w6 h6
      have hx:w6.heap[w.heap.size]? = some (.cells #[.string nm0,.string tx0,.slice (some ⟨pb,po,none⟩) n pc,rv,cv] 38 (0,0)):=by rw [h6 _ (by omega)]; exact hd5
      have key:∀ {bb oo:Nat} {vv:Value},w5.cell? ⟨bb,oo,none⟩=some vv→bb < w.heap.size→w6.cell? ⟨bb,oo,none⟩=some vv:=by
       intro bb oo vv hc hb
       unfold World.cell? at hc ⊢
       rw [show w6.heap[(⟨bb,oo,none⟩:Addr).block]? = w5.heap[(⟨bb,oo,none⟩:Addr).block]? from h6 bb (by omega)]
       exact hc
      exact ⟨(cell_of_heap hx).trans rfl,key (cell_below hpr hBw5 hpb) hpb,key (cell_below gw2.out hBw5 gb) gb⟩
     have ho5':Hid _:=ho5
     have hb5':Hid _:=hb5
     have hBw5':Hid _:=hBw5
     have hlp:∀ k,pa.ownBlock=some k→w.heap.size+2≤k:=fun k hk=>(hop5.lt k hk).1
     have hlr:∀ k,r.ownBlock=some k→w.heap.size+2≤k:=fun k hk=>(hor5.lt k hk).1
     have hz5:=hBw5.size
     clear hR gA oA gB oB gC gD oE gE k0 g2 hpc hpr hd5 ho5 hb5 hBw5 hst1' hsm hprd hoL' hoC' hoj' hoP' hof' hBr' hit
     cases hia:isArr pr with
     | true =>
      rw [if_pos hia] at hst2
      have hst3:Hid _:=hst2
      have hia2:(pr.toList==arrB.toList)=true:=by rw [harr.out]; exact hia
      have hisa:=fun (w6:World)=>isArray_c pr w6
      rw [hia2] at hisa
      have hitm:=fun (w2:World)=>decimal_c (m:Int) (by omega) (by omega) w2
      have hts2:=itoa_size (m:Int) (by omega) (by omega)
      obtain ⟨tm,htm⟩:∃ tm,tm=mkD (Lib.itoa (m:Int)):=⟨_,rfl⟩
      rw [←htm] at hitm hts2
      have htm':Hid _:=htm
      clear hst2 hia hia2 htm
      go_wp2_with (first
       | (at_builtin; refine wpList_append_lies _ rfl _ _ _ rfl (w.heap.size+2) 9 i9 _ 1 16 Tryz.underlying36 hi9 h90 h91 h92 rfl (by omega) pa np (s.Pa.map Value.string) (by rfl) (hop5.alloc _) ⟨w5.heap.size,0,none⟩ 1 1 [.string (⟨#[115]⟩++t++⟨#[58,32,115,116,114,101,97,109,32,105,110,116]⟩)] (by rfl) (by rfl) (World.news_of_block (cs:=#[.string (⟨#[115]⟩++t++⟨#[58,32,115,116,114,101,97,109,32,105,110,116]⟩)]) (t:=9) (fr:=(0,0)) (heap_alloc_new w5 _)) (by simp [Value.oneCell']) (by omega) (by unfold maxLen; omega) (by omega) (by simp; omega) (w5.heap.size+1) (by simp) ?_; intro g6 cap6 w6 hown6 hgrow6 hat6 hlt6; have hw6:=hgrow6.size; rw [size_new] at hw6; obtain ⟨c6,d6,e6⟩:=hfacts w6 (fun j hj=>(hgrow6.block j (by rw [size_new]; omega) (fun e=>by have:=hlp j e.symm; omega)).trans (heap_alloc_old _ _ (by omega))))
       | (go_at_call 28; refine (hisa _).mono ?_; rintro e w7 ⟨rfl,hw7⟩; rw [hw7]; clear hw7)
       | (go_at_call 27; refine (hitm _).mono ?_; rintro e w7 ⟨rfl,hw7⟩; rw [hw7]; clear hw7)
       | (at_builtin; refine wpList_append_lies _ rfl _ _ _ rfl (w.heap.size+2) 9 i9 _ 1 16 Tryz.underlying36 hi9 h90 h91 h92 rfl (by omega) r s.R.length (s.R.map Value.string) (by rfl) (((hor5.alloc _).kept hgrow6 hrp).alloc _) ⟨w6.heap.size,0,none⟩ 1 1 [.string packB] (by rfl) (by rfl) (World.news_of_block (cs:=#[.string packB]) (t:=9) (fr:=(0,0)) (heap_alloc_new w6 _)) (by simp [Value.oneCell']) (by omega) (by unfold maxLen; omega) (by omega) (by simp; omega) (w6.heap.size+1) (by simp) ?_; intro g7 cap7 w7 hown7 hgrow7 hat7 hlt7; have hw7:=hgrow7.size; rw [size_new] at hw7)
       | (at_builtin; refine wpList_append_lies _ rfl _ _ _ rfl (w.heap.size+2) 9 i9 _ 1 16 Tryz.underlying36 hi9 h90 h91 h92 rfl (by omega) gi s.Gi.length (s.Gi.map Value.string) (by rfl) (((((hog5.alloc _).kept hgrow6 hgp).alloc _).kept hgrow7 hgr).alloc _) ⟨w7.heap.size,0,none⟩ 1 1 [.string (⟨#[112,97,99,107,40]⟩++(⟨#[115]⟩++t)++⟨#[44,32]⟩++tm++⟨#[41]⟩)] (by rfl) (by rfl) (World.news_of_block (cs:=#[.string (⟨#[112,97,99,107,40]⟩++(⟨#[115]⟩++t)++⟨#[44,32]⟩++tm++⟨#[41]⟩)]) (t:=9) (fr:=(0,0)) (heap_alloc_new w7 _)) (by simp [Value.oneCell']) (by omega) (by unfold maxLen; omega) (by omega) (by simp; omega) (w7.heap.size+1) (by simp) ?_; intro g8 cap8 w8 hown8 hgrow8 hat8 hlt8))
      go_roundw
      case rel =>
       have hb8:Below (w.heap.size+2) (rfW w nm0 tx0 (.slice (some ⟨pb,po,none⟩) n pc) rv cv) w8:=(((((hb5'.out.alloc (by omega) _).grown hgrow6 (by rw [size_new]; omega) (fun k h=>by have:=hlp k h; omega)).alloc (by omega) _).grown hgrow7 (by rw [size_new]; omega) (fun k h=>by have:=hlr k h; omega)).alloc (by omega) _).grown hgrow8 (by rw [size_new]; omega) (fun k h=>by have:=(hog5.lt k h).1; omega)
       have ho6:=(ho5'.out.quiet (World.grownBy_alloc w5 (.cells #[.string (⟨#[115]⟩++t++⟨#[58,32,115,116,114,101,97,109,32,105,110,116]⟩)] 9) none)).app2 (by decide) (by rw [←hnp'.out]; exact hown6) hgrow6 (by rw [size_new]; exact hat6)
       have ho7:=(ho6.quiet (World.grownBy_alloc w6 (.cells #[.string packB] 9) none)).app1 (ys:=[packB]) (by decide) hown7 hgrow7 (by rw [size_new]; exact hat7)
       have ho8:=(ho7.quiet (World.grownBy_alloc w7 (.cells #[.string (⟨#[112,97,99,107,40]⟩++(⟨#[115]⟩++t)++⟨#[44,32]⟩++tm++⟨#[41]⟩)] 9) none)).app3 (by decide) hown8 hgrow8 (by rw [size_new]; exact hat8)
       have hpk:pckB np m=⟨#[112,97,99,107,40]⟩++(⟨#[115]⟩++t)++⟨#[44,32]⟩++tm++⟨#[41]⟩:=by unfold pckB; rw [hnm.out,← htm'.out]
       rw [q3,← hpk,← hpar.out,← hnp'.out] at ho8
       refine ⟨k+1,_,_,_,LN,CN,by omega,rfl,rfl,rfl,by go_num,?_,hb8⟩
       rw [hst3.out]
       unfold stArr
       rw [←hnp'.out,← hm'.out]
       exact ho8
      case measure=>simp [intOf]; omega
     | false =>
      rw [if_neg (by rw [hia]; decide)] at hst2
      have hst3:Hid _:=hst2
      have hia2:(pr.toList==arrB.toList)=false:=by rw [harr.out]; exact hia
      have hisa:=fun (w6:World)=>isArray_c pr w6
      rw [hia2] at hisa
      clear hst2 hia hia2
      go_wp2_with (first
       | (at_builtin; refine wpList_append_lies _ rfl _ _ _ rfl (w.heap.size+2) 9 i9 _ 1 16 Tryz.underlying36 hi9 h90 h91 h92 rfl (by omega) pa np (s.Pa.map Value.string) (by rfl) (hop5.alloc _) ⟨w5.heap.size,0,none⟩ 1 1 [.string (⟨#[115]⟩++t++⟨#[58,32,115,116,114,101,97,109,32,105,110,116]⟩)] (by rfl) (by rfl) (World.news_of_block (cs:=#[.string (⟨#[115]⟩++t++⟨#[58,32,115,116,114,101,97,109,32,105,110,116]⟩)]) (t:=9) (fr:=(0,0)) (heap_alloc_new w5 _)) (by simp [Value.oneCell']) (by omega) (by unfold maxLen; omega) (by omega) (by simp; omega) (w5.heap.size+1) (by simp) ?_; intro g6 cap6 w6 hown6 hgrow6 hat6 hlt6; have hw6:=hgrow6.size; rw [size_new] at hw6; obtain ⟨c6,d6,e6⟩:=hfacts w6 (fun j hj=>(hgrow6.block j (by rw [size_new]; omega) (fun e=>by have:=hlp j e.symm; omega)).trans (heap_alloc_old _ _ (by omega))))
       | (go_at_call 28; refine (hisa _).mono ?_; rintro e w7 ⟨rfl,hw7⟩; rw [hw7]; clear hw7)
       | (at_builtin; refine wpList_append_lies _ rfl _ _ _ rfl (w.heap.size+2) 9 i9 _ 1 16 Tryz.underlying36 hi9 h90 h91 h92 rfl (by omega) gi s.Gi.length (s.Gi.map Value.string) (by rfl) (((hog5.alloc _).kept hgrow6 hgp).alloc _) ⟨w6.heap.size,0,none⟩ 1 1 [.string (⟨#[115]⟩++t)] (by rfl) (by rfl) (World.news_of_block (cs:=#[.string (⟨#[115]⟩++t)]) (t:=9) (fr:=(0,0)) (heap_alloc_new w6 _)) (by simp [Value.oneCell']) (by omega) (by unfold maxLen; omega) (by omega) (by simp; omega) (w6.heap.size+1) (by simp) ?_; intro g8 cap8 w8 hown8 hgrow8 hat8 hlt8))
      go_roundw
      case rel =>
       have hb8:Below (w.heap.size+2) (rfW w nm0 tx0 (.slice (some ⟨pb,po,none⟩) n pc) rv cv) w8:=(((hb5'.out.alloc (by omega) _).grown hgrow6 (by rw [size_new]; omega) (fun k h=>by have:=hlp k h; omega)).alloc (by omega) _).grown hgrow8 (by rw [size_new]; omega) (fun k h=>by have:=(hog5.lt k h).1; omega)
       have ho6:=(ho5'.out.quiet (World.grownBy_alloc w5 (.cells #[.string (⟨#[115]⟩++t++⟨#[58,32,115,116,114,101,97,109,32,105,110,116]⟩)] 9) none)).app2 (by decide) (by rw [←hnp'.out]; exact hown6) hgrow6 (by rw [size_new]; exact hat6)
       have ho8:=(ho6.quiet (World.grownBy_alloc w6 (.cells #[.string (⟨#[115]⟩++t)] 9) none)).app3 (by decide) hown8 hgrow8 (by rw [size_new]; exact hat8)
       rw [q3,← hpar.out,← hnm.out,← hnp'.out] at ho8
       refine ⟨k+1,r,_,_,LN,CN,by omega,rfl,rfl,rfl,by go_num,?_,hb8⟩
       rw [hst3.out]
       unfold stStr
       rw [←hnp'.out]
       exact ho8
      case measure=>simp [intOf]; omega
  · obtain rfl:k=n:=by omega
    obtain ⟨s,hs⟩:∃ s,s=stK [packB] nm0 prs xs k:=⟨_,rfl⟩
    have hst:stK [packB] nm0 prs xs xs.length=s:=by rw [←hn'.out]; exact hs.symm
    rw [←hs] at hof
    have hst':Hid (stK [packB] nm0 prs xs k=s):=hs.symm
    have hszs:Hid _:=stK_size [packB] nm0 prs xs hL'.out hN'.out k hl (Nat.le_of_eq hn'.out)
    have hsln:Hid _:=stK_len [packB] nm0 prs xs k
    rw [←hs] at hszs hsln
    have hnd2:=hnd'.out
    rw [hst] at hnd2
    have hBw:Below w.heap.size w wr:=hB0'.out.trans (hBr.mono (by omega))
    have hwr:=hBr.size
    have hIw:=hIm'.out _ _ hBw hI0'.out
    have hcn:=hnd2 wr r hof.or hBw hIw
    obtain ⟨N,hNt⟩:∃ N,N=tys.length:=⟨_,rfl⟩
    have hbl2:=hbl'.out
    rw [←hNt] at hbl2
    have hN100:N≤100:=by have:=htl'.out; omega
    have hcn2:=hcn.mono (R':=fun e w'=>∃ pB cB,e = .returned (.slice pB N cB)∧(nds≠[]→∃ b off,pB=some ⟨b,off,none⟩∧∀ i,i < N→w'.cell? ⟨b,off+i,none⟩=some (.string (nds.getD i ByteArray.empty)))∧Below wr.heap.size wr w') (by
     rintro e w' ⟨v',rfl,⟨pB,cB,rfl,hq⟩,hB⟩
     exact ⟨pB,cB,by rw [hbl2],fun h=>by rw [←hbl2]; exact hq h,hB⟩)
    have hNt':Hid (N=tys.length):=hNt
    have hbr0:wr.heap[w.heap.size+1]? = some (.cells #[.slice none 0 0,.slice none 0 0] 30 (0,0)):=by rw [hBr.block _ (by omega)]; exact hR0'.out
    have hd0:wr.heap[w.heap.size]? = some (.cells #[.string nm0,.string tx0,.slice pp k pc,rv,cv] 38 (0,0)):=by rw [hBr.block _ (by omega)]; exact hD0'.out
    have hbr':Hid _:=hbr0
    have hd':Hid _:=hd0
    have hof':Hid _:=hof
    have hBw':Hid _:=hBw
    obtain ⟨S0,hS0e⟩:∃ S0,S0=wr.heap.size:=⟨_,rfl⟩
    have hS0':w.heap.size+4≤S0:=by omega
    obtain ⟨w0,hw0⟩:∃ w0,w0=wr:=⟨_,rfl⟩
    have hall:Hid (∀ wx,Below S0 w0 wx→Of (w.heap.size+2) (w.heap.size+3) 30 [] wx r pa gi Lv Cv s.R s.Pa s.Gi s.L∧wx.heap[w.heap.size]? = some (.cells #[.string nm0,.string tx0,.slice pp k pc,rv,cv] 38 (0,0))∧wx.heap[w.heap.size+1]? = some (.cells #[.slice none 0 0,.slice none 0 0] 30 (0,0))∧Below w.heap.size w wx∧I wx):=by
     intro wx hBx
     rw [hw0,hS0e] at hBx
     refine ⟨hof.quiet (grown_below hBx),?_,?_,hBw.trans (hBx.mono (by omega)),hIm'.out _ _ hBx hIw⟩
     · rw [hBx.block _ (by omega)]; exact hd0
     · rw [hBx.block _ (by omega)]; exact hbr0
    have hBx0:Hid (Below S0 w0 wr):=by show Below S0 w0 wr; rw [hw0]; exact Below.refl _ _
    have hS0w:S0=w0.heap.size:=by rw [hS0e,hw0]
    rw [hS0e.symm] at hcn2
    have hw0':Hid _:=hw0
    clear hs hst hnd2 hNt hbl2 hof hBr hBw hIw hcn hbr0 hd0 hS0e hw0
    go_wp2_with (go_at_call 19; refine hcn2.mono ?_; rintro e w17 ⟨pB,cB,rfl,hbq,hB17⟩)
    have hB17':Hid (Below S0 w0 w17):=by show Below S0 w0 w17; rw [hw0'.out]; exact hB17
    have hbq':Hid _:=hbq
    clear hbq hB17 hcn2
    go_loopw [7,14] (fun tx i wx=>∃ j:Nat,j≤N∧i = .int .i64 j∧tx = .string (catN tys j)∧Below w17.heap.size w17 wx) (fun _ i _=>N - (intOf i).toNat)
    case atStart=>exact ⟨0,Nat.zero_le _,rfl,rfl,Below.refl _ _⟩
    case round =>
     obtain ⟨j,hj,rfl,rfl,hBj⟩:=hrel
     by_cases hjN:j < N
     · obtain ⟨b2,o2,rfl,hq2⟩:=hbq'.out (fun h=>by have:=hbl'.out; have:=hNt'.out; rw [h] at *; simp at *; omega)
       have hc2:=hq2 j hjN
       have hc3:=cell_below hc2 hBj (cell_lt hc2)
       have hBwj:Below S0 w0 wr:=(hB17'.out).trans (hBj.mono (by have:=hB17'.out.size; omega))
       obtain ⟨_,_,_,hbw2,hIj⟩:=hall.out _ hBwj
       have hf:=hfd'.out wr j (by rw [hbl'.out,← hNt'.out]; exact hjN) hbw2 hIj
       have hsx:(catN tys j).size≤100 * 1000001:=Nat.le_trans (catN_size tys 1000000 hts'.out j) (Nat.mul_le_mul_right _ (by omega))
       have hsy:=hts'.out j
       have hcat:Hid (catN tys (j+1)=catN tys j++(tys.getD j ByteArray.empty++⟨#[10]⟩)):=rfl
       obtain ⟨tj,htj⟩:∃ tj,tj=tys.getD j ByteArray.empty:=⟨_,rfl⟩
       rw [←htj] at hf hsy hcat
       obtain ⟨cj,hcj⟩:∃ cj,cj=catN tys j:=⟨_,rfl⟩
       rw [←hcj] at hsx hcat ⊢
       have hBj':Hid (Below w17.heap.size w17 wr):=hBj
       have hzj:=hBj.size
       have hf':=hf.mono (R':=fun e w'=>∃ q0 p2 n2 c2 p3 n3 c3 p4 n4 c4 u5,e = .returned (.tuple #[.agg #[.string q0,.string tj,.slice p2 n2 c2,.slice p3 n3 c3,.slice p4 n4 c4],.int .i64 u5])∧Below wr.heap.size wr w') (fun e w' h=>h)
       clear hcj htj hq2 hc2 hBwj hbw2 hIj hBj hf
       go_wp2_with (go_at_call 9; refine hf'.mono ?_; rintro e w18 ⟨q0,p2,n2,c2,p3,n3,c3,p4,n4,c4,u5,rfl,hB18⟩)
       go_roundw
       case rel =>
        refine ⟨j+1,by omega,by go_num,?_,(hBj'.out.trans (hB18.mono (by omega))).alloc (by have:=hB18.size; omega) _⟩
        rw [hcat.out]
       case measure=>simp [intOf]; omega
     · obtain rfl:j=N:=by omega
       have hBwj:Below S0 w0 wr:=(hB17'.out).trans (hBj.mono (by have:=hB17'.out.size; omega))
       obtain ⟨m1,m2,m3,m4,_⟩:=hall.out _ hBwj
       have hsx:(catN tys j).size≤100 * 1000001:=Nat.le_trans (catN_size tys 1000000 hts'.out j) (Nat.mul_le_mul_right _ (by omega))
       obtain ⟨z1,z2⟩:=hszs.out
       obtain ⟨_,z3,z4,z5⟩:=hsln.out
       have hsep:sepB.size=2:=rfl
       have y1:(joinB s.Pa sepB).size≤1000000:=by
        have:=joinB_all sepB 34 z1
        rw [hsep] at this
        have:=Nat.mul_le_mul_right (34+2) (Nat.le_trans z3 hl)
        omega
       have y3:(joinB s.Gi sepB).size≤1000000:=by
        have:=joinB_all sepB 51 z2
        rw [hsep] at this
        have:=Nat.mul_le_mul_right (51+2) (Nat.le_trans (Nat.le_of_eq z4) hl)
        omega
       have y2:(joinB res sepB).size≤1000000:=by
        have:=joinB_all sepB 100 hres'.out
        rw [hsep] at this
        have:=Nat.mul_le_mul_right (100+2) hrl'.out
        omega
       obtain ⟨pL,cL,hLe⟩:=slice_of m1.oL.choose_spec.1
       obtain ⟨pC,cC,hCe⟩:=slice_of m1.oC
       have hgr:∀ w2:World,w2.grownBy w2 none:=fun w2=>⟨rfl,rfl,rfl,Nat.le_refl _,fun _ _ _=>rfl⟩
       have m1':Hid _:=m1
       have m3':Hid _:=m3
       have m4':Hid _:=m4
       have hSd:Hid (Sd w.heap.size (w.heap.size+3) rv Lv Cv nm0 wr):=⟨⟨(cell_of_heap m2).trans rfl,(cell_of_heap m2).trans rfl⟩,m1.hp⟩
       have hLe':Hid _:=hLe
       have hCe':Hid _:=hCe
       have hrl:=hrl'.out
       have z34:s.Pa.length≤6∧s.Gi.length≤6:=⟨by omega,by omega⟩
       have hlen':Hid _:=z5
       clear hBwj m1 m2 m3 m4 z1 z2 z3 z4 z5 hLe hCe hBj
       go_wp2
       refine Code.wp_mono (fun e aF wF h=>?_) (rE_c (T:=catN tys j) (bp:=w.heap.size+3) (br:=w.heap.size+1) (u1:=.slice none 0 0) (u2:=.slice none 0 0) (j1:=joinB s.Pa sepB) (j2:=joinB res sepB) (j3:=joinB s.Gi sepB) (by rfl) (by rfl) (by rfl) (by rfl) (by rfl) (by rfl) (by rfl) hSd.out m3'.out (by omega) (by omega) (by rw [hLe'.out]; rfl) (by rw [hCe'.out]; rfl) (fun w2 g=>?_) (fun w2 g=>?_) (fun w2 g=>?_) (by omega) y1 y2 y3 hnm0'.out)
       rotate_left
       · refine (refJoin_c s.Pa sepB pa w2 (own_hasS (own_none (Of.op m1'.out) g)).1 (by omega) (by omega)).mono ?_
         rintro e w' ⟨rfl,rfl⟩
         exact ⟨rfl,hgr _⟩
       · refine (refJoin_c res sepB rv w2 (HasS.below (HasS.below (w:=w) (v:=rv) (l:=res) hr'.out m4'.out) ((Below.refl _ _).grown g (Nat.le_refl _) (fun k h=>by cases h))) (by omega) (by omega)).mono ?_
         rintro e w' ⟨rfl,rfl⟩
         exact ⟨rfl,hgr _⟩
       · refine (refJoin_c s.Gi sepB gi w2 (own_hasS (own_none (Of.og m1'.out) g)).1 (by omega) (by omega)).mono ?_
         rintro e w' ⟨rfl,rfl⟩
         exact ⟨rfl,hgr _⟩
       obtain ⟨rfl,⟨aM,hsm,rfl⟩,w2,g2,rfl⟩:=h
       obtain ⟨v114,v115,v116,v117,v118,v119,v120,v121,v122,v123,v124,v125,v126,v127,v128,v129,v130,v131,v132,v133,rfl⟩:=Same.act20 (lo:=114) hsm (show 114+19 < 134 by decide)
       simp only [Act.put,List.setIfInBounds_toArray,List.set_cons_zero,List.set_cons_succ]
       have r2:=row_keep m3'.out g2 (by simp)
       have r4:=setRow_heap w2 (w.heap.size+1) _ #[Lv,Cv] _ _ r2
       have q2:Lst (w.heap.size+2) w2 Lv Cv s.L:=⟨(Of.quiet m1'.out g2).oL,(Of.quiet m1'.out g2).oC⟩
       have q4:Lst (w.heap.size+2) (w2.setRow (w.heap.size+1) #[Lv,Cv]) Lv Cv s.L:=q2.setRow r2
       have b2:Below w.heap.size w w2:=Below.grown m4'.out g2 (by have:=m4'.out.size; omega) (fun k h=>by cases h)
       have b4:Below w.heap.size w (w2.setRow (w.heap.size+1) #[Lv,Cv]):=⟨b2.os,b2.tape,b2.output,by have:=b2.size; simp [World.setRow]; exact this,fun k hk=>(setRow_other _ _ _ _ (by omega)).trans (b2.block k hk)⟩
       obtain ⟨W4,hW4⟩:∃ W4,W4=w2.setRow (w.heap.size+1) #[Lv,Cv]:=⟨_,rfl⟩
       rw [←hW4] at r4 q4 b4 ⊢
       have j0:W4.cell? ⟨w.heap.size+1,0,none⟩=some Lv:=(cell_of_heap r4).trans rfl
       have j1:W4.cell? ⟨w.heap.size+1,1,none⟩=some Cv:=(cell_of_heap r4).trans rfl
       have q4':Hid _:=q4
       have b4':Hid _:=b4
       clear hW4 r2 r4 q2 q4 b2 b4 g2 hsm
       obtain ⟨TT,hTT⟩:∃ TT,TT=catN tys j++mA++joinB s.Pa sepB++mB++joinB res sepB++mC++nm0++mD++joinB s.Gi sepB++mE:=⟨_,rfl⟩
       rw [←hTT]
       have hTT':Hid _:=hTT
       clear hTT
       go_wp2
       refine bodyPost_ret (v:=.tuple #[.string TT,.agg #[Lv,Cv]]) (by simp [results,Tryz.results11,go_sem,j0,j1]; try rfl) rfl ?_
       refine ⟨Lv,Cv,?_,?_,b4'.out⟩
       · rw [hst'.out,hTT'.out]
         unfold textR
         rw [←hNt'.out]
       · rw [hst'.out]; exact q4'.out
end Lb
end Go.Proofs
