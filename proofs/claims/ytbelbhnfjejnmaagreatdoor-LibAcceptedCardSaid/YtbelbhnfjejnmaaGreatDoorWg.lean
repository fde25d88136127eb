/- PROVED HERE: a part (Wg) of the tied card of LibAccepted (floodgatelaw25). CONDITIONS: those of the given row and card alone. -/
import Derived.Test.YtbelbhnfjejnmaaGreatDoorWe
import Derived.Test.YtbelbhnfjejnmaaGreatDoorWf
namespace Go.Proofs
open Go.RowKit
namespace Lb
theorem infoStr:(Tryz.prog.info? 9).map (fun i=>(i.zero,i.size,i.bytes))=some (some (.string ByteArray.empty),1,16):=by kernel_rfl
theorem map_len (l:List ByteArray):(l.map Value.string).length=l.length:=List.length_map _
theorem slice_of {w:World} {B e s n:Nat} {v:Value} {xs:List Value} (h:w.ownsRow B e s v n xs):∃ p c,v = .slice p n c:=by
 rcases h.2 with ⟨rfl,rfl⟩ | ⟨g,c,cur,rfl,_⟩
 · exact ⟨_,_,rfl⟩
 · exact ⟨_,_,rfl⟩
theorem own_mono {w:World} {B B' e s n:Nat} {v:Value} {xs:List Value} (h:w.ownsRow B e s v n xs) (hb:B'≤B):w.ownsRow B' e s v n xs:=⟨h.1,h.2.elim .inl fun ⟨g,c,cur,a,b,r⟩=>.inr ⟨g,c,cur,a,Nat.le_trans hb b,r⟩⟩
theorem isNum_lt {n:Int} (h:isNum n=true) : -9223372036854775808≤n∧n≤9223372036854775807:=by
 unfold isNum at h
 simp at h
 omega
def Lst (B:Nat) (w:World) (Lv Cv:Value) (L:List (List Int)):Prop :=
 (∃ lvs,w.ownsRow B 37 1 Lv L.length lvs∧∀ j,j < L.length→∃ lv,lvs[j]? = some lv∧w.ownsRow B 3 1 lv (L.getD j []).length ((L.getD j []).map (Value.int .i64)))∧w.ownsRow B 4 1 Cv L.length (List.replicate L.length (Value.bool true))
theorem Lst.setCell {B Bp:Nat} {w:World} {Lv Cv:Value} {L:List (List Int)} {cs:Array Value} (h:Lst B w Lv Cv L) (hp:w.heap[Bp]? = some (.cells cs 69 (0,0))) (j:Nat) (v:Value):Lst B (w.setCell ⟨Bp,j,none⟩ v) Lv Cv L:=by
 obtain ⟨⟨lvs,h1,h2⟩,h3⟩:=h
 exact ⟨⟨lvs,ownsRow_setCell_other h1 (fun h=>bp_ne hp h1 (by decide) h.symm) v,fun j hj=>let ⟨lv,a,b⟩:=h2 j hj; ⟨lv,a,ownsRow_setCell_other b (fun h=>bp_ne hp b (by decide) h.symm) v⟩⟩,ownsRow_setCell_other h3 (fun h=>bp_ne hp h3 (by decide) h.symm) v⟩
def textB (bs:List Bool) (txs res:List ByteArray) (nm:ByteArray) (s:St):ByteArray:=catT bs txs txs.length++mainB (joinB s.Pa sepB) (joinB res sepB) nm (joinB s.Gi sepB)
set_option maxRecDepth 100000 in
set_option maxHeartbeats 6400000 in
theorem of_c (nm0 tx0:ByteArray) (prs res:List ByteArray) (xs:List AArg) (lv pv rv cv v:Value) (w:World) (hp:HasS w pv prs) (h:HasA w v xs) (hl:xs.length≤6) (hL:∀ a∈xs,a.l.length≤60) (hN:∀ a∈xs,isNum a.n=true) (hpl:prs.length=xs.length) (hT:Tab w)
 (hr:HasS w rv res) (hres:∀ x∈res,x.size≤100) (hrl:res.length≤100) (hrc:∀ p c,rv = .slice p res.length c→res.length≤c) (hnm:nm0.size≤1000000)
 (bs:List Bool) (txs:List ByteArray) (ht:HasT w lv txs) (htl:txs.length≤100) (hts:∀ i,(txs.getD i ByteArray.empty).size≤1000000) (hbl:bs.length=txs.length)
 (hnd:∀ (w1:World) (r:Value),w1.ownsRow (w.heap.size+2) 9 1 r (stK [nthB,packB] nm0 prs xs xs.length).R.length ((stK [nthB,packB] nm0 prs xs xs.length).R.map Value.string)→Below w.heap.size w w1 →
  Calls Tryz.prog 80 #[lv,r] w1 fun e w'=>∃ v',e = .returned v'∧HasB w' v' bs∧Below w1.heap.size w1 w') :
 Calls Tryz.prog 35 #[lv,.agg #[.string nm0,.string tx0,pv,rv,cv],v] w fun e w' =>
  ∃ Lv Cv,e = .returned (.agg #[Lv,Cv,.string (textB bs txs res nm0 (stK [nthB,packB] nm0 prs xs xs.length))])∧Lst (w.heap.size+2) w' Lv Cv (stK [nthB,packB] nm0 prs xs xs.length).L∧Below w.heap.size w w':=by
 obtain ⟨pp,pc,rfl,hp2⟩:=hp
 obtain ⟨p,c,rfl,h2⟩:=h
 obtain ⟨n,hn⟩:∃ n,n=xs.length:=⟨_,rfl⟩
 have hpl0:=hpl
 rw [hpl,← hn]
 rw [hpl,← hn] at hp2
 rw [←hn] at hpl0
 rw [←hn] at hl h2
 have hB0:=ofW_below w nm0 tx0 (.slice pp n pc) rv cv
 have hz0:=ofW_size w nm0 tx0 (.slice pp n pc) rv cv
 have hS0:=ofW_start w nm0 tx0 (.slice pp n pc) rv cv
 have hD0:=ofW_d w nm0 tx0 (.slice pp n pc) rv cv
 have hn':Hid (n=xs.length):=hn
 have h2':Hid _:=h2
 have hp2':Hid _:=hp2
 have hL':Hid _:=hL
 have hN':Hid _:=hN
 have hT':Hid _:=hT
 have hB0':Hid _:=hB0
 have hS0':Hid _:=hS0
 have hD0':Hid _:=hD0
 obtain ⟨i9,hi9,h90,h91,h92⟩:=info_parts infoStr
 obtain ⟨i45,hi45,h450,h451,h452⟩:=info_parts infoInts
 obtain ⟨i4,hi4,h40,h41,h42⟩:=info_parts infoBool
 have hr':Hid _:=hr
 have hres':Hid _:=hres
 have hrc':Hid _:=hrc
 have ht':Hid _:=ht
 have hts':Hid _:=hts
 have hnd':Hid _:=hnd
 have hrl':Hid _:=hrl
 have htl':Hid _:=htl
 have hbl':Hid _:=hbl
 have hnm0':Hid _:=hnm
 clear hn h2 hp2 hL hpl hB0 hS0 hD0 hN hT hr hres hrc ht hts hnd hrl htl hbl hnm
 go_enter Tryz.func35,Tryz.ntmps35
 go_wp2
 go_loopw [7,8,9,21] (fun s7 s8 s9 i wr=>∃ (k:Nat) (r pa gi Lv Cv:Value),k≤n∧r=s7∧pa=s8∧gi=s9∧i = .int .i64 k ∧
  Of (w.heap.size+2) (w.heap.size+1) 69 [.string ⟨#[]⟩] wr r pa gi Lv Cv (stK [nthB,packB] nm0 prs xs k).R (stK [nthB,packB] nm0 prs xs k).Pa (stK [nthB,packB] nm0 prs xs k).Gi (stK [nthB,packB] nm0 prs xs k).L ∧
  Below (w.heap.size+1) (ofW w nm0 tx0 (.slice pp n pc) rv cv) wr) (fun _ _ _ i _=>n - (intOf i).toNat)
 case atStart=>exact ⟨0,_,_,_,_,_,Nat.zero_le _,rfl,rfl,rfl,rfl,hS0'.out,Below.refl _ _⟩
 case round =>
  obtain ⟨k,r,pa,gi,Lv,Cv,hk,rfl,rfl,rfl,rfl,hof,hBr⟩:=hrel
  by_cases hkn:k < n
  · obtain ⟨b,o,rfl,hq⟩:=h2'.out (fun h=>by have:=hn'.out; rw [h] at this; simp at this; omega)
    obtain ⟨av,g0,g1,g2,hI,hLL⟩:=hq k hkn
    have hxm:xs.getD k default∈xs:=by rw [List.getD_eq_getElem?_getD,List.getElem?_eq_getElem (by rw [←hn'.out]; exact hkn)]; exact List.getElem_mem _
    have hl60:=hL'.out _ hxm
    have hnum:=isNum_lt (hN'.out _ hxm)
    have hBw:Below w.heap.size w wr:=hB0'.out.trans (hBr.mono (by omega))
    have g0:=cell_below g0 hBw (cell_lt g0)
    have g1:=cell_below g1 hBw (cell_lt g1)
    have g2:=cell_below g2 hBw (cell_lt g2)
    have hIr:=hI.below hBw
    have hI0:Hid _:=hI
    have hTr:Tab wr:=Tab.below hT'.out hBw
    obtain ⟨ap,ac,rfl,hcells⟩:=hIr
    have hst:∀ s,st1 [nthB,packB] (prs.getD k ByteArray.empty) (xs.getD k default) (stK [nthB,packB] nm0 prs xs k)=s→stK [nthB,packB] nm0 prs xs (k+1)=s:=fun s h=>h
    obtain ⟨q1,q2,q3,q4⟩:=stK_len [nthB,packB] nm0 prs xs k
    obtain ⟨s,hs⟩:∃ s,s=stK [nthB,packB] nm0 prs xs k:=⟨_,rfl⟩
    rw [←hs] at hof hst q1 q2 q3 q4
    have hwr:=hBr.size
    clear hq hI hLL hs
    cases hil:(xs.getD k default).il with
    | false =>
     rw [hil] at g0
     have hst1:Hid (stK [nthB,packB] nm0 prs xs (k+1)=stNum (xs.getD k default) s):=hst _ (by unfold st1; rw [if_pos hil])
     obtain ⟨a,ha⟩:∃ a,a=xs.getD k default:=⟨_,rfl⟩
     rw [←ha] at g1 g2 hl60 hnum hcells hst1
     obtain ⟨z,hz⟩:∃ z,z=a.n:=⟨_,rfl⟩
     obtain ⟨m,hm⟩:∃ m,m=a.l.length:=⟨_,rfl⟩
     rw [←hz] at g1 hnum
     rw [←hm] at g2
     have hal:Below wr.heap.size wr (wr.alloc (.cells #[.bool false,.int .i64 z,.slice ap m ac] 49)):=(Below.refl _ _).alloc (Nat.le_refl _) _
     have hit:=itoa_q z hnum.1 hnum.2 _ (Tab.below hTr hal)
     have hz':Hid (z=a.n):=hz
     have hof':Hid _:=hof
     have hBr':Hid _:=hBr
     have hal':Hid _:=hal
     have hog:=hof.og
     have hogs:=map_len s.Gi
     clear ha hm hz hst hil hcells hof hBr hBw hal hTr
     go_wp2_with (first | (go_at_call 78; refine hit.mono ?_; rintro e w1 ⟨rfl,hg1⟩) | (at_builtin; refine wpList_append_lies _ rfl _ _ _ rfl (w.heap.size+2) 9 i9 _ 1 16 Tryz.underlying108 hi9 h90 h91 h92 rfl (by omega) gi s.Gi.length (s.Gi.map Value.string) (by rfl) ((own_none (own_none hog (grown_below hal'.out)) hg1).alloc _) ⟨w1.heap.size,0,none⟩ 1 1 [.string (mkD (Lib.itoa z))] (by rfl) (by rfl) (World.news_of_block (cs:=#[.string (mkD (Lib.itoa z))]) (t:=9) (fr:=(0,0)) (heap_alloc_new w1 _)) (by simp [Value.oneCell']) (by omega) (by unfold maxLen; omega) (by omega) (by have:=hg1.size; simp at this ⊢; omega) (w1.heap.size+1) (by simp) ?_; intro gg cap w3 hown3 hgrow3 hat3 hlt3))
     go_roundw
     case rel =>
      have hw1:=hg1.size
      rw [size_new] at hw1
      have hb3:Below (w.heap.size+1) (ofW w nm0 tx0 (.slice pp n pc) rv cv) w3:=(((hBr'.out.alloc (by omega) _).grown hg1 (by rw [size_new]; omega) (fun k h=>by cases h)).alloc (by omega) _).grown hgrow3 (by rw [size_new]; omega) (fun k h=>by have:=(hog.lt k h).1; omega)
      have ho3:=(((hof'.out.quiet (grown_below hal'.out)).quiet hg1).quiet (World.grownBy_alloc w1 (.cells #[.string (mkD (Lib.itoa z))] 9) none)).app3 (by decide) hown3 hgrow3 (by rw [size_new]; exact hat3)
      rw [q3] at ho3
      refine ⟨k+1,r,pa,_,Lv,Cv,by omega,rfl,rfl,rfl,by go_num,?_,hb3⟩
      rw [hst1.out]
      unfold stNum
      rw [←hz'.out]
      exact ho3
     case measure=>simp [intOf]; omega
    | true =>
     rw [hil] at g0
     have hst1:stK [nthB,packB] nm0 prs xs (k+1)=if isArr (prs.getD k ByteArray.empty)=true then stArr [nthB,packB] (xs.getD k default) s else stStr (xs.getD k default) s:=hst _ (by unfold st1; rw [if_neg (by rw [hil]; decide)])
     obtain ⟨a,ha⟩:∃ a,a=xs.getD k default:=⟨_,rfl⟩
     rw [←ha] at g1 g2 hl60 hnum hcells hst1 hI0
     have hst1':Hid _:=hst1
     obtain ⟨z,hz⟩:∃ z,z=a.n:=⟨_,rfl⟩
     obtain ⟨m,hm⟩:∃ m,m=a.l.length:=⟨_,rfl⟩
     rw [←hz] at g1 hnum
     rw [←hm] at g2 hl60
     have hm':Hid (m=a.l.length):=hm
     have hal:Below wr.heap.size wr (wr.alloc (.cells #[.bool true,.int .i64 z,.slice ap m ac] 49)):=(Below.refl _ _).alloc (Nat.le_refl _) _
     have hop:=hof.op
     obtain ⟨p8,c8,rfl⟩:=slice_of hop
     have hps:=map_len s.Pa
     obtain ⟨np,hnp⟩:∃ np,np=s.Pa.length:=⟨_,rfl⟩
     have hit:=itoa_q (np:Int) (by omega) (by omega) _ (Tab.below hTr hal)
     have hts:=itoa_size (np:Int) (by omega) (by omega)
     obtain ⟨t,ht⟩:∃ t,t=mkD (Lib.itoa (np:Int)):=⟨_,rfl⟩
     rw [←ht] at hit hts
     have hpar:Hid (parB np=⟨#[115]⟩++t++⟨#[58,32]⟩++⟨#[115,116,114,101,97,109,32,105,110,116]⟩):=by show _=_; rw [ht]; rfl
     have hnm:Hid (nmB np=⟨#[115]⟩++t):=by show _=_; rw [ht]; rfl
     have hof':Hid _:=hof
     have hBr':Hid _:=hBr
     have hal':Hid _:=hal
     have hI':Hid _:=hcells
     rw [←hnp] at hof' hop hps q2
     have hnp':Hid (np=s.Pa.length):=hnp
     rw [←hnp]
     clear ha hm hz hst hil hcells hof hBr hBw hal hTr ht hst1 hnp
     go_wp2_with (first | (go_at_call 78; refine hit.mono ?_; rintro e w1 ⟨rfl,hg1⟩) | (at_builtin; refine wpList_append_lies _ rfl _ _ _ rfl (w.heap.size+2) 9 i9 _ 1 16 Tryz.underlying108 hi9 h90 h91 h92 rfl (by omega) (.slice p8 np c8) np (s.Pa.map Value.string) (by rfl) ((own_none (own_none hop (grown_below hal'.out)) hg1).alloc _) ⟨w1.heap.size,0,none⟩ 1 1 [.string (⟨#[115]⟩++t++⟨#[58,32]⟩++⟨#[115,116,114,101,97,109,32,105,110,116]⟩)] (by rfl) (by rfl) (World.news_of_block (cs:=#[.string (⟨#[115]⟩++t++⟨#[58,32]⟩++⟨#[115,116,114,101,97,109,32,105,110,116]⟩)]) (t:=9) (fr:=(0,0)) (heap_alloc_new w1 _)) (by simp [Value.oneCell']) (by omega) (by unfold maxLen; omega) (by omega) (by have:=hg1.size; simp at this ⊢; omega) (w1.heap.size+1) (by simp) ?_; intro g3 cap3 w3 hown3 hgrow3 hat3 hlt3))
     have hw1:=hg1.size
     rw [size_new] at hw1
     have hw3:=hgrow3.size
     rw [size_new] at hw3
     have hb3:Below (w.heap.size+1) (ofW w nm0 tx0 (.slice pp n pc) rv cv) w3:=(((hBr'.out.alloc (by omega) _).grown hg1 (by rw [size_new]; omega) (fun k h=>by cases h)).alloc (by omega) _).grown hgrow3 (by rw [size_new]; omega) (fun k h=>by have:=(hop.lt k h).1; omega)
     have ho3:=(((hof'.out.quiet (grown_below hal'.out)).quiet hg1).quiet (World.grownBy_alloc w1 (.cells #[.string (⟨#[115]⟩++t++⟨#[58,32]⟩++⟨#[115,116,114,101,97,109,32,105,110,116]⟩)] 9) none)).app2 (x:=⟨#[115]⟩++t++⟨#[58,32]⟩++⟨#[115,116,114,101,97,109,32,105,110,116]⟩) (g:=g3) (c:=cap3) (by decide) (by rw [←hnp'.out]; exact hown3) hgrow3 (by rw [size_new]; exact hat3)
     rw [←hnp'.out,← hpar.out] at ho3
     have ha3:w3.heap[wr.heap.size]? = some (.cells #[.bool true,.int .i64 z,.slice ap m ac] 49 (0,0)):=by
      have e1:=heap_alloc_new wr (.cells #[.bool true,.int .i64 z,.slice ap m ac] 49)
      have e2:=row_keep e1 hg1 (by simp)
      have e3:=row_keep e2 (World.grownBy_alloc w1 (.cells #[.string (⟨#[115]⟩++t++⟨#[58,32]⟩++⟨#[115,116,114,101,97,109,32,105,110,116]⟩)] 9) none) (by simp)
      exact row_keep e3 hgrow3 (fun h=>by have:=(hop.lt _ h.symm).2; omega)
     obtain ⟨lvs,hoL,hoj⟩:=ho3.oL
     have hoC:=ho3.oC
     have hoP:=ho3.hp
     have hq4:s.L.length≤6:=by have:=hnp'.out; omega
     have hLn:=hoL.1
     obtain ⟨pL,cL,rfl⟩:=slice_of hoL
     obtain ⟨pC,cC,rfl⟩:=slice_of hoC
     obtain ⟨nL,hnL⟩:∃ nL,nL=s.L.length:=⟨_,rfl⟩
     rw [←hnL] at hoL hoC hoP hq4 hLn
     have k0:w3.cell? ⟨w.heap.size+1,0,none⟩=some (.slice pL nL cL):=by unfold World.cell?; rw [show w3.heap[(⟨w.heap.size+1,0,none⟩:Addr).block]? = _ from hoP]; rfl
     have k1:w3.cell? ⟨w.heap.size+1,1,none⟩=some (.slice pC nL cC):=by unfold World.cell?; rw [show w3.heap[(⟨w.heap.size+1,1,none⟩:Addr).block]? = _ from hoP]; rfl
     have k2:w3.cell? ⟨wr.heap.size,2,none⟩=some (.slice ap m ac):=by unfold World.cell?; rw [show w3.heap[(⟨wr.heap.size,2,none⟩:Addr).block]? = _ from ha3]; rfl
     have f0:∀ j,w3.frozen? ⟨w.heap.size+1,j,none⟩=false:=fun j=>by unfold World.frozen?; rw [show w3.heap[(⟨w.heap.size+1,j,none⟩:Addr).block]? = _ from hoP]; rfl
     have hBw3:Below w.heap.size w w3:=hB0'.out.trans (hb3.mono (by omega))
     have hIa:HasI w (.slice ap a.l.length ac) a.l:=hI0.out
     have hcl:=fun w2 (hb:Below w.heap.size w w2)=>clone_q a.l _ w2 (hIa.below hb) (by rw [←hm'.out]; exact hl60)
     rw [←hm'.out] at hcl
     have neAL:=bp_ne ha3 hoL (by decide)
     have neAC:=bp_ne ha3 hoC (by decide)
     have nePL:=bp_ne hoP hoL (by decide)
     have nePC:=bp_ne hoP hoC (by decide)
     have hnL':Hid (nL=s.L.length):=hnL
     have hR:Rx (w.heap.size+2) (w.heap.size+1) 69 nL ⟨wr.heap.size,2,none⟩ a.l [.string ⟨#[]⟩] (.slice pL nL cL) (.slice pC nL cC) (.slice ap m ac) lvs w3:=⟨hoP,k2,neAL,hoL,hoC,neAC,by omega,by omega,by decide,by decide⟩
     have hcl':∀ w2,w3.grownBy w2 none→Calls Tryz.prog 79 #[.slice ap m ac] w2 fun e w'=>∃ v',e = .returned v'∧w'.ownsRow (w.heap.size+2) 3 1 v' a.l.length (a.l.map (Value.int .i64))∧w2.grownBy w' none:=by
      intro w2 hg
      refine (hcl w2 (hBw3.grown hg (by omega) (fun k h=>by cases h))).mono ?_
      rintro e w' ⟨v',rfl,ho,hg'⟩
      exact ⟨v',rfl,own_mono (by rw [←hm'.out]; exact ho) (by have:=hg.size; omega),hg'⟩
     refine Code.wp_mono (fun e a' w' h=>?_) (rA_c hR hcl' (by rfl) (by rfl) (by rfl) rfl)
     obtain ⟨rfl,hsm,lvN,LN,CN,wA,wB,wC,wD,wE,gA,oA,gB,oB,gC,gD,oE,gE,rfl⟩:=h
     obtain ⟨v45,v46,v47,v48,v49,v50,v51,v52,v53,v54,v55,v56,v57,v58,v59,v60,v61,rfl⟩:=Same.act17 (lo:=45) hsm (show 45+16 < 124 by decide)
     simp only [Act.put,List.setIfInBounds_toArray,List.set_cons_zero,List.set_cons_succ]
     have ho5:Of (w.heap.size+2) (w.heap.size+1) 69 [.string ⟨#[]⟩] ((wE.setCell ⟨w.heap.size+1,0,none⟩ LN).setCell ⟨w.heap.size+1,1,none⟩ CN) r (.slice (some ⟨g3,0,none⟩) (np+1) cap3) gi LN CN s.R (s.Pa ++ [parB np]) s.Gi (s.L ++ [a.l]) :=
      Of.both ho3 (by decide) (by decide) (by decide) (by decide) (by rw [←hnL]; exact hoL) hoj gA oA gB (by rw [←hnL]; exact oB) (by rw [←hnL]; exact gC) gD (by rw [←hnL]; exact oE) (by rw [←hnL]; exact gE)
     have hb5:Below (w.heap.size+1) (ofW w nm0 tx0 (.slice pp n pc) rv cv) ((wE.setCell ⟨w.heap.size+1,0,none⟩ LN).setCell ⟨w.heap.size+1,1,none⟩ CN):=by
      have zA:=gA.size
      have zB:=gB.size
      have zC:=gC.size
      have zD:=gD.size
      exact ((((((hb3.grown gA (by omega) (fun k h=>by cases h)).grown gB (by omega) (fun k h=>by cases h)).grown gC (by omega) (fun k h=>by have:=(hoL.lt k h).1; omega)).grown gD (by omega) (fun k h=>by cases h)).grown gE (by omega) (fun k h=>by have:=(hoC.lt k h).1; omega)).setCell (p:=⟨w.heap.size+1,0,none⟩) (Nat.le_refl _) _).setCell (p:=⟨w.heap.size+1,1,none⟩) (Nat.le_refl _) _
     have ha5:((wE.setCell ⟨w.heap.size+1,0,none⟩ LN).setCell ⟨w.heap.size+1,1,none⟩ CN).heap[wr.heap.size]? = some (.cells #[.bool true,.int .i64 z,.slice ap m ac] 49 (0,0)) :=
      (heap_setCell_other _ _ _ _ (by simp; omega)).trans ((heap_setCell_other _ _ _ _ (by simp; omega)).trans (row_keep (row_keep (row_keep (row_keep (row_keep ha3 gA (by simp)) gB (by simp)) gC neAL) gD (by simp)) gE neAC))
     have hsz5:((wE.setCell ⟨w.heap.size+1,0,none⟩ LN).setCell ⟨w.heap.size+1,1,none⟩ CN).heap.size≥wr.heap.size:=by have:=(Array.getElem?_eq_some_iff.1 ha5).1; omega
     generalize (wE.setCell ⟨w.heap.size+1,0,none⟩ LN).setCell ⟨w.heap.size+1,1,none⟩ CN=w5 at ho5 hb5 ha5 hsz5 ⊢
     have hBw5:Below w.heap.size w w5:=hB0'.out.trans (hb5.mono (by omega))
     have hd5:w5.heap[w.heap.size]? = some (.cells #[.string nm0,.string tx0,.slice pp n pc,rv,cv] 110 (0,0)):=by
      rw [hb5.block _ (by omega)]; exact hD0'.out
     obtain ⟨pb,po,rfl,hpc⟩:=hp2'.out (fun h=>by rw [h] at hpl0; simp at hpl0; omega)
     have hpr:=hpc k hkn
     obtain ⟨pr,hprd⟩:∃ pr,pr=prs.getD k ByteArray.empty:=⟨_,rfl⟩
     rw [←hprd] at hpr
     have hpr5:=cell_below hpr hBw5 (cell_lt hpr)
     have hd2:w5.cell? ⟨w.heap.size,2,none⟩=some (.slice (some ⟨pb,po,none⟩) n pc):=(cell_of_heap hd5).trans rfl
     have ha2:w5.cell? ⟨wr.heap.size,2,none⟩=some (.slice ap m ac):=(cell_of_heap ha5).trans rfl
     have hst2:=hst1'.out
     rw [←hprd] at hst2
     have hog5:=ho5.og
     have hor5:=ho5.or
     have hogs:=map_len s.Gi
     have hors:=map_len s.R
     have hrg:gi.ownBlock=none∨gi.ownBlock≠r.ownBlock:=ho5.rg.symm
     have q1':s.R.length≤13:=by simp at q1; omega
     have ho5':Hid _:=ho5
     have hb5':Hid _:=hb5
     have hBw5':Hid _:=hBw5
     have hd5':Hid _:=hd5
     have ha5':Hid _:=ha5
     clear hR hcl' hcl gA oA gB oB gC gD oE gE hoL hoC hoP k0 k1 k2 f0 hoj neAL neAC nePL nePC hIa hBw3 ha3 ho3 hb3 hown3 hgrow3 hat3 hlt3 hit hg1 hop hI' hof' hBr' hal' hI0 hw1 hw3 hpc hpr hd5 ha5 ho5 hb5 hBw5 hst1' hsm hprd
     cases hia:isArr pr with
     | true =>
      rw [if_pos hia] at hst2
      have hst3:Hid _:=hst2
      have hia2:(pr.toList == [91,105,110,116,93])=true:=hia
      have hitm:=fun w2 (hb:Below w.heap.size w w2)=>itoa_q (m:Int) (by omega) (by omega) w2 (Tab.below hT'.out hb)
      have hts2:=itoa_size (m:Int) (by omega) (by omega)
      obtain ⟨tm,htm⟩:∃ tm,tm=mkD (Lib.itoa (m:Int)):=⟨_,rfl⟩
      rw [←htm] at hitm hts2
      have htm':Hid _:=htm
      have hz5:=hBw5'.out.size
      have hlr:∀ k,r.ownBlock=some k→w.heap.size+2≤k:=fun k hk=>(hor5.lt k hk).1
      have neAr:some wr.heap.size≠r.ownBlock:=bp_ne ha5'.out hor5 (by decide)
      clear hst2 hia htm
      go_wp2_with (first
       | (at_builtin; refine wpList_append_lies _ rfl _ _ _ rfl (w.heap.size+2) 9 i9 _ 1 16 Tryz.underlying108 hi9 h90 h91 h92 rfl (by omega) r s.R.length (s.R.map Value.string) (by rfl) (hor5.alloc _) ⟨w5.heap.size,0,none⟩ 2 2 [.string nthB,.string packB] (by rfl) (by rfl) (World.news_of_block (cs:=#[.string nthB,.string packB]) (t:=9) (fr:=(0,0)) (heap_alloc_new w5 _)) (by simp [Value.oneCell']) (by omega) (by unfold maxLen; omega) (by omega) (by simp; omega) (w5.heap.size+1) (by simp) ?_; intro g6 cap6 w6 hown6 hgrow6 hat6 hlt6; have hw6:=hgrow6.size; rw [size_new] at hw6; have hb6:Below w.heap.size w w6:=(hBw5'.out.alloc hz5 _).grown hgrow6 (by rw [size_new]; omega) (fun k h=>by have:=hlr k h; omega); have ha6:w6.cell? ⟨wr.heap.size,2,none⟩=some (.slice ap m ac):=hgrow6.cell (cell_alloc ha2 _) neAr)
       | (go_at_call 78; refine (hitm w6 hb6).mono ?_; rintro e w7 ⟨rfl,hg7⟩; have hw7:=hg7.size)
       | (at_builtin; refine wpList_append_lies _ rfl _ _ _ rfl (w.heap.size+2) 9 i9 _ 1 16 Tryz.underlying108 hi9 h90 h91 h92 rfl (by omega) gi s.Gi.length (s.Gi.map Value.string) (by rfl) ((own_none ((hog5.alloc _).kept hgrow6 hrg) hg7).alloc _) ⟨w7.heap.size,0,none⟩ 1 1 [.string (⟨#[112,97,99,107,40]⟩++(⟨#[115]⟩++t)++⟨#[44,32]⟩++tm++⟨#[41]⟩)] (by rfl) (by rfl) (World.news_of_block (cs:=#[.string (⟨#[112,97,99,107,40]⟩++(⟨#[115]⟩++t)++⟨#[44,32]⟩++tm++⟨#[41]⟩)]) (t:=9) (fr:=(0,0)) (heap_alloc_new w7 _)) (by simp [Value.oneCell']) (by omega) (by unfold maxLen; omega) (by omega) (by simp; omega) (w7.heap.size+1) (by simp) ?_; intro g8 cap8 w8 hown8 hgrow8 hat8 hlt8))
      go_roundw
      case rel =>
       have hb8:Below (w.heap.size+1) (ofW w nm0 tx0 (.slice (some ⟨pb,po,none⟩) n pc) rv cv) w8:=((((hb5'.out.alloc (by omega) _).grown hgrow6 (by rw [size_new]; omega) (fun k h=>by have:=hlr k h; omega)).grown hg7 (by omega) (fun k h=>by cases h)).alloc (by omega) _).grown hgrow8 (by rw [size_new]; omega) (fun k h=>by have:=(hog5.lt k h).1; omega)
       have ho6:=(ho5'.out.quiet (World.grownBy_alloc w5 (.cells #[.string nthB,.string packB] 9) none)).app1 (ys:=[nthB,packB]) (by decide) hown6 hgrow6 (by rw [size_new]; exact hat6)
       have ho8:=((ho6.quiet hg7).quiet (World.grownBy_alloc w7 (.cells #[.string (⟨#[112,97,99,107,40]⟩++(⟨#[115]⟩++t)++⟨#[44,32]⟩++tm++⟨#[41]⟩)] 9) none)).app3 (by decide) hown8 hgrow8 (by rw [size_new]; exact hat8)
       have hpk:pckB np m=⟨#[112,97,99,107,40]⟩++(⟨#[115]⟩++t)++⟨#[44,32]⟩++tm++⟨#[41]⟩:=by unfold pckB; rw [hnm.out,← htm'.out]
       rw [q3,← hpk] at ho8
       refine ⟨k+1,_,_,_,LN,CN,by omega,rfl,rfl,rfl,by go_num,?_,hb8⟩
       rw [hst3.out]
       unfold stArr
       rw [←hnp'.out,← hm'.out]
       exact ho8
      case measure=>simp [intOf]; omega
     | false =>
      rw [if_neg (by rw [hia]; decide)] at hst2
      have hst3:Hid _:=hst2
      have hia2:(pr.toList == [91,105,110,116,93])=false:=hia
      clear hst2 hia
      go_wp2_with (at_builtin; refine wpList_append_lies _ rfl _ _ _ rfl (w.heap.size+2) 9 i9 _ 1 16 Tryz.underlying108 hi9 h90 h91 h92 rfl (by omega) gi s.Gi.length (s.Gi.map Value.string) (by rfl) (hog5.alloc _) ⟨w5.heap.size,0,none⟩ 1 1 [.string (⟨#[115]⟩++t)] (by rfl) (by rfl) (World.news_of_block (cs:=#[.string (⟨#[115]⟩++t)]) (t:=9) (fr:=(0,0)) (heap_alloc_new w5 _)) (by simp [Value.oneCell']) (by omega) (by unfold maxLen; omega) (by omega) (by simp; omega) (w5.heap.size+1) (by simp) ?_; intro g8 cap8 w8 hown8 hgrow8 hat8 hlt8)
      go_roundw
      case rel =>
       have hb8:Below (w.heap.size+1) (ofW w nm0 tx0 (.slice (some ⟨pb,po,none⟩) n pc) rv cv) w8:=(hb5'.out.alloc (by omega) _).grown hgrow8 (by rw [size_new]; omega) (fun k h=>by have:=(hog5.lt k h).1; omega)
       have ho8:=(ho5'.out.quiet (World.grownBy_alloc w5 (.cells #[.string (⟨#[115]⟩++t)] 9) none)).app3 (by decide) hown8 hgrow8 (by rw [size_new]; exact hat8)
       rw [q3,← hnm.out] at ho8
       refine ⟨k+1,r,_,_,LN,CN,by omega,rfl,rfl,rfl,by go_num,?_,hb8⟩
       rw [hst3.out]
       unfold stStr
       rw [←hnp'.out]
       exact ho8
      case measure=>simp [intOf]; omega
  · obtain rfl:k=n:=by omega
    obtain ⟨s,hs⟩:∃ s,s=stK [nthB,packB] nm0 prs xs k:=⟨_,rfl⟩
    have hst:stK [nthB,packB] nm0 prs xs xs.length=s:=by rw [←hn'.out]; exact hs.symm
    rw [←hs] at hof
    have hst':Hid (stK [nthB,packB] nm0 prs xs k=s):=hs.symm
    have hszs:Hid _:=stK_size [nthB,packB] nm0 prs xs hL'.out hN'.out k hl (Nat.le_of_eq hn'.out)
    have hsln:Hid _:=stK_len [nthB,packB] nm0 prs xs k
    rw [←hs] at hszs hsln
    have hnd2:=hnd'.out
    rw [hst] at hnd2
    have hBw:Below w.heap.size w wr:=hB0'.out.trans (hBr.mono (by omega))
    have hwr:=hBr.size
    have hof1:Of (w.heap.size+2) (w.heap.size+1) 69 [.string ⟨#[]⟩] (wr.alloc (.cells #[.pointer none,.slice none 0 0] 186)) r pa gi Lv Cv s.R s.Pa s.Gi s.L:=hof.quiet (World.grownBy_alloc _ _ _)
    have hcn:=hnd2 _ r hof1.or (hBw.alloc hBw.size _)
    clear hs hst hnd2
    obtain ⟨N,hNt⟩:∃ N,N=txs.length:=⟨_,rfl⟩
    have hbl2:=hbl'.out
    rw [←hNt] at hbl2
    have hN100:N≤100:=by have:=htl'.out; omega
    have hcn2:=hcn.mono (R':=fun e w'=>∃ pB cB,e = .returned (.slice pB N cB)∧(bs≠[]→∃ b off,pB=some ⟨b,off,none⟩∧∀ i,i < N→w'.cell? ⟨b,off+i,none⟩=some (.bool (bs.getD i false)))∧Below (wr.alloc (.cells #[.pointer none,.slice none 0 0] 186)).heap.size (wr.alloc (.cells #[.pointer none,.slice none 0 0] 186)) w') (by
     rintro e w' ⟨v',rfl,⟨pB,cB,rfl,hq⟩,hB⟩
     exact ⟨pB,cB,by rw [hbl2],fun h=>by rw [←hbl2]; exact hq h,hB⟩)
    have hwr2:=size_new wr (.cells #[.pointer none,.slice none 0 0] 186)
    obtain ⟨bb,hbb⟩:∃ bb,bb=wr.heap.size:=⟨_,rfl⟩
    have hNt':Hid (N=txs.length):=hNt
    clear hNt hbl2
    go_wp2_with (go_at_call 80; refine hcn2.mono ?_; rintro e w17 ⟨pB,cB,rfl,hbq,hB17⟩)
    obtain ⟨D,hD⟩:∃ D,D=w17.heap.size:=⟨_,rfl⟩
    have h16:=size_new wr (.cells #[.pointer none,.slice none 0 0] 186)
    have hs17:=hB17.size
    have hbk17:w17.heap[bb]? = some (.cells #[.pointer none,.slice none 0 0] 186 (0,0)):=by
     rw [hbb,hB17.block _ (by rw [h16]; omega)]; exact heap_alloc_new wr _
    have hbu0:Bu D bb ByteArray.empty w17:=⟨_,_,.inl rfl,hbk17,World.ownsRow_nil _ _ _ _⟩
    have hbbD:bb < D:=by rw [hD,hbb]; omega
    have hBw17':Hid (Below w.heap.size w w17):=(hBw.alloc hBw.size _).trans (hB17.mono (by rw [h16]; omega))
    have hall:Hid (∀ wx,Below bb wr wx→Of (w.heap.size+2) (w.heap.size+1) 69 [.string ⟨#[]⟩] wx r pa gi Lv Cv s.R s.Pa s.Gi s.L∧wx.heap[w.heap.size]? = some (.cells #[.string nm0,.string tx0,.slice pp k pc,rv,cv] 110 (0,0))∧Below w.heap.size w wx):=by
     intro wx hBx
     rw [hbb] at hBx
     refine ⟨hof.quiet (grown_below hBx),?_,hBw.trans (hBx.mono (by omega))⟩
     rw [hBx.block _ (by omega),hBr.block _ (by omega)]
     exact hD0'.out
    have hKB:Hid (∀ wx,Kp D bb w17 wx→Below bb wr wx):=by
     intro wx hkx
     rw [hbb] at hkx ⊢
     exact (((Below.refl _ _).alloc (Nat.le_refl _) _).trans (hB17.mono (by rw [h16]; omega))).trans (hkx.below (by omega) (by omega))
    have hbq':Hid _:=hbq
    have hB17':Hid _:=hB17
    have hbk17':Hid _:=hbk17
    have hof1':Hid _:=hof1
    have hBr':Hid _:=hBr
    have hBw':Hid _:=hBw
    have hbu0':Hid _:=hbu0
    have hbb':Hid _:=hbb
    have hD':Hid _:=hD
    have hwB:w.heap.size+3≤bb:=by rw [hbb]; omega
    have hsz17:w17.heap.size=D:=hD.symm
    rw [←hbb]
    clear hbq hB17 hbk17 hof1 hof hBr hBw hcn hcn2 hbu0 hbb hD
    go_loopw [89] (fun i wx=>∃ j:Nat,j≤N∧i = .int .i64 j∧Bu D bb (catT bs txs j) wx∧Kp D bb w17 wx) (fun i _=>N - (intOf i).toNat)
    case atStart=>exact ⟨0,Nat.zero_le _,rfl,hbu0'.out,Kp.refl _ _ _⟩
    case round =>
     obtain ⟨j,hj,rfl,hbu,hkp⟩:=hrel
     by_cases hjN:j < N
     · obtain ⟨b2,o2,rfl,hq2⟩:=hbq'.out (fun h=>by have:=hbl'.out; have:=hNt'.out; rw [h] at *; simp at *; omega)
       have hc2:=hq2 j hjN
       have hb2:=cell_lt hc2
       have hb2n:=hasB_ne hbk17'.out rfl rfl hc2
       have hc3:=cell_kp hc2 hkp (by omega) hb2n
       obtain ⟨tp,tc,rfl,htq⟩:=ht'.out
       rw [←hNt'.out] at htq ⊢
       obtain ⟨tb,to2,rfl,htq2⟩:=htq (fun h=>by have:=hNt'.out; rw [h] at this; simp at this; omega)
       have ht2:=htq2 j hjN
       have htb:=cell_lt ht2
       have hBw17:Below w.heap.size w w17:=hBw17'.out
       have ht3:=cell_kp (cell_below ht2 hBw17 htb) hkp (by omega) (by omega)
       have hsx:(catT bs txs j).size≤100 * 1000001:=Nat.le_trans (catT_size bs txs 1000000 hts'.out j) (Nat.mul_le_mul_right _ (by omega))
       have hsy:=hts'.out j
       obtain ⟨tj,htj⟩:∃ tj,tj=txs.getD j ByteArray.empty:=⟨_,rfl⟩
       have hcat:Hid (catT bs txs (j+1)=if bs.getD j false=true then catT bs txs j++(txs.getD j ByteArray.empty++⟨#[10]⟩) else catT bs txs j):=rfl
       rw [←htj] at ht3 hsy hcat
       obtain ⟨cj,hcj⟩:∃ cj,cj=catT bs txs j:=⟨_,rfl⟩
       rw [←hcj] at hsx hbu hcat
       have hwx:=hkp.size
       have hbu':Hid _:=hbu
       have hkp':Hid _:=hkp
       clear htj hcj hq2 htq htq2 ht2 hBw17 hbu hkp
       cases hbj:bs.getD j false with
       | false =>
        rw [hbj] at hc3 hcat
        have hcat2:Hid (catT bs txs (j+1)=cj):=hcat.out.trans (if_neg (by decide))
        clear hcat hbj
        go_wp2
        go_roundw
        case rel =>
         refine ⟨j+1,by omega,by go_num,?_,hkp'.out⟩
         rw [hcat2.out]; exact hbu'.out
        case measure=>simp [intOf]; omega
       | true =>
        rw [hbj] at hc3 hcat
        have hcat2:Hid (catT bs txs (j+1)=cj++(tj++⟨#[10]⟩)):=hcat.out.trans (if_pos rfl)
        have hws:=ws_q (tj++⟨#[10]⟩) hbu'.out hbbD (by omega) (by rw [size_append,show (⟨#[10]⟩:ByteArray).size=1 from rfl]; omega)
        clear hcat hbj
        go_wp2_with (go_at_call 81; refine hws.mono ?_; rintro e w18 ⟨rfl,hbu2,hk2⟩)
        go_roundw
        case rel =>
         refine ⟨j+1,by omega,by go_num,?_,hkp'.out.trans hk2⟩
         rw [hcat2.out]; exact hbu2
        case measure=>simp [intOf]; omega
     · obtain rfl:j=N:=by omega
       obtain ⟨m1,m2,m3⟩:=hall.out _ (hKB.out _ hkp)
       have hsx:(catT bs txs j).size≤100 * 1000001:=Nat.le_trans (catT_size bs txs 1000000 hts'.out j) (Nat.mul_le_mul_right _ (by omega))
       obtain ⟨z1,z2⟩:=hszs.out
       obtain ⟨_,z3,z4,_⟩:=hsln.out
       have hsep:sepB.size=2:=rfl
       have y1:(joinB s.Pa sepB).size≤1000000:=by
        have:=joinB_all sepB 34 z1
        rw [hsep] at this
        have:=Nat.mul_le_mul_right (34+2) (Nat.le_trans z3 hl)
        omega
       have y3:(joinB s.Gi sepB).size≤1000000:=by
        have:=joinB_all sepB 51 z2
        rw [hsep] at this
        have:=Nat.mul_le_mul_right (51+2) (Nat.le_trans (Nat.le_of_eq z4) hl)
        omega
       have y2:(joinB res sepB).size≤1000000:=by
        have:=joinB_all sepB 100 hres'.out
        rw [hsep] at this
        have:=Nat.mul_le_mul_right (100+2) hrl'.out
        omega
       have hPa:=own_hasS m1.op
       have hGi:=own_hasS m1.og
       have ymain:(mainB (joinB s.Pa sepB) (joinB res sepB) nm0 (joinB s.Gi sepB)).size≤4000027:=by
        unfold mainB
        simp only [size_append,mA_size,mB_size,mC_size,mD_size,mE_size]
        have:=hnm0'.out
        omega
       have hdx:∀ w',Kp D bb w17 w'→Sc w.heap.size rv nm0 w':=fun w' hk=>by
        obtain ⟨_,hd,_⟩:=hall.out _ (hKB.out _ hk)
        exact ⟨(cell_of_heap hd).trans rfl,(cell_of_heap hd).trans rfl⟩
       have hDx:=hkp.size
       have kpg:∀ {wa wb:World},Kp D bb w17 wa→wa.grownBy wb none→Kp D bb w17 wb:=fun {wa wb} h g=>⟨g.os.trans h.os,g.tape.trans h.tape,g.output.trans h.output,Nat.le_trans h.size g.size,fun i hi hb=>(g.block i (by have:=h.size; omega) (by simp)).trans (h.block i hi hb)⟩
       have hrx:=hr'.out
       have hbu':Hid _:=hbu
       have hkp':Hid _:=hkp
       go_wp2
       refine Code.wp_mono (fun e aF wF h=>?_) (rC_c (X:=fun w'=>Bu D bb (textB bs txs res nm0 s) w'∧Kp D bb w17 w') (by rfl) (by rfl) (by rfl) (by rfl) (by rfl) (hdx _ hkp) (fun w2 g=>?_) (fun w2 g=>?_) (fun w2 g=>?_) (fun w2 g=>?_) y1 y2 y3 hnm0'.out)
       rotate_left
       · exact join_q s.Pa sepB pa w2 (own_hasS (own_none m1.op g)).1 (by omega) (by omega) hPa.2
       · exact join_q res sepB rv w2 (HasS.below (HasS.below (w:=w) (v:=rv) (l:=res) hr'.out m3) ((Below.refl _ _).grown g (Nat.le_refl _) (fun k h=>by cases h))) hrl'.out (by omega) hrc'.out
       · exact join_q s.Gi sepB gi w2 (own_hasS (own_none m1.og g)).1 (by omega) (by omega) hGi.2
       · have hk2:=kpg hkp'.out g
         have hz2:=hk2.size
         refine (ws_q _ (Bu.grown (t:=catT bs txs j) hbu'.out g) hbbD (by omega) (by omega)).mono ?_
         rintro e w' ⟨rfl,hb,hk⟩
         refine ⟨rfl,⟨?_,hk2.trans hk⟩,hdx _ (hk2.trans hk)⟩
         unfold textB
         rw [←hNt'.out]
         exact hb
       obtain ⟨rfl,hsm,hbuF,hkF⟩:=h
       obtain ⟨v103,v104,v105,v106,v107,v108,v109,v110,v111,v112,v113,v114,v115,v116,v117,v118,v119,v120,rfl⟩:=Same.act18 (lo:=103) hsm (show 103+17 < 124 by decide)
       simp only [Act.put,List.setIfInBounds_toArray,List.set_cons_zero,List.set_cons_succ]
       have hBF:=hKB.out _ hkF
       have hBF':Hid _:=hBF
       obtain ⟨n1,n2,n3⟩:=hall.out _ hBF
       have hzF:=hkF.size
       have hst2:=str_q hbuF hbbD (by omega)
       have hn2:=n1.hp
       have hbp:w.heap.size+1 < bb:=by omega
       have hcf:∀ w',Below bb wF w'→w'.heap[w.heap.size+1]? = some (.cells #[Lv,Cv,.string ⟨#[]⟩] 69 (0,0)):=fun w' hB=>by rw [hB.block _ (by omega)]; exact hn2
       obtain ⟨TT,hTT⟩:∃ TT,TT=textB bs txs res nm0 s:=⟨_,rfl⟩
       rw [←hTT] at hst2
       have hTT':Hid _:=hTT
       obtain ⟨pL,cL,hLe⟩:=slice_of n1.oL.choose_spec.1
       obtain ⟨pC,cC,hCe⟩:=slice_of n1.oC
       have hLe':Hid _:=hLe
       have hCe':Hid _:=hCe
       rw [hLe,hCe] at hcf
       have hcf':Hid _:=hcf
       clear hBF hTT n1 n2 n3 hn2 hdx kpg hLe hCe m1 m2 m3 hPa hGi hsm hbuF hkF hrx hbu hkp z1 z2 z3 z4 y1 y2 y3 ymain hsx hsep
       go_wp2_with (go_at_call 83; refine hst2.mono ?_; rintro e w20 ⟨rfl,hB20⟩; have hc20:=hcf _ hB20; have c0:w20.cell? ⟨w.heap.size+1,0,none⟩=some (.slice pL s.L.length cL):=(cell_of_heap hc20).trans rfl; have c1:w20.cell? ⟨w.heap.size+1,1,none⟩=some (.slice pC s.L.length cC):=(cell_of_heap hc20).trans rfl; have c2:w20.cell? ⟨w.heap.size+1,2,none⟩=some (.string ⟨#[]⟩):=(cell_of_heap hc20).trans rfl; have f0:=froz_of_heap (j:=0) hc20; have f1:=froz_of_heap (j:=1) hc20; have f2:=froz_of_heap (j:=2) hc20; have h20:=heap_setCell_same w20 (w.heap.size+1) 2 _ _ (.string TT) hc20; have d0:(w20.setCell ⟨w.heap.size+1,2,none⟩ (.string TT)).cell? ⟨w.heap.size+1,0,none⟩=some (.slice pL s.L.length cL):=(cell_of_heap h20).trans rfl; have d1:(w20.setCell ⟨w.heap.size+1,2,none⟩ (.string TT)).cell? ⟨w.heap.size+1,1,none⟩=some (.slice pC s.L.length cC):=(cell_of_heap h20).trans rfl; have d2:(w20.setCell ⟨w.heap.size+1,2,none⟩ (.string TT)).cell? ⟨w.heap.size+1,2,none⟩=some (.string TT):=(cell_of_heap h20).trans rfl; clear hc20 h20 hcf)
       obtain ⟨W4,hW4⟩:∃ W4,W4=(((w20.setCell ⟨w.heap.size+1,2,none⟩ (.string TT)).setCell ⟨w.heap.size+1,0,none⟩ (.slice pL s.Pa.length cL)).setCell ⟨w.heap.size+1,1,none⟩ (.slice pC s.Pa.length cC)).setCell ⟨w.heap.size+1,2,none⟩ (.string TT):=⟨_,rfl⟩
       rw [←hW4]
       obtain ⟨o1,o2,o3⟩:=hall.out _ (hBF'.out.trans hB20)
       have i0:=hcf'.out _ hB20
       have i1:=heap_setCell_same _ _ 2 _ _ (.string TT) i0
       have i2:=heap_setCell_same _ _ 0 _ _ (.slice pL s.Pa.length cL) i1
       have i3:=heap_setCell_same _ _ 1 _ _ (.slice pC s.Pa.length cC) i2
       have i4:=heap_setCell_same _ _ 2 _ _ (.string TT) i3
       have q0:Lst (w.heap.size+2) w20 Lv Cv s.L:=⟨o1.oL,o1.oC⟩
       have q4:=(((q0.setCell i0 2 (.string TT)).setCell i1 0 (.slice pL s.Pa.length cL)).setCell i2 1 (.slice pC s.Pa.length cC)).setCell i3 2 (.string TT)
       have b4:Below w.heap.size w W4:=by rw [hW4]; exact (((o3.setCell (p:=⟨w.heap.size+1,2,none⟩) (by simp) _).setCell (p:=⟨w.heap.size+1,0,none⟩) (by simp) _).setCell (p:=⟨w.heap.size+1,1,none⟩) (by simp) _).setCell (p:=⟨w.heap.size+1,2,none⟩) (by simp) _
       rw [←hW4] at q4 i4
       have j0:W4.cell? ⟨w.heap.size+1,0,none⟩=some (.slice pL s.Pa.length cL):=(cell_of_heap i4).trans rfl
       have j1:W4.cell? ⟨w.heap.size+1,1,none⟩=some (.slice pC s.Pa.length cC):=(cell_of_heap i4).trans rfl
       have j2:W4.cell? ⟨w.heap.size+1,2,none⟩=some (.string TT):=(cell_of_heap i4).trans rfl
       have q4':Hid _:=q4
       have b4':Hid _:=b4
       obtain ⟨_,_,_,hlen⟩:=hsln.out
       have hlen':Hid _:=hlen
       clear hW4 o1 o2 o3 i0 i1 i2 i3 i4 q0 q4 b4 hlen
       refine bodyPost_ret (v:=.agg #[.slice pL s.Pa.length cL,.slice pC s.Pa.length cC,.string TT]) (by simp [results,Tryz.results35,go_sem,j0,j1,j2]; try rfl) rfl ?_
       refine ⟨.slice pL s.Pa.length cL,.slice pC s.Pa.length cC,?_,?_,b4'.out⟩
       · rw [hst'.out,← hTT'.out]
       · rw [hst'.out]
         have:=q4'.out
         rw [hLe'.out,hCe'.out,hlen'.out] at this
         unfold Lst
         rw [hlen'.out]
         exact this
end Lb
end Go.Proofs
