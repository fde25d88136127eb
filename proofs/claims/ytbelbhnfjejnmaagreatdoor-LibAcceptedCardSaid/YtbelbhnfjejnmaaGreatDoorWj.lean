/- PROVED HERE: a part (Wj) of the tied card of LibAccepted (floodgatelaw25). CONDITIONS: those of the given row and card alone. -/
import Derived.Test.YtbelbhnfjejnmaaGreatDoorWg
import Derived.Test.YtbelbhnfjejnmaaGreatDoorWb
import Derived.Test.YtbelbhnfjejnmaaGreatDoorWa
namespace Go.Proofs
open Go.RowKit
namespace Lb
def addsOf (add:List ByteArray):List ByteArray→List ByteArray
 | []=>[]
 | p :: ps=>(if isArr p=true then add else [])++addsOf add ps
theorem addsOf_take (add:List ByteArray) (prs:List ByteArray):∀ k,k < prs.length→addsOf add (prs.take (k+1))=addsOf add (prs.take k)++(if isArr (prs.getD k ByteArray.empty)=true then add else []):=by
 induction prs with
 | nil=>intro k hk; simp at hk
 | cons p ps ih =>
  intro k hk
  cases k with
  | zero=>simp [addsOf]
  | succ k =>
   have:=ih k (by simpa using hk)
   simp only [List.take_succ_cons,addsOf,List.append_assoc]
   rw [this]
   simp
theorem stK_R (add:List ByteArray) (nm:ByteArray) (prs:List ByteArray) (xs:List AArg) (hf:∀ i,i < xs.length→fitsA (prs.getD i ByteArray.empty) (xs.getD i default)=true) (hl:xs.length=prs.length) :
 ∀ k,k≤xs.length→(stK add nm prs xs k).R=nm :: addsOf add (prs.take k)
 | 0,_=>rfl
 | k+1,hk=>by
  have h1:=stK_R add nm prs xs hf hl k (by omega)
  rw [addsOf_take add prs k (by omega)]
  have h2:=hf k (by omega)
  unfold stK st1
  split
  · rename_i hil
    have:isArr (prs.getD k ByteArray.empty)=false:=by
     unfold fitsA at h2
     rw [hil] at h2
     cases h3:isArr (prs.getD k ByteArray.empty) with
     | false=>rfl
     | true =>
      exfalso
      unfold isArr at h3
      have h3:(prs.getD k ByteArray.empty).toList = [91,105,110,116,93]:=by simpa using h3
      unfold fitsV at h2
      rw [h3,show intB.toList = [105,110,116] by decide +kernel] at h2
      simp at h2
    rw [this]
    simp [stNum,h1]
  · split
    · simp [stArr,h1]
    · simp [stStr,h1]
theorem argErr_zero {prs:List ByteArray} {xs:List AArg} (h:argErr prs xs=0):xs.length=prs.length∧(∀ i,i < xs.length→fitsA (prs.getD i ByteArray.empty) (xs.getD i default)=true)∧(∀ a∈xs,isNum a.n=true):=by
 unfold argErr at h
 split at h
 · cases h
 rename_i h1
 split at h
 · cases h
 rename_i h2
 split at h
 · cases h
 rename_i h3
 refine ⟨by omega,?_,?_⟩
 · intro i hi
   cases h4:fitsA (prs.getD i ByteArray.empty) (xs.getD i default) with
   | true=>rfl
   | false=>exact absurd (fitsAll_false hi h4) h2
 · intro a ha
   have h3:xs.any badA=false:=by simpa using h3
   have:=List.any_eq_false.1 h3 a ha
   unfold badA at this
   simp at this
   exact this.1
end Lb
end Go.Proofs
namespace Go.Proofs
open Go.RowKit
namespace Lb
structure Kn (I:World→Prop) (LB:World→Value→Prop) (nm tx:ByteArray) (prs res:List ByteArray) (bs:List Bool) (txs:List ByteArray):Prop where
 imono:∀ w w',I w→Below w.heap.size w w'→I w'
 tab:∀ w,I w→Tab w
 lbm:∀ w w' lv,LB w lv→Below w.heap.size w w'→LB w' lv
 lbt:∀ w lv,LB w lv→HasT w lv txs
 find:∀ w,I w→Calls Tryz.prog 33 #[.string nm] w fun e w'=>∃ lv pp pn pc rp rn rc cp cn cc,e = .returned (.tuple #[lv,.agg #[.string nm,.string tx,.slice pp pn pc,.slice rp rn rc,.slice cp cn cc],.int .i64 0]) ∧
  LB w' lv∧HasS w' (.slice pp pn pc) prs∧HasS w' (.slice rp rn rc) res∧res.length≤rc∧Below w.heap.size w w'
 needs:∀ w lv r B,I w→LB w lv→w.ownsRow B 9 1 r (nm :: addsOf [nthB,packB] prs).length ((nm :: addsOf [nthB,packB] prs).map Value.string) →
  Calls Tryz.prog 80 #[lv,r] w fun e w'=>∃ v',e = .returned v'∧HasB w' v' bs∧Below w.heap.size w w'
 nmS:nm.size≤1000000
 prL:prs.length≤6
 resS:∀ x∈res,x.size≤100
 resL:res.length≤100
 txsL:txs.length≤100
 txsS:∀ i,(txs.getD i ByteArray.empty).size≤1000000
 bsL:bs.length=txs.length
def callV (er:Int) (Lv Cv:Value) (T:ByteArray):Value:=.tuple #[.agg #[Lv,Cv,.string T],.int .i64 er]
theorem row3 {w:World} {b:Nat} {x y z u v t:Value} (h:w.heap[b]? = some (.cells #[x,y,z] 69 (0,0))):(((w.setCell ⟨b,0,none⟩ u).setCell ⟨b,1,none⟩ v).setCell ⟨b,2,none⟩ t).heap[b]? = some (.cells #[u,v,t] 69 (0,0)):=by
 have i1:=heap_setCell_same _ _ 0 _ _ u h
 have i2:=heap_setCell_same _ _ 1 _ _ v i1
 exact heap_setCell_same _ _ 2 _ _ t i2
theorem bel3 {w0 w:World} {B b:Nat} {u v t:Value} (h:Below B w0 w) (hb:B≤b):Below B w0 (((w.setCell ⟨b,0,none⟩ u).setCell ⟨b,1,none⟩ v).setCell ⟨b,2,none⟩ t) :=
 ((h.setCell (p:=⟨b,0,none⟩) hb _).setCell (p:=⟨b,1,none⟩) hb _).setCell (p:=⟨b,2,none⟩) hb _
theorem Lst.set3 {B b:Nat} {w:World} {Lv Cv x y z u v t:Value} {L:List (List Int)} (q:Lst B w Lv Cv L) (h:w.heap[b]? = some (.cells #[x,y,z] 69 (0,0))):Lst B (((w.setCell ⟨b,0,none⟩ u).setCell ⟨b,1,none⟩ v).setCell ⟨b,2,none⟩ t) Lv Cv L:=by
 have i1:=heap_setCell_same _ _ 0 _ _ u h
 have i2:=heap_setCell_same _ _ 1 _ _ v i1
 exact ((q.setCell h 0 u).setCell i1 1 v).setCell i2 2 t
set_option maxRecDepth 100000 in
set_option maxHeartbeats 2000000 in
theorem call_none {I:World→Prop} (hC:Ctx I) {w:World} {s:ByteArray} {v:Value} (hi:I w) (hs:Unk s) :
 Calls Tryz.prog 17 #[.string s,v] w fun e w'=>e = .returned (callV 10 (.slice none 0 0) (.slice none 0 0) ⟨#[]⟩)∧Below w.heap.size w w':=by
 have hB0:Below w.heap.size w (w.alloc (.cells #[.slice none 0 0,.slice none 0 0,.string ⟨#[]⟩] 69)):=(Below.refl _ _).alloc (Nat.le_refl _) _
 have hf:=find_none hC (hC.mono _ _ hi hB0) hs
 have h79:=heap_alloc_new w (.cells #[.slice none 0 0,.slice none 0 0,.string ⟨#[]⟩] 69)
 have hsz:=size_new w (.cells #[.slice none 0 0,.slice none 0 0,.string ⟨#[]⟩] 69)
 have h79':Hid _:=h79
 have hB0':Hid _:=hB0
 have hsz':Hid _:=hsz
 clear h79 hB0 hsz
 go_enter Tryz.func17,Tryz.ntmps17
 go_wp2_with (go_at_call 33; refine hf.mono ?_; rintro e w1 ⟨rfl,hB1⟩; unfold zeroD; have h1:w1.heap[w.heap.size]? = some (.cells #[.slice none 0 0,.slice none 0 0,.string ⟨#[]⟩] 69 (0,0)):=(hB1.block _ (by rw [hsz'.out]; omega)).trans h79'.out; have h2:=(heap_alloc_old w1 (.cells #[.string ByteArray.empty,.string ByteArray.empty,.slice none 0 0,.slice none 0 0,.slice none 0 0] 110) (by have:=(Array.getElem?_eq_some_iff.1 h1).1; omega)).trans h1; have c0:(w1.alloc (.cells #[.string ByteArray.empty,.string ByteArray.empty,.slice none 0 0,.slice none 0 0,.slice none 0 0] 110)).cell? ⟨w.heap.size,0,none⟩=some (.slice none 0 0):=(cell_of_heap h2).trans rfl; have c1:(w1.alloc (.cells #[.string ByteArray.empty,.string ByteArray.empty,.slice none 0 0,.slice none 0 0,.slice none 0 0] 110)).cell? ⟨w.heap.size,1,none⟩=some (.slice none 0 0):=(cell_of_heap h2).trans rfl; have c2:(w1.alloc (.cells #[.string ByteArray.empty,.string ByteArray.empty,.slice none 0 0,.slice none 0 0,.slice none 0 0] 110)).cell? ⟨w.heap.size,2,none⟩=some (.string ⟨#[]⟩):=(cell_of_heap h2).trans rfl; have f0:=froz_of_heap (j:=0) h2; have f1:=froz_of_heap (j:=1) h2; have f2:=froz_of_heap (j:=2) h2; have h2':Hid _:=h2; clear h1 h2)
 have h4:=row3 (u:=.slice none 0 0) (v:=.slice none 0 0) (t:=.string ⟨#[]⟩) h2'.out
 have b4:Below w.heap.size w ((((w1.alloc (.cells #[.string ByteArray.empty,.string ByteArray.empty,.slice none 0 0,.slice none 0 0,.slice none 0 0] 110)).setCell ⟨w.heap.size,0,none⟩ (.slice none 0 0)).setCell ⟨w.heap.size,1,none⟩ (.slice none 0 0)).setCell ⟨w.heap.size,2,none⟩ (.string ⟨#[]⟩)):=bel3 ((hB0'.out.trans (hB1.mono (by rw [hsz'.out]; omega))).alloc (by have:=hB1.size; rw [hsz'.out] at this; omega) _) (Nat.le_refl _)
 obtain ⟨W4,hW4⟩:∃ W4,W4=(((w1.alloc (.cells #[.string ByteArray.empty,.string ByteArray.empty,.slice none 0 0,.slice none 0 0,.slice none 0 0] 110)).setCell ⟨w.heap.size,0,none⟩ (.slice none 0 0)).setCell ⟨w.heap.size,1,none⟩ (.slice none 0 0)).setCell ⟨w.heap.size,2,none⟩ (.string ⟨#[]⟩):=⟨_,rfl⟩
 rw [←hW4] at h4 b4 ⊢
 have j0:W4.cell? ⟨w.heap.size,0,none⟩=some (.slice none 0 0):=(cell_of_heap h4).trans rfl
 have j1:W4.cell? ⟨w.heap.size,1,none⟩=some (.slice none 0 0):=(cell_of_heap h4).trans rfl
 have j2:W4.cell? ⟨w.heap.size,2,none⟩=some (.string ⟨#[]⟩):=(cell_of_heap h4).trans rfl
 have b4':Hid _:=b4
 clear hW4 h4 b4 c0 c1 c2 f0 f1 f2
 refine bodyPost_ret (v:=callV 10 (.slice none 0 0) (.slice none 0 0) ⟨#[]⟩) (by simp [results,Tryz.results17,go_sem,j0,j1,j2]; try rfl) rfl ?_
 exact ⟨rfl,b4'.out⟩
set_option maxRecDepth 100000 in
set_option maxHeartbeats 2000000 in
theorem call_known {I:World→Prop} {LB:World→Value→Prop} {nm tx:ByteArray} {prs res:List ByteArray} {bs:List Bool} {txs:List ByteArray} (hK:Kn I LB nm tx prs res bs txs) {w:World} {v:Value} {xs:List AArg} (hi:I w)
 (h:HasA w v xs) (hl:xs.length≤6) (hL:∀ a∈xs,a.l.length≤60) :
 Calls Tryz.prog 17 #[.string nm,v] w fun e w'=>∃ Lv Cv T,e = .returned (callV (argErr prs xs) Lv Cv T)∧Below w.heap.size w w' ∧
  ((argErr prs xs≠0∧Lv = .slice none 0 0∧Cv = .slice none 0 0∧T=⟨#[]⟩) ∨
   (argErr prs xs=0∧T=textB bs txs res nm (stK [nthB,packB] nm prs xs xs.length)∧∃ B,w.heap.size≤B∧Lst B w' Lv Cv (stK [nthB,packB] nm prs xs xs.length).L)):=by
 have hB0:Below w.heap.size w (w.alloc (.cells #[.slice none 0 0,.slice none 0 0,.string ⟨#[]⟩] 69)):=(Below.refl _ _).alloc (Nat.le_refl _) _
 have hf:=hK.find _ (hK.imono _ _ hi hB0)
 have h79:=heap_alloc_new w (.cells #[.slice none 0 0,.slice none 0 0,.string ⟨#[]⟩] 69)
 have hsz:=size_new w (.cells #[.slice none 0 0,.slice none 0 0,.string ⟨#[]⟩] 69)
 have h79':Hid _:=h79
 have hB0':Hid _:=hB0
 have hsz':Hid _:=hsz
 have hA':Hid _:=h
 have hi':Hid (I w):=hi
 obtain ⟨er,her⟩:∃ er,er=argErr prs xs:=⟨_,rfl⟩
 rw [←her]
 have her':Hid _:=her
 have hchk:∀ (w2:World) (pv rv cv:Value),HasS w2 pv prs→HasA w2 v xs→Calls Tryz.prog 34 #[.agg #[.string nm,.string tx,pv,rv,cv],v] w2 fun e w'=>e = .returned (.int .i64 er)∧Below w2.heap.size w2 w':=by
  intro w2 pv rv cv h1 h2
  rw [her]
  exact checkArgs_c prs xs nm tx pv rv cv v w2 h1 h2 hl hK.prL
 have hL':Hid _:=hL
 clear h79 hB0 hsz h hi her hL
 go_enter Tryz.func17,Tryz.ntmps17
 go_wp2_with (go_at_call 33; refine hf.mono ?_)
 rintro e w1 ⟨lv,pp,pn,pc,rp,rn,rc,cp,cn,cc,rfl,hlb,hps,hrs,hrc,hB1⟩
 have hz1:=hB1.size
 have hB2:Below w1.heap.size w1 (w1.alloc (.cells #[.string nm,.string tx,.slice pp pn pc,.slice rp rn rc,.slice cp cn cc] 110)):=(Below.refl _ _).alloc (Nat.le_refl _) _
 have hBw:Below w.heap.size w w1:=hB0'.out.trans (hB1.mono (by rw [hsz'.out]; omega))
 have hzw:w.heap.size < w1.heap.size:=by rw [hsz'.out] at hz1; omega
 have h791:w1.heap[w.heap.size]? = some (.cells #[.slice none 0 0,.slice none 0 0,.string ⟨#[]⟩] 69 (0,0)):=(hB1.block _ (by rw [hsz'.out]; omega)).trans h79'.out
 have hps2:=HasS.below hps hB2
 have hA2:=HasA.below (HasA.below hA'.out hBw) hB2
 have hck:=hchk (w1.alloc (.cells #[.string nm,.string tx,.slice pp pn pc,.slice rp rn rc,.slice cp cn cc] 110)) (.slice pp pn pc) (.slice rp rn rc) (.slice cp cn cc) hps2 hA2
 have hB1':Hid _:=hB1
 have hB2':Hid _:=hB2
 have hBw':Hid _:=hBw
 have hps':Hid _:=hps
 have hrs':Hid _:=hrs
 have h791':Hid _:=h791
 have hrc':Hid _:=hrc
 clear hf hchk hps hrs hps2 hA2 hB1 hB2 hBw h791 hz1 hrc
 go_wp2_with (go_at_call 34; refine hck.mono ?_)
 rintro e w2 ⟨rfl,hB3⟩
 have hB12:Below w1.heap.size w1 w2:=hB2'.out.trans (hB3.mono (by rw [size_new]; omega))
 have h9:w2.heap[w1.heap.size]? = some (.cells #[.string nm,.string tx,.slice pp pn pc,.slice rp rn rc,.slice cp cn cc] 110 (0,0)):=(hB3.block _ (by rw [size_new]; omega)).trans (heap_alloc_new w1 _)
 have q0:w2.cell? ⟨w1.heap.size,0,none⟩=some (.string nm):=(cell_of_heap h9).trans rfl
 have q1:w2.cell? ⟨w1.heap.size,1,none⟩=some (.string tx):=(cell_of_heap h9).trans rfl
 have q2:w2.cell? ⟨w1.heap.size,2,none⟩=some (.slice pp pn pc):=(cell_of_heap h9).trans rfl
 have q3:w2.cell? ⟨w1.heap.size,3,none⟩=some (.slice rp rn rc):=(cell_of_heap h9).trans rfl
 have q4:w2.cell? ⟨w1.heap.size,4,none⟩=some (.slice cp cn cc):=(cell_of_heap h9).trans rfl
 have h792:w2.heap[w.heap.size]? = some (.cells #[.slice none 0 0,.slice none 0 0,.string ⟨#[]⟩] 69 (0,0)):=(hB12.block _ hzw).trans h791'.out
 have c0:w2.cell? ⟨w.heap.size,0,none⟩=some (.slice none 0 0):=(cell_of_heap h792).trans rfl
 have c1:w2.cell? ⟨w.heap.size,1,none⟩=some (.slice none 0 0):=(cell_of_heap h792).trans rfl
 have c2:w2.cell? ⟨w.heap.size,2,none⟩=some (.string ⟨#[]⟩):=(cell_of_heap h792).trans rfl
 have f0:=froz_of_heap (j:=0) h792
 have f1:=froz_of_heap (j:=1) h792
 have f2:=froz_of_heap (j:=2) h792
 have hBw2:Below w.heap.size w w2:=hBw'.out.trans (hB12.mono (by omega))
 have hB12':Hid _:=hB12
 have hBw2':Hid _:=hBw2
 have h792':Hid _:=h792
 clear hck hB3 hB12 h9 h792 hBw2
 by_cases he0:er=0
 · subst he0
   obtain ⟨hfl,hft,hN⟩:=argErr_zero (Eq.symm her'.out)
   have hI2:I w2:=hK.imono _ _ hi'.out hBw2'.out
   have hR:∀ add,(stK add nm prs xs xs.length).R=nm :: addsOf add prs:=fun add=>by
    rw [stK_R add nm prs xs hft hfl xs.length (Nat.le_refl _),List.take_of_length_le (by omega)]
   have hof:=of_c nm tx prs res xs lv (.slice pp pn pc) (.slice rp rn rc) (.slice cp cn cc) v w2 (HasS.below hps'.out hB12'.out) (HasA.below (w:=w) (v:=v) (xs:=xs) hA'.out hBw2'.out) hl hL'.out hN (by omega) (hK.tab _ hI2)
    (HasS.below hrs'.out hB12'.out) hK.resS hK.resL (fun p c e=>by cases e; exact hrc'.out) hK.nmS bs txs (hK.lbt _ _ (hK.lbm _ _ _ hlb hB12'.out)) hK.txsL hK.txsS hK.bsL
    (fun w3 r ho hB=>by
     rw [hR] at ho
     exact hK.needs w3 lv r _ (hK.imono _ _ hI2 hB) (hK.lbm _ _ _ hlb (hB12'.out.trans (hB.mono hB12'.out.size))) ho)
   clear hft hN hI2 hR hfl
   have hzz:=hBw2'.out.size
   go_wp2_with (go_at_call 35; refine hof.mono ?_)
   rintro e w3 ⟨Lv,Cv,rfl,hLst,hB4⟩
   obtain ⟨pL,cL,hLe⟩:=slice_of hLst.1.choose_spec.1
   obtain ⟨pC,cC,hCe⟩:=slice_of hLst.2
   have h793:w3.heap[w.heap.size]? = some (.cells #[.slice none 0 0,.slice none 0 0,.string ⟨#[]⟩] 69 (0,0)):=(hB4.block _ (by have:=(Array.getElem?_eq_some_iff.1 h792'.out).1; omega)).trans h792'.out
   have d0:w3.cell? ⟨w.heap.size,0,none⟩=some (.slice none 0 0):=(cell_of_heap h793).trans rfl
   have d1:w3.cell? ⟨w.heap.size,1,none⟩=some (.slice none 0 0):=(cell_of_heap h793).trans rfl
   have d2:w3.cell? ⟨w.heap.size,2,none⟩=some (.string ⟨#[]⟩):=(cell_of_heap h793).trans rfl
   have e0:=froz_of_heap (j:=0) h793
   have e1:=froz_of_heap (j:=1) h793
   have e2:=froz_of_heap (j:=2) h793
   obtain ⟨TT,hTT⟩:∃ TT,TT=textB bs txs res nm (stK [nthB,packB] nm prs xs xs.length):=⟨_,rfl⟩
   rw [←hTT]
   have hTT':Hid _:=hTT
   have hLst':Hid _:=hLst
   have hB4':Hid _:=hB4
   have h793':Hid _:=h793
   obtain ⟨nl,hnl⟩:∃ nl,nl=(stK [nthB,packB] nm prs xs xs.length).L.length:=⟨_,rfl⟩
   rw [←hnl] at hLe hCe
   subst hLe hCe
   clear hof hTT hLst hB4 h793 c0 c1 c2 f0 f1 f2 q0 q1 q2 q3 q4 hnl
   go_wp2
   have h4:=row3 (u:=.slice pL nl cL) (v:=.slice pC nl cC) (t:=.string TT) h793'.out
   have b4:Below w.heap.size w (((w3.setCell ⟨w.heap.size,0,none⟩ (.slice pL nl cL)).setCell ⟨w.heap.size,1,none⟩ (.slice pC nl cC)).setCell ⟨w.heap.size,2,none⟩ (.string TT)):=bel3 (hBw2'.out.trans (hB4'.out.mono hzz)) (Nat.le_refl _)
   have l4:=Lst.set3 (u:=.slice pL nl cL) (v:=.slice pC nl cC) (t:=.string TT) hLst'.out h793'.out
   obtain ⟨W4,hW4⟩:∃ W4,W4=((w3.setCell ⟨w.heap.size,0,none⟩ (.slice pL nl cL)).setCell ⟨w.heap.size,1,none⟩ (.slice pC nl cC)).setCell ⟨w.heap.size,2,none⟩ (.string TT):=⟨_,rfl⟩
   rw [←hW4] at h4 b4 l4 ⊢
   have j0:W4.cell? ⟨w.heap.size,0,none⟩=some (.slice pL nl cL):=(cell_of_heap h4).trans rfl
   have j1:W4.cell? ⟨w.heap.size,1,none⟩=some (.slice pC nl cC):=(cell_of_heap h4).trans rfl
   have j2:W4.cell? ⟨w.heap.size,2,none⟩=some (.string TT):=(cell_of_heap h4).trans rfl
   clear hW4 h4 d0 d1 d2 e0 e1 e2
   refine bodyPost_ret (v:=callV 0 (.slice pL nl cL) (.slice pC nl cC) TT) (by simp [results,Tryz.results17,go_sem,j0,j1,j2]; try rfl) rfl ?_
   refine ⟨_,_,_,rfl,b4,?_⟩
   first
    | exact .inr ⟨rfl,hTT'.out,_,by omega,l4⟩
    | exact ⟨hTT'.out,_,by omega,l4⟩
 · go_wp2
   have h4:=row3 (u:=.slice none 0 0) (v:=.slice none 0 0) (t:=.string ⟨#[]⟩) h792'.out
   have b4:Below w.heap.size w (((w2.setCell ⟨w.heap.size,0,none⟩ (.slice none 0 0)).setCell ⟨w.heap.size,1,none⟩ (.slice none 0 0)).setCell ⟨w.heap.size,2,none⟩ (.string ⟨#[]⟩)):=bel3 hBw2'.out (Nat.le_refl _)
   obtain ⟨W4,hW4⟩:∃ W4,W4=((w2.setCell ⟨w.heap.size,0,none⟩ (.slice none 0 0)).setCell ⟨w.heap.size,1,none⟩ (.slice none 0 0)).setCell ⟨w.heap.size,2,none⟩ (.string ⟨#[]⟩):=⟨_,rfl⟩
   rw [←hW4] at h4 b4 ⊢
   have j0:W4.cell? ⟨w.heap.size,0,none⟩=some (.slice none 0 0):=(cell_of_heap h4).trans rfl
   have j1:W4.cell? ⟨w.heap.size,1,none⟩=some (.slice none 0 0):=(cell_of_heap h4).trans rfl
   have j2:W4.cell? ⟨w.heap.size,2,none⟩=some (.string ⟨#[]⟩):=(cell_of_heap h4).trans rfl
   clear hW4 h4 c0 c1 c2 f0 f1 f2
   refine bodyPost_ret (v:=callV er (.slice none 0 0) (.slice none 0 0) ⟨#[]⟩) (by simp [results,Tryz.results17,go_sem,j0,j1,j2]; try rfl) rfl ?_
   exact ⟨_,_,_,rfl,b4,.inl ⟨he0,rfl,rfl,rfl⟩⟩
end Lb
end Go.Proofs
namespace Go.Proofs
open Go.RowKit
namespace Lb
noncomputable def opsE:Array Oper:=regIn 2 Tryz.f6
noncomputable def opE (i:Nat):Oper:=opsE.getD i default
theorem info30:(Tryz.prog.info? 30).map (·.size)=some 2:=by kernel_rfl
theorem put_none (a:Act) (v:Value):a.put none v=a:=rfl
theorem yif_assign {P:Program} {ops:Array Oper} {S:World→Prop} {o:Oper} {a:Act} {x:Operand} {v:Value} (hg:o.guard=none) (ho:o.op = .assign x) (hx:a.eval x=v):YieldsIf P ops S o v a :=
 .inl ⟨wanted_at hg _,fun w _=>by unfold execOp; simp only [ho,hx]; rfl⟩
theorem atE_0:opsE[0]? = some (opE 0):=by kernel_rfl
theorem fE_0:(opE 0).op = .fieldAddr 69 (.tmp 7) 1∧(opE 0).dst=some 15∧(opE 0).guard=none∧(opE 0).type=0:=by refine ⟨?_,?_,?_,?_⟩ <;> kernel_rfl
theorem atE_1:opsE[1]? = some (opE 1):=by kernel_rfl
theorem fE_1:(opE 1).op = .load 9 (.tmp 15)∧(opE 1).dst=some 16∧(opE 1).guard=none∧(opE 1).type=9:=by refine ⟨?_,?_,?_,?_⟩ <;> kernel_rfl
theorem atE_2:opsE[2]? = some (opE 2):=by kernel_rfl
theorem fE_2:(opE 2).op = .fieldAddr 69 (.tmp 7) 0∧(opE 2).dst=some 17∧(opE 2).guard=none∧(opE 2).type=0:=by refine ⟨?_,?_,?_,?_⟩ <;> kernel_rfl
theorem atE_3:opsE[3]? = some (opE 3):=by kernel_rfl
theorem fE_3:(opE 3).op = .load 30 (.tmp 17)∧(opE 3).dst=some 18∧(opE 3).guard=none∧(opE 3).type=30:=by refine ⟨?_,?_,?_,?_⟩ <;> kernel_rfl
theorem atE_4:opsE[4]? = some (opE 4):=by kernel_rfl
theorem fE_4:(opE 4).op = .move (.tmp 8)∧(opE 4).dst=some 19∧(opE 4).guard=none∧(opE 4).type=31:=by refine ⟨?_,?_,?_,?_⟩ <;> kernel_rfl
theorem atE_5:opsE[5]? = some (opE 5):=by kernel_rfl
theorem fE_5:(opE 5).op = .assign (.tmp 16)∧(opE 5).dst=some 4∧(opE 5).guard=none∧(opE 5).type=9:=by refine ⟨?_,?_,?_,?_⟩ <;> kernel_rfl
theorem atE_6:opsE[6]? = some (opE 6):=by kernel_rfl
theorem fE_6:(opE 6).op = .store 30 (.tmp 5) (.tmp 18)∧(opE 6).dst=none∧(opE 6).guard=none∧(opE 6).type=0:=by refine ⟨?_,?_,?_,?_⟩ <;> kernel_rfl
theorem atE_7:opsE[7]? = some (opE 7):=by kernel_rfl
theorem fE_7:(opE 7).op = .assign (.tmp 19)∧(opE 7).dst=some 6∧(opE 7).guard=none∧(opE 7).type=31:=by refine ⟨?_,?_,?_,?_⟩ <;> kernel_rfl
theorem fld79_2 (b:Nat) (w:World):(Instr.fieldAt 69 (.pointer (some ⟨b,0,none⟩)) 1).run Tryz.prog w = .ok (.pointer (some ⟨b,2,none⟩)) w:=by simp [go_sem]
theorem ld30p (b:Nat) (u v:Value) (w:World) (h0:w.cell? ⟨b,0,none⟩=some u) (h1:w.cell? ⟨b,1,none⟩=some v):(Instr.loadAt 30 (.pointer (some ⟨b,0,none⟩))).run Tryz.prog w = .ok (.agg #[u,v]) w:=by simp [go_sem,h0,h1]
def Se (b:Nat) (Lv Cv:Value) (T:ByteArray) (w:World):Prop:=w.heap[b]? = some (.cells #[Lv,Cv,.string T] 69 (0,0))
set_option maxHeartbeats 2000000 in
set_option maxRecDepth 100000 in
theorem rF_c {a0:Act} {w3:World} {Lv Cv u1 u2:Value} {bp br:Nat} {T:ByteArray} {er:Int} (sz:a0.tmps.size=20) (e7:a0.eval (.tmp 7) = .pointer (some ⟨bp,0,none⟩)) (e5:a0.eval (.tmp 5) = .pointer (some ⟨br,0,none⟩)) (e8:a0.eval (.tmp 8) = .int .i64 er)
 (hS:Se bp Lv Cv T w3) (hbr:w3.heap[br]? = some (.cells #[u1,u2] 30 (0,0))) (n2:bp≠br) (o1:Lv.oneCell'=true) (o2:Cv.oneCell'=true) :
 (Code.region 2 opsE true).wp Tryz.prog (fun e a' w'=>e = .normal∧(∃ aM,Same 15 19 a0 aM∧a'=(aM.put (some 4) (.string T)).put (some 6) (.int .i64 er))∧w'=w3.drew.setRow br #[Lv,Cv]) a0 w3:=by
 refine wp_region_held (S:=Se bp Lv Cv T) (by kernel_rfl) ?_
 rw [show opsE.size=8 by kernel_rfl]
 show wpAnyH Tryz.prog .any opsE _ _ 8 _ a0 w3.drew
 have hS:Se bp Lv Cv T w3.drew:=hS
 have hbr:w3.drew.heap[br]? = some (.cells #[u1,u2] 30 (0,0)):=hbr
 generalize w3.drew=w4 at *
 refine wpAnyH_take (i:=0) atE_0 (by kernel_rfl) (by kernel_rfl) (by kernel_rfl) (fun _ _ _ h=>by cases h.1) (yif_field (p:=.pointer (some ⟨bp,2,none⟩)) fE_0.2.2.1 fE_0.1 (by (try simp only [eval_ne,ne_eq,Nat.reduceEqDiff,not_false_eq_true]); first | with_reducible exact e7 | with_reducible exact e5 | with_reducible exact e8 | exact eval_same (by (try simp only [size_put]); omega)) (fld79_2 bp)) hS ?_
 rw [fE_0.2.1]
 refine wpAnyH_take (i:=1) atE_1 (by kernel_rfl) (by kernel_rfl) (by kernel_rfl) (fun _ _ _ h=>by cases h.1) (yif_load (p:=.string T) fE_1.2.2.1 fE_1.1 (by (try simp only [eval_ne,ne_eq,Nat.reduceEqDiff,not_false_eq_true]); first | with_reducible exact e7 | with_reducible exact e5 | with_reducible exact e8 | exact eval_same (by (try simp only [size_put]); omega)) (fun w hw=>ld9 _ _ w ((cell_of_heap hw).trans rfl))) hS ?_
 rw [fE_1.2.1]
 refine wpAnyH_take (i:=2) atE_2 (by kernel_rfl) (by kernel_rfl) (by kernel_rfl) (fun _ _ _ h=>by cases h.1) (yif_field (p:=.pointer (some ⟨bp,0,none⟩)) fE_2.2.2.1 fE_2.1 (by (try simp only [eval_ne,ne_eq,Nat.reduceEqDiff,not_false_eq_true]); first | with_reducible exact e7 | with_reducible exact e5 | with_reducible exact e8 | exact eval_same (by (try simp only [size_put]); omega)) (fld79_0 bp)) hS ?_
 rw [fE_2.2.1]
 refine wpAnyH_take (i:=3) atE_3 (by kernel_rfl) (by kernel_rfl) (by kernel_rfl) (fun _ _ _ h=>by cases h.1) (yif_load (p:=.agg #[Lv,Cv]) fE_3.2.2.1 fE_3.1 (by (try simp only [eval_ne,ne_eq,Nat.reduceEqDiff,not_false_eq_true]); first | with_reducible exact e7 | with_reducible exact e5 | with_reducible exact e8 | exact eval_same (by (try simp only [size_put]); omega)) (fun w hw=>ld30p _ _ _ w ((cell_of_heap hw).trans rfl) ((cell_of_heap hw).trans rfl))) hS ?_
 rw [fE_3.2.1]
 refine wpAnyH_take (i:=4) atE_4 (by kernel_rfl) (by kernel_rfl) (by kernel_rfl) (fun _ _ _ h=>by cases h.1) (yif_move (v:=.int .i64 er) fE_4.2.2.1 fE_4.1 (by (try simp only [eval_ne,ne_eq,Nat.reduceEqDiff,not_false_eq_true]); first | with_reducible exact e7 | with_reducible exact e5 | with_reducible exact e8 | exact eval_same (by (try simp only [size_put]); omega))) hS ?_
 rw [fE_4.2.1]
 refine wpAnyH_take (i:=5) atE_5 (by kernel_rfl) (by kernel_rfl) (by kernel_rfl) (fun _ _ _ h=>by cases h.1) (yif_assign (v:=.string T) fE_5.2.2.1 fE_5.1 (by (try simp only [eval_ne,ne_eq,Nat.reduceEqDiff,not_false_eq_true]); exact eval_same (by (try simp only [size_put]); omega))) hS ?_
 rw [fE_5.2.1]
 refine wpAnyH_all (rs:=[6]) (by kernel_rfl) (by simp) (fun i hi=>?_)
 obtain rfl:i=6:=by simpa using hi
 refine wpOp_at atE_6 fE_6.2.2.1 ?_
 have h1:=fE_6.1
 have h2:=fE_6.2.1
 generalize opE 6=o at *
 have hi2:(Tryz.prog.info? 30).map (·.size)=some (#[Lv,Cv]:Array Value).size:=info30
 refine wp_store_row 30 (.tmp 5) (.tmp 18) h1 br #[Lv,Cv] (by (try simp only [eval_ne,ne_eq,Nat.reduceEqDiff,not_false_eq_true]); exact e5) (by (try simp only [eval_ne,ne_eq,Nat.reduceEqDiff,not_false_eq_true]); exact eval_same (by (try simp only [size_put]); omega)) 30 #[u1,u2] hbr hi2 rfl (by simp [o1,o2]) ?_
 rw [h2,put_none]
 have hS:Se bp Lv Cv T (w4.setRow br #[Lv,Cv]):=by unfold Se; rw [setRow_other _ _ _ _ n2]; exact hS
 refine ⟨hS,?_⟩
 refine wpAnyH_take (i:=7) atE_7 (by kernel_rfl) (by kernel_rfl) (by kernel_rfl) (fun _ _ _ h=>by cases h.1) (yif_assign (v:=.int .i64 er) fE_7.2.2.1 fE_7.1 (by (try simp only [eval_ne,ne_eq,Nat.reduceEqDiff,not_false_eq_true]); exact eval_same (by (try simp only [size_put]); omega))) hS ?_
 rw [fE_7.2.1]
 refine ⟨by kernel_rfl,rfl,⟨_,?_,rfl⟩,rfl⟩
 exact (((((Same.refl 15 19 a0).put (by decide) (by decide)).put (by decide) (by decide)).put (by decide) (by decide)).put (by decide) (by decide)).put (by decide) (by decide)
end Lb
end Go.Proofs
namespace Go.Proofs
open Go.RowKit
namespace Lb
def Fin_ (er:Int) (TX:ByteArray) (L:List (List Int)) (b0:Nat) (w:World) (Lv Cv:Value) (T:ByteArray):Prop :=
 (er≠0∧Lv = .slice none 0 0∧Cv = .slice none 0 0∧T=⟨#[]⟩)∨(er=0∧T=TX∧∃ B,b0≤B∧Lst B w Lv Cv L)
theorem Lst.setRow {B br:Nat} {w:World} {Lv Cv:Value} {L:List (List Int)} {cs cs':Array Value} (h:Lst B w Lv Cv L) (hp:w.heap[br]? = some (.cells cs 30 (0,0))):Lst B (w.setRow br cs') Lv Cv L:=by
 have hg:w.grownBy (w.setRow br cs') (some br):=⟨rfl,rfl,rfl,by simp [World.setRow],fun k _ hk=>setRow_other w br k _ (fun e=>hk (by rw [e]))⟩
 obtain ⟨⟨lvs,h1,h2⟩,h3⟩:=h
 exact ⟨⟨lvs,h1.kept hg (own_bp hp h1 (by decide)),fun j hj=>let ⟨lv,a,b⟩:=h2 j hj; ⟨lv,a,b.kept hg (own_bp hp b (by decide))⟩⟩,h3.kept hg (own_bp hp h3 (by decide))⟩
theorem Lst.quiet {B:Nat} {w w':World} {Lv Cv:Value} {L:List (List Int)} (h:Lst B w Lv Cv L) (g:w.grownBy w' none):Lst B w' Lv Cv L:=by
 obtain ⟨⟨lvs,h1,h2⟩,h3⟩:=h
 exact ⟨⟨lvs,own_none h1 g,fun j hj=>let ⟨lv,a,b⟩:=h2 j hj; ⟨lv,a,own_none b g⟩⟩,own_none h3 g⟩
theorem Fin_.quiet {er:Int} {TX T:ByteArray} {L:List (List Int)} {b0:Nat} {w w':World} {Lv Cv:Value} (h:Fin_ er TX L b0 w Lv Cv T) (g:w.grownBy w' none):Fin_ er TX L b0 w' Lv Cv T :=
 h.imp id fun ⟨a,b,B,c,d⟩=>⟨a,b,B,c,d.quiet g⟩
theorem Fin_.setRow {er:Int} {TX T:ByteArray} {L:List (List Int)} {b0 br:Nat} {w:World} {Lv Cv:Value} {cs cs':Array Value} (h:Fin_ er TX L b0 w Lv Cv T) (hp:w.heap[br]? = some (.cells cs 30 (0,0))):Fin_ er TX L b0 (w.setRow br cs') Lv Cv T :=
 h.imp id fun ⟨a,b,B,c,d⟩=>⟨a,b,B,c,d.setRow hp⟩
theorem Fin_.form {er:Int} {TX T:ByteArray} {L:List (List Int)} {b0:Nat} {w:World} {Lv Cv:Value} (h:Fin_ er TX L b0 w Lv Cv T):(∃ p n c,Lv = .slice p n c)∧(∃ p n c,Cv = .slice p n c):=by
 rcases h with ⟨_,rfl,rfl,_⟩ | ⟨_,_,B,_,hl⟩
 · exact ⟨⟨_,_,_,rfl⟩,⟨_,_,_,rfl⟩⟩
 · obtain ⟨p,c,e⟩:=slice_of hl.1.choose_spec.1
   obtain ⟨q,d,f⟩:=slice_of hl.2
   exact ⟨⟨_,_,_,e⟩,⟨_,_,_,f⟩⟩
theorem Same.act5 {lo:Nat} {a a':Act} (h:Same lo (lo+4) a a') (hs:lo+4 < a.tmps.size):∃ v0 v1 v2 v3 v4,a'=((((a.put (some lo) v0).put (some (lo+1)) v1).put (some (lo+2)) v2).put (some (lo+3)) v3).put (some (lo+4)) v4:=by
 have h:=h.next (by (try simp only [size_put]); omega)
 have h:=h.next (by (try simp only [size_put]); omega)
 have h:=h.next (by (try simp only [size_put]); omega)
 have h:=h.next (by (try simp only [size_put]); omega)
 have h:=h.next (by (try simp only [size_put]); omega)
 exact ⟨_,_,_,_,_,h.eq (by omega)⟩
set_option maxRecDepth 100000 in
set_option maxHeartbeats 2000000 in
theorem prog_c {er:Int} {TX:ByteArray} {L:List (List Int)} {s:ByteArray} {v:Value} {w:World}
 (hcall:∀ w1,Below w.heap.size w w1→Calls Tryz.prog 17 #[.string s,v] w1 fun e w'=>∃ Lv Cv T,e = .returned (callV er Lv Cv T)∧Below w1.heap.size w1 w'∧Fin_ er TX L w.heap.size w' Lv Cv T) :
 Calls Tryz.prog 6 #[.string s,v] w fun e w'=>∃ Lv Cv T,e = .returned (.tuple #[.string T,.agg #[Lv,Cv],.int .i64 er])∧Below w.heap.size w w'∧Fin_ er TX L w.heap.size w' Lv Cv T:=by
 have hB0:Below w.heap.size w (w.alloc (.cells #[.slice none 0 0,.slice none 0 0] 30)):=(Below.refl _ _).alloc (Nat.le_refl _) _
 have hf:=hcall _ hB0
 have h30:=heap_alloc_new w (.cells #[.slice none 0 0,.slice none 0 0] 30)
 have hsz:=size_new w (.cells #[.slice none 0 0,.slice none 0 0] 30)
 have h30':Hid _:=h30
 have hB0':Hid _:=hB0
 have hsz':Hid _:=hsz
 clear h30 hB0 hsz hcall
 go_enter Tryz.func6,Tryz.ntmps6
 go_wp2_with (go_at_call 17; refine hf.mono ?_)
 rintro e w1 ⟨Lv,Cv,T,rfl,hB1,hF⟩
 obtain ⟨⟨p1,n1,c1,hLe⟩,⟨p2,n2,c2,hCe⟩⟩:=hF.form
 have hz1:=hB1.size
 rw [hsz'.out] at hz1
 have h301:w1.heap[w.heap.size]? = some (.cells #[.slice none 0 0,.slice none 0 0] 30 (0,0)):=(hB1.block _ (by rw [hsz'.out]; omega)).trans h30'.out
 have hBw:Below w.heap.size w w1:=hB0'.out.trans (hB1.mono (by rw [hsz'.out]; omega))
 subst hLe hCe
 unfold callV
 have hF':Hid _:=hF
 have h301':Hid _:=h301
 have hBw':Hid _:=hBw
 clear hf hF h301 hBw hB1
 go_wp2
 have hA:=World.grownBy_alloc w1 (.cells #[.slice p1 n1 c1,.slice p2 n2 c2,.string T] 69) none
 have h302:=row_keep h301'.out hA (by simp)
 refine Code.wp_mono (fun e aF wF h=>?_) (rF_c (bp:=w1.heap.size) (br:=w.heap.size) (u1:=.slice none 0 0) (u2:=.slice none 0 0) (Lv:=.slice p1 n1 c1) (Cv:=.slice p2 n2 c2) (T:=T) (er:=er) (by rfl) (by rfl) (by rfl) (by rfl) (heap_alloc_new w1 _) h302 (by omega) rfl rfl)
 obtain ⟨rfl,⟨aM,hsm,rfl⟩,rfl⟩:=h
 obtain ⟨v15,v16,v17,v18,v19,rfl⟩:=Same.act5 (lo:=15) hsm (show 15+4 < 20 by decide)
 simp only [Act.put,List.setIfInBounds_toArray,List.set_cons_zero,List.set_cons_succ]
 have hF3:Fin_ er TX L w.heap.size (w1.alloc (.cells #[.slice p1 n1 c1,.slice p2 n2 c2,.string T] 69)).drew (.slice p1 n1 c1) (.slice p2 n2 c2) T:=Fin_.quiet hF'.out (grown_trans hA ⟨rfl,rfl,rfl,Nat.le_refl _,fun _ _ _=>rfl⟩)
 have h303:(w1.alloc (.cells #[.slice p1 n1 c1,.slice p2 n2 c2,.string T] 69)).drew.heap[w.heap.size]? = some (.cells #[.slice none 0 0,.slice none 0 0] 30 (0,0)):=h302
 have hB3:Below w.heap.size w (w1.alloc (.cells #[.slice p1 n1 c1,.slice p2 n2 c2,.string T] 69)).drew:=(Below.alloc hBw'.out (by omega) _).drew
 have h4:=setRow_heap _ w.heap.size _ #[.slice p1 n1 c1,.slice p2 n2 c2] _ _ h303
 have hF4:=hF3.setRow (cs':=#[.slice p1 n1 c1,.slice p2 n2 c2]) h303
 have b4:Below w.heap.size w ((w1.alloc (.cells #[.slice p1 n1 c1,.slice p2 n2 c2,.string T] 69)).drew.setRow w.heap.size #[.slice p1 n1 c1,.slice p2 n2 c2]):=⟨hB3.os,hB3.tape,hB3.output,by have:=hB3.size; simp [World.setRow]; simpa using this,fun k hk=>(setRow_other _ _ _ _ (by omega)).trans (hB3.block k hk)⟩
 obtain ⟨W4,hW4⟩:∃ W4,W4=(w1.alloc (.cells #[.slice p1 n1 c1,.slice p2 n2 c2,.string T] 69)).drew.setRow w.heap.size #[.slice p1 n1 c1,.slice p2 n2 c2]:=⟨_,rfl⟩
 rw [←hW4] at h4 hF4 b4 ⊢
 have j0:W4.cell? ⟨w.heap.size,0,none⟩=some (.slice p1 n1 c1):=(cell_of_heap h4).trans rfl
 have j1:W4.cell? ⟨w.heap.size,1,none⟩=some (.slice p2 n2 c2):=(cell_of_heap h4).trans rfl
 clear hW4 h4 hF3 h303 hB3 h302 hA hsm
 go_wp2
 refine bodyPost_ret (v:=.tuple #[.string T,.agg #[.slice p1 n1 c1,.slice p2 n2 c2],.int .i64 er]) (by simp [results,Tryz.results6,go_sem,j0,j1]; try rfl) rfl ?_
 exact ⟨_,_,_,rfl,b4,hF4⟩
end Lb
end Go.Proofs
namespace Go.Proofs
open Go.RowKit
namespace Lb
set_option maxRecDepth 100000 in
set_option maxHeartbeats 2000000 in
theorem libA_long {I:World→Prop} (hC:Ctx I) {w:World} {s:ByteArray} {v:Value} {xs:List AArg} (hi:I w) (h:HasA w v xs) (hl:xs.length≤9223372036854775807) (hs:s.size≤9223372036854775807) (hb:100 < s.size∨thinV xs=false) :
 Calls Tryz.prog 3 #[.agg #[.string s,v]] w fun e w'=>e = .returned (.bool true)∧I w':=by
 have hB:Below w.heap.size w (w.alloc (.cells #[.string s,v] 24)):=(Below.refl _ _).alloc (Nat.le_refl _) _
 have k0:(w.alloc (.cells #[.string s,v] 24)).cell? ⟨w.heap.size,0,none⟩=some (.string s):=by rw [cells_new]; rfl
 have k1:(w.alloc (.cells #[.string s,v] 24)).cell? ⟨w.heap.size,1,none⟩=some v:=by rw [cells_new]; rfl
 have hc:=hC.awk _ (hC.mono _ _ hi hB)
 have ht:=thin_c xs v _ (h.below hB) hl
 obtain ⟨p,c,rfl,_⟩:=h
 clear hC hi
 by_cases h1:100 < s.size
 · have h1':(100:Int) < (s.size:Int):=by omega
   clear hb
   go_enter Tryz.func3,Tryz.ntmps3
   go_wp2_with (go_at_call 5; refine hc.mono ?_; rintro e w' ⟨rfl,hI⟩)
   go_ret
   exact ⟨rfl,hI⟩
 · have h2:thinV xs=false:=hb.resolve_left h1
   rw [h2] at ht
   have h1':¬ (100:Int) < (s.size:Int):=by omega
   clear hb
   go_enter Tryz.func3,Tryz.ntmps3
   go_wp2_with (first | (go_at_call 4; refine ht.mono ?_; rintro e w1 ⟨rfl,hw1⟩; rw [hw1]; clear hw1) | (go_at_call 5; refine hc.mono ?_; rintro e w' ⟨rfl,hI⟩))
   go_ret
   exact ⟨rfl,hI⟩
theorem thin_len {xs:List AArg} (h:thinV xs=true):xs.length≤6∧∀ a∈xs,a.l.length≤60:=by
 unfold thinV at h
 simp only [Bool.and_eq_true,Bool.not_eq_true',decide_eq_true_eq,List.any_eq_false] at h
 refine ⟨h.2,fun a ha=>?_⟩
 have:=h.1 a ha
 unfold fatA longLen at this
 simp only [Bool.or_eq_true,Bool.and_eq_true,decide_eq_true_eq] at this
 omega
structure Acc (I:World→Prop) (P1:World→Value→Prop) (P2:World→Value→Prop) (T:ByteArray):Prop where
 parse:∀ w,I w→Calls Tryz.prog 8 #[.string T] w fun e w'=>∃ p1 n1 c1 p2 n2 c2 x,e = .returned (.tuple #[.agg #[.slice p1 n1 c1,.slice p2 n2 c2],x,.int .i64 0])∧P1 w' (.agg #[.slice p1 n1 c1,.slice p2 n2 c2])∧Below w.heap.size w w'
 m1:∀ w w' a,P1 w a→Below w.heap.size w w'→P1 w' a
 lower:∀ w a,I w→P1 w a→Calls Tryz.prog 9 #[a] w fun e w'=>∃ l y,e = .returned (.tuple #[l,y,.int .i64 0])∧P2 w' l∧Below w.heap.size w w'
 flow:∀ w l,I w→P2 w l→Calls Tryz.prog 10 #[l] w fun e w'=>∃ z,e = .returned (.tuple #[z,.int .i64 0])∧Below w.heap.size w w'
set_option maxRecDepth 100000 in
set_option maxHeartbeats 4000000 in
theorem libA_err {I:World→Prop} (hC:Ctx I) {w:World} {s:ByteArray} {v:Value} {xs:List AArg} (hi:I w) (h:HasA w v xs) (hs:s.size≤100) (ht0:thinV xs=true) {er:Int} (he:er≠0)
 (hprog:∀ (w1:World) (v1:Value),I w1→HasA w1 v1 xs→Calls Tryz.prog 6 #[.string s,v1] w1 fun e w'=>∃ p1 n1 c1 p2 n2 c2 T,e = .returned (.tuple #[.string T,.agg #[.slice p1 n1 c1,.slice p2 n2 c2],.int .i64 er])∧Below w1.heap.size w1 w') :
 Calls Tryz.prog 3 #[.agg #[.string s,v]] w fun e w'=>e = .returned (.bool true)∧I w':=by
 obtain ⟨hl,hL⟩:=thin_len ht0
 have hB:Below w.heap.size w (w.alloc (.cells #[.string s,v] 24)):=(Below.refl _ _).alloc (Nat.le_refl _) _
 have hz:=size_new w (.cells #[.string s,v] 24)
 have ht:=thin_c xs v _ (h.below hB) (by omega)
 rw [ht0] at ht
 have hown:=own_c s xs v _ (h.below hB) hl hL
 have hawk:=hC.awk
 have hm:=hC.mono
 have hI0:I (w.alloc (.cells #[.string s,v] 24)):=hC.mono _ _ hi hB
 have k0:(w.alloc (.cells #[.string s,v] 24)).cell? ⟨w.heap.size,0,none⟩=some (.string s):=by rw [cells_new]; rfl
 have k1:(w.alloc (.cells #[.string s,v] 24)).cell? ⟨w.heap.size,1,none⟩=some v:=by rw [cells_new]; rfl
 have h1':¬ (100:Int) < (s.size:Int):=by omega
 obtain ⟨p,c,rfl,_⟩:=h
 have hm':Hid _:=hm
 have hawk':Hid _:=hawk
 have hI0':Hid _:=hI0
 have hprog':Hid _:=hprog
 clear hC hi hB ht0 hL hm hawk hI0 hprog
 go_enter Tryz.func3,Tryz.ntmps3
 go_wp2_with (first | (go_at_call 4; refine ht.mono ?_; rintro e w1 ⟨rfl,hw1⟩; rw [hw1]; clear hw1) | (go_at_call 7; refine hown.mono ?_))
 rintro e w1 ⟨v1,rfl,hA1,hB1⟩
 have hI1:I w1:=hm'.out _ _ hI0'.out hB1
 have hp:=hprog'.out w1 v1 hI1 hA1
 have hI1':Hid (I w1):=hI1
 clear hown ht hA1 hB1 hI1 hz k0 k1
 go_wp2_with (go_at_call 6; refine hp.mono ?_)
 rintro e w2 ⟨p1,n1,c1,p2,n2,c2,T,rfl,hB2⟩
 have hI2:I w2:=hm'.out _ _ hI1'.out hB2
 have hB3:Below w2.heap.size w2 (w2.alloc (.cells #[.slice p1 n1 c1,.slice p2 n2 c2] 30)):=(Below.refl _ _).alloc (Nat.le_refl _) _
 have hI3:=hm'.out _ _ hI2 hB3
 have hc:=hawk'.out _ hI3
 clear hB2 hI2 hB3 hI3 hp hI1' hI0' hprog' hm'
 go_wp2_with (go_at_call 5; refine hc.mono ?_; rintro e w' ⟨rfl,hI⟩)
 go_ret
 exact ⟨rfl,hI⟩
set_option maxRecDepth 100000 in
set_option maxHeartbeats 4000000 in
theorem libA_ok {I:World→Prop} (hC:Ctx I) {w:World} {s:ByteArray} {v:Value} {xs:List AArg} (hi:I w) (h:HasA w v xs) (hs:s.size≤100) (ht0:thinV xs=true) {P1 P2:World→Value→Prop} {T:ByteArray} (hT:Acc I P1 P2 T)
 (hprog:∀ (w1:World) (v1:Value),I w1→HasA w1 v1 xs→Calls Tryz.prog 6 #[.string s,v1] w1 fun e w'=>∃ p1 n1 c1 p2 n2 c2,e = .returned (.tuple #[.string T,.agg #[.slice p1 n1 c1,.slice p2 n2 c2],.int .i64 0])∧Below w1.heap.size w1 w') :
 Calls Tryz.prog 3 #[.agg #[.string s,v]] w fun e w'=>e = .returned (.bool true)∧I w':=by
 obtain ⟨hl,hL⟩:=thin_len ht0
 have hB:Below w.heap.size w (w.alloc (.cells #[.string s,v] 24)):=(Below.refl _ _).alloc (Nat.le_refl _) _
 have hz:=size_new w (.cells #[.string s,v] 24)
 have ht:=thin_c xs v _ (h.below hB) (by omega)
 rw [ht0] at ht
 have hown:=own_c s xs v _ (h.below hB) hl hL
 have hawk:=hC.awk
 have hm:=hC.mono
 have hI0:I (w.alloc (.cells #[.string s,v] 24)):=hC.mono _ _ hi hB
 have k0:(w.alloc (.cells #[.string s,v] 24)).cell? ⟨w.heap.size,0,none⟩=some (.string s):=by rw [cells_new]; rfl
 have k1:(w.alloc (.cells #[.string s,v] 24)).cell? ⟨w.heap.size,1,none⟩=some v:=by rw [cells_new]; rfl
 have h1':¬ (100:Int) < (s.size:Int):=by omega
 obtain ⟨p,c,rfl,_⟩:=h
 have hm':Hid _:=hm
 have hawk':Hid _:=hawk
 have hI0':Hid _:=hI0
 have hprog':Hid _:=hprog
 clear hC hi hB ht0 hL hm hawk hI0 hprog
 go_enter Tryz.func3,Tryz.ntmps3
 go_wp2_with (first | (go_at_call 4; refine ht.mono ?_; rintro e w1 ⟨rfl,hw1⟩; rw [hw1]; clear hw1) | (go_at_call 7; refine hown.mono ?_))
 rintro e w1 ⟨v1,rfl,hA1,hB1⟩
 have hI1:I w1:=hm'.out _ _ hI0'.out hB1
 have hp:=hprog'.out w1 v1 hI1 hA1
 have hI1':Hid (I w1):=hI1
 clear hown ht hA1 hB1 hI1 hz k0 k1
 go_wp2_with (go_at_call 6; refine hp.mono ?_)
 rintro e w2 ⟨p1,n1,c1,p2,n2,c2,rfl,hB2⟩
 have hI2:I w2:=hm'.out _ _ hI1'.out hB2
 have hB3:Below w2.heap.size w2 (w2.alloc (.cells #[.slice p1 n1 c1,.slice p2 n2 c2] 30)):=(Below.refl _ _).alloc (Nat.le_refl _) _
 have hI3:=hm'.out _ _ hI2 hB3
 have hp:=hT.parse _ hI3
 have hI3':Hid _:=hI3
 have hT':Hid _:=hT
 clear hB2 hI2 hB3 hI3 hI1' hI0' hprog' hT
 go_wp2_with (go_at_call 8; refine hp.mono ?_)
 rintro e w4 ⟨q1,m1,k1,q2,m2,k2,x,rfl,hP1,hB4⟩
 have hI4:I w4:=hm'.out _ _ hI3'.out hB4
 have hB5:Below w4.heap.size w4 (w4.alloc (.cells #[.slice q1 m1 k1,.slice q2 m2 k2] 39)):=(Below.refl _ _).alloc (Nat.le_refl _) _
 have hI5:=hm'.out _ _ hI4 hB5
 have hl2:=hT'.out.lower _ _ hI5 (hT'.out.m1 _ _ _ hP1 hB5)
 have g0:(w4.alloc (.cells #[.slice q1 m1 k1,.slice q2 m2 k2] 39)).cell? ⟨w4.heap.size,0,none⟩=some (.slice q1 m1 k1):=by rw [cells_new]; rfl
 have g1:(w4.alloc (.cells #[.slice q1 m1 k1,.slice q2 m2 k2] 39)).cell? ⟨w4.heap.size,1,none⟩=some (.slice q2 m2 k2):=by rw [cells_new]; rfl
 have hI5':Hid _:=hI5
 clear hP1 hB4 hI4 hB5 hI5 hp hI3'
 go_wp2_with (go_at_call 9; refine hl2.mono ?_)
 rintro e w6 ⟨l,y,rfl,hP2,hB6⟩
 have hI6:I w6:=hm'.out _ _ hI5'.out hB6
 have hf:=hT'.out.flow _ _ hI6 hP2
 have hI6':Hid (I w6):=hI6
 clear hP2 hB6 hI6 hl2 hI5' g0 g1
 go_wp2_with (go_at_call 10; refine hf.mono ?_)
 rintro e w7 ⟨z,rfl,hB7⟩
 have hI7:I w7:=hm'.out _ _ hI6'.out hB7
 have hc:=hawk'.out _ hI7
 clear hB7 hI7 hf hI6' hm' hT'
 go_wp2_with (go_at_call 5; refine hc.mono ?_; rintro e w' ⟨rfl,hI⟩)
 go_ret
 exact ⟨rfl,hI⟩
end Lb
end Go.Proofs
