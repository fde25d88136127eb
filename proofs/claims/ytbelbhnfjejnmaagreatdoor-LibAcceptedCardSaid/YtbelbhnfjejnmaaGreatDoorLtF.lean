/- PROVED HERE: a part (LtF) of the tied card of LibAccepted (floodgatelaw25). CONDITIONS: those of the given row and card alone. -/
import Derived.Test.YtbelbhnfjejnmaaGreatDoorWj
import Derived.Test.YtbelbhnfjejnmaaGreatDoorXd
import Derived.Test.YtbelbhnfjejnmaaGreatDoorEvg
import Derived.KernelRfl
namespace Go.Proofs
noncomputable section
open Go.RowKit
namespace Lb
def toB (s:List Nat):ByteArray:=⟨(s.map UInt8.ofNat).toArray⟩
def okS (s:List Nat):Bool:=s.all fun n=>Nat.blt n 256
theorem okS_lt {s:List Nat} (h:okS s=true):∀ e∈s,e < 256:=fun e he=>by
 have:=List.all_eq_true.1 h e he
 simpa [Nat.blt_eq] using this
def Rp (n:Nat→Nat) (b:ByteArray) (E:List Nat):Prop:=b.data.toList=Lx.txB n E
theorem Rp.app {n:Nat→Nat} {a b:ByteArray} {E F:List Nat} (h1:Rp n a E) (h2:Rp n b F):Rp n (a++b) (E++F):=by
 unfold Rp at *
 rw [ByteArray.data_append,Array.toList_append,h1,h2,Lx.txB_app]
theorem Rp.toB {n:Nat→Nat} {s:List Nat} (h:okS s=true):Rp n (toB s) s:=by
 unfold Rp
 rw [Lx.txB_map (okS_lt h)]
 show (s.map UInt8.ofNat).toArray.toList=_
 rw [List.toList_toArray]
theorem Rp.lit {n:Nat→Nat} {b:ByteArray} (s:List Nat) (e:b=Lb.toB s) (h:okS s=true):Rp n b s:=e ▸ Rp.toB h
theorem Rp.eq {n:Nat→Nat} {b:ByteArray} {E:List Nat} (h:Rp n b E):b=Lx.bs (Lx.txB n E):=bytes_ext h
theorem dec_rp {n:Nat→Nat} {i m:Nat} (h:n i=m):Rp n (mkD (Lib.decDigits m)) [256+i]:=by
 show Lib.decDigits m=Lx.enB n (256+i) ++ []
 rw [List.append_nil,Lx.enB_num (by omega),Nat.add_sub_cancel_left,h]
def numE:Bool→Nat→List Nat
 | true,i=>[45,256+i]
 | false,i=>[256+i]
theorem num_rp {n:Nat→Nat} {i:Nat} {a:Int} (h:n i=a.natAbs):Rp n (mkD (Lib.itoa a)) (numE (decide (a < 0)) i):=by
 by_cases h0:a < 0
 · have e:Lib.itoa a=45 :: Lib.decDigits a.natAbs:=by unfold Lib.itoa; rw [if_pos h0]
   rw [e,show decide (a < 0)=true by simpa using h0]
   show 45 :: Lib.decDigits a.natAbs = [45]++(Lx.enB n (256+i) ++ [])
   rw [List.append_nil,Lx.enB_num (by omega),Nat.add_sub_cancel_left,h]; rfl
 · have e:Lib.itoa a=Lib.decDigits a.natAbs:=by unfold Lib.itoa; rw [if_neg h0]; congr 1; omega
   rw [e,show decide (a < 0)=false by simpa using h0]
   exact dec_rp h
theorem small_rp {n:Nat→Nat} {k:Nat} (h:k < 10):Rp n (mkD (Lib.itoa (k:Int))) [48+k]:=by
 show Lib.itoa (k:Int)=Lx.enB n (48+k) ++ []
 rw [Lib.itoa_nonneg,Lib.decDigits,List.append_nil,Lx.enB_byte (by omega)]
 split
 · rfl
 · omega
def nmE (k:Nat):List Nat:=[115] ++ [48+k]
def parE (k:Nat):List Nat:=nmE k ++ [58,32] ++ [115,116,114,101,97,109,32,105,110,116]
def pckE (k i:Nat):List Nat:=[112,97,99,107,40]++nmE k ++ [44,32] ++ [256+i] ++ [41]
theorem nm_rp {n:Nat→Nat} {k:Nat} (h:k < 10):Rp n (nmB k) (nmE k):=(Rp.lit [115] rfl rfl).app (small_rp h)
theorem par_rp {n:Nat→Nat} {k:Nat} (h:k < 10):Rp n (parB k) (parE k):=((nm_rp h).app (Rp.lit [58,32] rfl rfl)).app (Rp.lit [115,116,114,101,97,109,32,105,110,116] rfl rfl)
theorem pck_rp {n:Nat→Nat} {k i m:Nat} (h:k < 10) (hn:n i=m):Rp n (pckB k m) (pckE k i):=by
 unfold pckB pckE
 rw [Lib.itoa_nonneg]
 exact ((((Rp.lit [112,97,99,107,40] rfl rfl).app (nm_rp h)).app (Rp.lit [44,32] rfl rfl)).app (dec_rp hn)).app (Rp.lit [41] rfl rfl)
def RpL (n:Nat→Nat) (xs:List ByteArray) (Es:List (List Nat)):Prop:=xs.map (fun b=>b.data.toList)=Es.map (Lx.txB n)
theorem RpL.len {n:Nat→Nat} {xs:List ByteArray} {Es:List (List Nat)} (h:RpL n xs Es):xs.length=Es.length:=by
 have:=congrArg List.length h
 simpa using this
theorem RpL.add {n:Nat→Nat} {xs:List ByteArray} {Es:List (List Nat)} (h:RpL n xs Es) {b:ByteArray} {E:List Nat} (hb:Rp n b E):RpL n (xs ++ [b]) (Es ++ [E]):=by
 unfold RpL Rp at *
 rw [List.map_append,List.map_append,h]
 show _ ++ [b.data.toList]=_ ++ [Lx.txB n E]
 rw [hb]
theorem RpL.toB {n:Nat→Nat}:∀ {Es:List (List Nat)},(∀ s∈Es,okS s=true)→RpL n (Es.map Lb.toB) Es
 | [],_=>rfl
 | E :: Es,h=>by
  show (Lb.toB E).data.toList :: _=Lx.txB n E :: _
  rw [show (Lb.toB E).data.toList=Lx.txB n E from Rp.toB (h E (by simp))]
  exact congrArg _ (RpL.toB fun s hs=>h s (by simp [hs]))
def tailE:List (List Nat)→List Nat
 | []=>[]
 | y :: r=>[44,32]++y++tailE r
def joinE:List (List Nat)→List Nat
 | []=>[]
 | x :: r=>x++tailE r
theorem tail_rp (n:Nat→Nat):∀ Es:List (List Nat),Lib.joinTail [44,32] (Es.map (Lx.txB n))=Lx.txB n (tailE Es)
 | []=>rfl
 | y :: r=>by
  have e:Lib.joinTail [44,32] ((y :: r).map (Lx.txB n)) = [44,32]++Lx.txB n y++Lib.joinTail [44,32] (r.map (Lx.txB n)):=by simp [Lib.joinTail]
  rw [e,tail_rp n r]
  show _=Lx.txB n ([44,32]++y++tailE r)
  rw [Lx.txB_app,Lx.txB_app]; rfl
theorem join_rp {n:Nat→Nat} {xs:List ByteArray} {Es:List (List Nat)} (h:RpL n xs Es):Rp n (joinB xs sepB) (joinE Es):=by
 show Lib.join (xs.map (·.data.toList)) [44,32]=_
 rw [show xs.map (·.data.toList)=Es.map (Lx.txB n) from h]
 cases Es with
 | nil=>rfl
 | cons x r =>
  show Lib.join (Lx.txB n x :: r.map (Lx.txB n)) [44,32]=Lx.txB n (x++tailE r)
  rw [Lib.join_cons,tail_rp,Lx.txB_app]
structure StE where
 Pa:List (List Nat)
 Gi:List (List Nat)
def isIntN (s:List Nat):Bool:=Ev.listB Nat.beq s [105,110,116]
def isArrN (s:List Nat):Bool:=Ev.listB Nat.beq s [91,105,110,116,93]
theorem eqN {a b:List Nat}:Ev.listB Nat.beq a b=true↔a=b:=by
 constructor
 · exact Ev.listB_eq fun _ _ h=>Nat.eq_of_beq_eq_true h
 · rintro rfl
   induction a with
   | nil=>rfl
   | cons x a ih =>
    show and (Nat.beq x x) (Ev.listB Nat.beq a a)=true
    rw [ih,Nat.beq_refl]; rfl
theorem toB_list (s:List Nat):(toB s).toList=s.map UInt8.ofNat:=by
 rw [ByteArray.toList_eq]
 show (s.map UInt8.ofNat).toArray.toList=_
 rw [List.toList_toArray]
theorem same_N {s K:List Nat} {B:List UInt8} (hs:okS s=true) (hK:∀ e∈K,e < 256) (hB:B=K.map UInt8.ofNat):((toB s).toList==B)=Ev.listB Nat.beq s K:=by
 rw [Bool.eq_iff_iff,eqN,beq_iff_eq,toB_list,hB]
 exact ⟨Lx.map_inj (okS_lt hs) hK,fun h=>by rw [h]⟩
theorem arr_N {s:List Nat} (hs:okS s=true):isArr (toB s)=isArrN s:=same_N hs (by decide) rfl
theorem intB_list:intB.toList = [105,110,116].map UInt8.ofNat:=by
 rw [ByteArray.toList_eq]; decide +kernel
theorem int_N {s:List Nat} (hs:okS s=true):((toB s).toList==intB.toList)=isIntN s:=same_N hs (by decide) intB_list
def stE1 (pr:List Nat) (neg:Bool) (i:Nat) (s:StE):StE:=match isIntN pr with
 | true=>⟨s.Pa,s.Gi ++ [numE neg i]⟩
 | false=>match isArrN pr with
  | true=>⟨s.Pa ++ [parE s.Pa.length],s.Gi ++ [pckE s.Pa.length i]⟩
  | false=>⟨s.Pa ++ [parE s.Pa.length],s.Gi ++ [nmE s.Pa.length]⟩
def stE (pr:List (List Nat)) (neg:List Bool):Nat→StE
 | 0=>⟨[],[]⟩
 | k+1=>stE1 (pr.getD k []) (neg.getD k false) k (stE pr neg k)
def nA (xs:List AArg) (i:Nat):Nat:=if (xs.getD i default).il then (xs.getD i default).l.length else (xs.getD i default).n.natAbs
def negA (xs:List AArg):List Bool:=xs.map fun a=>decide (a.n < 0)
theorem getD_toB (l:List (List Nat)) (k:Nat):(l.map toB).getD k ByteArray.empty=toB (l.getD k []):=by
 rw [List.getD_eq_getElem?_getD,List.getD_eq_getElem?_getD,List.getElem?_map]
 cases l[k]? <;> rfl
theorem negA_get (xs:List AArg) (k:Nat):(negA xs).getD k false=decide ((xs.getD k default).n < 0):=by
 unfold negA
 rw [List.getD_eq_getElem?_getD,List.getD_eq_getElem?_getD,List.getElem?_map]
 cases xs[k]? <;> rfl
theorem okS_get {l:List (List Nat)} (h:∀ s∈l,okS s=true) (k:Nat):okS (l.getD k [])=true:=by
 rw [List.getD_eq_getElem?_getD]
 cases hk:l[k]? with
 | none=>rfl
 | some s=>exact h s (List.mem_of_getElem? hk)
theorem st_rp (add:List ByteArray) (nm0:ByteArray) {pr:List (List Nat)} {xs:List AArg} (ho:∀ s∈pr,okS s=true) (hl:xs.length≤6) (hf:∀ i,i < xs.length→fitsA ((pr.map toB).getD i ByteArray.empty) (xs.getD i default)=true) :
 ∀ k,k≤xs.length→RpL (nA xs) (stK add nm0 (pr.map toB) xs k).Pa (stE pr (negA xs) k).Pa∧RpL (nA xs) (stK add nm0 (pr.map toB) xs k).Gi (stE pr (negA xs) k).Gi
 | 0,_=>⟨rfl,rfl⟩
 | k+1,hk=>by
  obtain ⟨h1,h2⟩:=st_rp add nm0 ho hl hf k (by omega)
  have hfk:=hf k (by omega)
  have hlen:=h1.len
  have hPk:=(stK_len add nm0 (pr.map toB) xs k).2.1
  rw [getD_toB] at hfk
  have hok:=okS_get ho k
  unfold fitsA fitsV at hfk
  rw [int_N hok] at hfk
  show RpL _ (st1 add ((pr.map toB).getD k ByteArray.empty) (xs.getD k default) (stK add nm0 (pr.map toB) xs k)).Pa (stE1 (pr.getD k []) ((negA xs).getD k false) k (stE pr (negA xs) k)).Pa∧RpL _ (st1 add ((pr.map toB).getD k ByteArray.empty) (xs.getD k default) (stK add nm0 (pr.map toB) xs k)).Gi (stE1 (pr.getD k []) ((negA xs).getD k false) k (stE pr (negA xs) k)).Gi
  rw [getD_toB,negA_get]
  unfold st1 stE1
  cases hil:(xs.getD k default).il with
  | false =>
   rw [hil] at hfk
   simp only [Bool.false_eq_true,if_false,Bool.and_eq_true] at hfk
   rw [hfk.1]
   simp only [if_true]
   exact ⟨h1,h2.add (num_rp (by unfold nA; rw [hil]; rfl))⟩
  | true =>
   rw [hil] at hfk
   simp only [if_true,Bool.and_eq_true,Bool.not_eq_true'] at hfk
   rw [hfk.1,arr_N hok]
   simp only [Bool.true_eq_false,if_false]
   cases hA:isArrN (pr.getD k []) with
   | true =>
    simp only [if_true]
    unfold stArr
    rw [hlen]
    exact ⟨h1.add (par_rp (by omega)),h2.add (pck_rp (by omega) (by unfold nA; rw [hil]; rfl))⟩
   | false =>
    simp only [Bool.false_eq_true,if_false]
    unfold stStr
    rw [hlen]
    exact ⟨h1.add (par_rp (by omega)),h2.add (nm_rp (by omega))⟩
def catE (bs:List Bool) (txs:List (List Nat)):Nat→List Nat
 | 0=>[]
 | k+1=>match bs.getD k false with
  | true=>catE bs txs k++(txs.getD k [] ++ [10])
  | false=>catE bs txs k
theorem cat_rp (n:Nat→Nat) (bs:List Bool) {txs:List (List Nat)} (ho:∀ s∈txs,okS s=true):∀ k,Rp n (catT bs (txs.map toB) k) (catE bs txs k)
 | 0=>rfl
 | k+1=>by
  have ih:=cat_rp n bs ho k
  unfold catT catE
  cases bs.getD k false with
  | true =>
   simp only [if_true]
   rw [getD_toB]
   exact ih.app ((Rp.toB (okS_get ho k)).app (Rp.lit [10] rfl rfl))
  | false=>exact ih
def textE (bs:List Bool) (txs res:List (List Nat)) (nm:List Nat) (pr:List (List Nat)) (neg:List Bool):List Nat :=
 catE bs txs txs.length++([100,101,102,32,109,97,105,110,40]++joinE (stE pr neg pr.length).Pa ++ [41,32,45,62,32]++joinE res ++ [32,123,32,103,105,118,101,32]++nm ++ [40]++joinE (stE pr neg pr.length).Gi ++ [41,32,125,10])
theorem text_E {bs:List Bool} {txs res pr:List (List Nat)} {nm:List Nat} {xs:List AArg} (add:List ByteArray) (ht:∀ s∈txs,okS s=true) (hr:∀ s∈res,okS s=true) (hn:okS nm=true) (ho:∀ s∈pr,okS s=true) (hl:xs.length≤6) (he:argErr (pr.map toB) xs=0) :
 textB bs (txs.map toB) (res.map toB) (toB nm) (stK add (toB nm) (pr.map toB) xs xs.length)=Lx.bs (Lx.txB (nA xs) (textE bs txs res nm pr (negA xs))):=by
 obtain ⟨h1,h2,_⟩:=argErr_zero he
 rw [List.length_map] at h1
 obtain ⟨s1,s2⟩:=st_rp add (toB nm) ho hl h2 xs.length (Nat.le_refl _)
 refine Rp.eq ?_
 unfold textB textE mainB
 rw [List.length_map,← h1]
 exact (cat_rp _ bs ht _).app (((((((((Rp.lit [100,101,102,32,109,97,105,110,40] rfl rfl).app (join_rp s1)).app (Rp.lit [41,32,45,62,32] rfl rfl)).app (join_rp (RpL.toB hr))).app (Rp.lit [32,123,32,103,105,118,101,32] rfl rfl)).app (Rp.toB hn)).app (Rp.lit [40] rfl rfl)).app (join_rp s2)).app (Rp.lit [41,32,125,10] rfl rfl))
def negs:List (List Nat)→List (List Bool)
 | []=>[[]]
 | p :: ps=>match isIntN p with
  | true=>(negs ps).map (fun r=>false :: r)++(negs ps).map (fun r=>true :: r)
  | false=>(negs ps).map (fun r=>false :: r)
theorem negs_mem:∀ {pr:List (List Nat)} {xs:List AArg},xs.length=pr.length→(∀ i,i < xs.length→isIntN (pr.getD i [])=false→(xs.getD i default).n=0)→negA xs∈negs pr
 | [],[],_,_=>by simp [negs,negA]
 | [],_ :: _,h,_=>by cases h
 | _ :: _,[],h,_=>by cases h
 | p :: ps,a :: ys,h,hz=>by
  have ih:negA ys∈negs ps:=negs_mem (by simpa using h) fun i hi h2=>hz (i+1) (by simpa using hi) h2
  have h0:=hz 0 (by simp)
  unfold negs
  show decide (a.n < 0) :: negA ys∈_
  cases hp:isIntN p with
  | true =>
   simp only [List.mem_append,List.mem_map]
   cases decide (a.n < 0) with
   | true=>exact .inr ⟨_,ih,rfl⟩
   | false=>exact .inl ⟨_,ih,rfl⟩
  | false =>
   have:a.n=0:=h0 hp
   rw [this]
   exact List.mem_map.2 ⟨_,ih,rfl⟩
theorem neg_in {pr:List (List Nat)} {xs:List AArg} (ho:∀ s∈pr,okS s=true) (he:argErr (pr.map toB) xs=0):negA xs∈negs pr:=by
 obtain ⟨h1,h2,_⟩:=argErr_zero he
 rw [List.length_map] at h1
 refine negs_mem h1 fun i hi hz=>?_
 have:=h2 i hi
 rw [getD_toB] at this
 unfold fitsA fitsV at this
 rw [int_N (okS_get ho i),hz] at this
 cases hil:(xs.getD i default).il with
 | false=>rw [hil] at this; simp at this
 | true=>rw [hil] at this; simpa using this
theorem nA_le {xs:List AArg} (hn:∀ a∈xs,isNum a.n=true) (hL:∀ a∈xs,a.l.length≤60) (i:Nat):nA xs i≤1000000000:=by
 unfold nA
 rw [List.getD_eq_getElem?_getD]
 cases hi:xs[i]? with
 | none=>exact Nat.zero_le _
 | some a =>
  have hm:=List.mem_of_getElem? hi
  have h1:=hn a hm
  have h2:=hL a hm
  unfold isNum at h1
  simp only [Bool.and_eq_true,decide_eq_true_eq] at h1
  simp only [Option.getD_some]
  split <;> omega
end Lb
end
end Go.Proofs
open Go Go.Ev Go.RowKit
namespace Go.Proofs
namespace Lb
set_option maxRecDepth 1000000
theorem toB_of {s:List Nat} (h:okS s=true):bytesOf (toB s)=s:=by
 unfold bytesOf toB
 simp only [List.map_map]
 induction s with
 | nil=>rfl
 | cons x xs ih =>
  unfold okS at h
  simp only [List.all_cons,Bool.and_eq_true] at h
  simp only [List.map_cons]
  rw [ih h.2]
  congr 1
  have hx:x < 256:=by have:=h.1; simpa [Nat.blt_eq] using this
  simp [UInt8.toNat_ofNat',Nat.mod_eq_of_lt hx]
theorem toB_size (s:List Nat):(toB s).size=s.length:=by
 show ((s.map UInt8.ofNat).toArray).size=_
 simp
theorem str_frz {w:World} {s:List Nat} {c:Value} (h:Frz w (.str s) c) (hs:okS s=true):c = .string (toB s):=by
 obtain ⟨sb,rfl,hb⟩:=h.str
 rw [show sb=toB s from bytesOf_inj.1 (by rw [hb,toB_of hs])]
def sB:AV→List Nat | .str s=>s | _=>[]
def lA:AV→List AV | .lst _ l=>l | _=>[]
def isStr:AV→Bool | .str s=>okS s | _=>false
def isBoo:AV→Bool | .bool _=>true | _=>false
def bB:AV→Bool | .bool b=>b | _=>false
def strsB:AV→Bool | .lst _ l=>l.all isStr | _=>false
def boosB:AV→Bool | .lst _ l=>l.all isBoo | _=>false
def strsN (v:AV):List (List Nat):=(lA v).map sB
def strsOf (v:AV):List ByteArray:=(strsN v).map toB
def boosOf (v:AV):List Bool:=(lA v).map bB
theorem frz_nil {w:World} {cap:Option Nat} {c:Value} (h:Frz w (.lst cap []) c):∃ p n,c = .slice p 0 n:=by
 obtain ⟨j,h,_⟩:=h
 generalize hl:([]:List AV)=l at h
 cases h with
 | lstE=>exact ⟨_,_,rfl⟩
 | lst=>subst hl; exact ⟨_,_,rfl⟩
theorem cells_strs:∀ {l:List AV},l.all isStr=true→cellsOf l=l
 | [],_=>rfl
 | x :: xs,h=>by
  simp only [List.all_cons,Bool.and_eq_true] at h
  have h1:x.cells = [x]:=by cases x <;> first | rfl | (exact absurd h.1 (by simp [isStr]))
  show x.cells++cellsOf xs=x :: xs
  rw [h1,cells_strs h.2]; rfl
theorem cells_boos:∀ {l:List AV},l.all isBoo=true→cellsOf l=l
 | [],_=>rfl
 | x :: xs,h=>by
  simp only [List.all_cons,Bool.and_eq_true] at h
  have h1:x.cells = [x]:=by cases x <;> first | rfl | (exact absurd h.1 (by simp [isBoo]))
  show x.cells++cellsOf xs=x :: xs
  rw [h1,cells_boos h.2]; rfl
theorem strs_frz {w:World} {v:AV} {c:Value} (h:Frz w v c) (hs:strsB v=true):∃ p n cc,c = .slice p n cc∧HasS w c (strsOf v)∧(strsOf v).length≤cc:=by
 cases v with
 | lst cap l =>
  have hs:l.all isStr=true:=hs
  cases l with
  | nil =>
   obtain ⟨p,n,rfl⟩:=frz_nil h
   exact ⟨_,_,_,rfl,⟨p,n,rfl,fun h=>absurd rfl h⟩,Nat.zero_le _⟩
  | cons x xs =>
   obtain ⟨b,k,capc,rfl,hc,hv⟩:=h.lst
   refine ⟨_,_,_,rfl,⟨some ⟨b,k,none⟩,capc,?_,fun _=>⟨b,k,rfl,fun i hi=>?_⟩⟩,?_⟩
   · simp [strsOf,strsN,lA]
   · have hi':i < (x :: xs).length:=by simpa [strsOf,strsN,lA] using hi
     have he:(x :: xs)[i]? = some ((x :: xs)[i]):=List.getElem?_eq_getElem hi'
     obtain ⟨cv,h1,h2⟩:=hv i ((x :: xs)[i]) (by rw [cells_strs hs]; exact he)
     have hsi:=List.all_eq_true.1 hs _ (List.getElem_mem hi')
     rw [h1]
     have h3:(strsOf (.lst cap (x :: xs))).getD i ByteArray.empty=toB (sB ((x :: xs)[i])):=by
      rw [List.getD_eq_getElem?_getD]
      show (((x :: xs).map sB).map toB)[i]?.getD _=_
      rw [List.getElem?_map,List.getElem?_map,he]; rfl
     rw [h3]
     generalize (x :: xs)[i]=y at h2 hsi
     cases y with
     | str s=>rw [str_frz h2 hsi]; rfl
     | _=>cases hsi
   · simpa [strsOf,strsN,lA] using hc
 | _=>cases hs
theorem boos_frz {w:World} {v:AV} {c:Value} (h:Frz w v c) (hs:boosB v=true):HasB w c (boosOf v):=by
 cases v with
 | lst cap l =>
  have hs:l.all isBoo=true:=hs
  cases l with
  | nil =>
   obtain ⟨p,n,rfl⟩:=frz_nil h
   exact ⟨p,n,rfl,fun h=>absurd rfl h⟩
  | cons x xs =>
   obtain ⟨b,k,capc,rfl,hc,hv⟩:=h.lst
   refine ⟨some ⟨b,k,none⟩,capc,by simp [boosOf,lA],fun _=>⟨b,k,rfl,fun i hi=>?_⟩⟩
   have hi':i < (x :: xs).length:=by simpa [boosOf,lA] using hi
   have he:(x :: xs)[i]? = some ((x :: xs)[i]):=List.getElem?_eq_getElem hi'
   obtain ⟨cv,h1,h2⟩:=hv i ((x :: xs)[i]) (by rw [cells_boos hs]; exact he)
   have hsi:=List.all_eq_true.1 hs _ (List.getElem_mem hi')
   rw [h1]
   have h3:(boosOf (.lst cap (x :: xs))).getD i false=bB ((x :: xs)[i]):=by
    rw [List.getD_eq_getElem?_getD]
    show ((x :: xs).map bB)[i]?.getD _=_
    rw [List.getElem?_map,he]; rfl
   rw [h3]
   generalize (x :: xs)[i]=y at h2 hsi
   cases y with
   | bool s=>rw [h2.bool]; rfl
   | _=>cases hsi
 | _=>cases hs
def txN (l:List AV) (i:Nat):List Nat:=match (cellsOf l)[i * 5+1]? with | some (.str s)=>s | _=>[]
def txOk (l:List AV) (i:Nat):Bool:=match (cellsOf l)[i * 5+1]? with | some (.str s)=>okS s | _=>false
def libN (v:AV):List (List Nat):=(List.range (lA v).length).map (txN (lA v))
def libT (v:AV):List ByteArray:=(libN v).map toB
def libB:AV→Bool | .lst _ l=>(List.range l.length).all (txOk l) | _=>false
theorem lib_frz {w:World} {v:AV} {c:Value} (h:Frz w v c) (hs:libB v=true):HasT w c (libT v):=by
 cases v with
 | lst cap l =>
  have hs:(List.range l.length).all (txOk l)=true:=hs
  cases l with
  | nil =>
   obtain ⟨p,n,rfl⟩:=frz_nil h
   exact ⟨p,n,rfl,fun h=>absurd rfl h⟩
  | cons x xs =>
   obtain ⟨b,k,capc,rfl,hc,hv⟩:=h.lst
   refine ⟨some ⟨b,k,none⟩,capc,by simp [libT,libN,lA],fun _=>⟨b,k,rfl,fun i hi=>?_⟩⟩
   have hi':i < (x :: xs).length:=by simpa [libT,libN,lA] using hi
   have hsi:=List.all_eq_true.1 hs i (List.mem_range.2 hi')
   have h3:(libT (.lst cap (x :: xs))).getD i ByteArray.empty=toB (txN (x :: xs) i):=by
    rw [List.getD_eq_getElem?_getD]
    show (((List.range (x :: xs).length).map (txN (x :: xs))).map toB)[i]?.getD _=_
    rw [List.getElem?_map,List.getElem?_map,List.getElem?_range hi']; rfl
   rw [h3]
   unfold txOk at hsi
   unfold txN
   split at hsi
   · rename_i s he
     obtain ⟨cv,h1,h2⟩:=hv _ _ he
     rw [Nat.add_assoc,h1,str_frz h2 hsi]
   · cases hsi
 | _=>cases hs
theorem frs_tup {w:World} {vs:List AV} {c:Value} (h:Frs w (.tup vs) c):∃ cs:Array Value,c = .tuple cs∧cs.size=vs.length∧∀ (i:Nat) (v:AV),vs[i]? = some v→∃ cv,cs[i]? = some cv∧Frs w v cv:=by
 obtain ⟨j,h,hf⟩:=h
 cases h with
 | tup _ cs hv =>
  refine ⟨cs,rfl,by have:=hv.length; simpa using this,fun i v hi=>?_⟩
  obtain ⟨cv,h1,h2⟩:=hv.get hi
  exact ⟨cv,by simpa using h1,j,h2,hf⟩
theorem frs_agg {w:World} {vs:List AV} {c:Value} (h:Frs w (.agg vs) c):∃ cs:Array Value,c = .agg cs∧cs.size=vs.length∧∀ (i:Nat) (v:AV),vs[i]? = some v→∃ cv,cs[i]? = some cv∧Frs w v cv:=by
 obtain ⟨j,h,hf⟩:=h
 cases h with
 | agg _ cs hv =>
  refine ⟨cs,rfl,by have:=hv.length; simpa using this,fun i v hi=>?_⟩
  obtain ⟨cv,h1,h2⟩:=hv.get hi
  exact ⟨cv,by simpa using h1,j,h2,hf⟩
theorem arr2 {cs:Array Value} {a b:Value} (hz:cs.size=2) (h0:cs[0]? = some a) (h1:cs[1]? = some b):cs=#[a,b]:=by
 apply Array.ext'
 have hz:cs.toList.length=2:=hz
 rw [←Array.getElem?_toList] at h0 h1
 match hl:cs.toList,hz with
 | [p,q],_=>rw [hl] at h0 h1; cases h0; cases h1; rfl
theorem arr3 {cs:Array Value} {a b c:Value} (hz:cs.size=3) (h0:cs[0]? = some a) (h1:cs[1]? = some b) (h2:cs[2]? = some c):cs=#[a,b,c]:=by
 apply Array.ext'
 have hz:cs.toList.length=3:=hz
 rw [←Array.getElem?_toList] at h0 h1 h2
 match hl:cs.toList,hz with
 | [p,q,r],_=>rw [hl] at h0 h1 h2; cases h0; cases h1; cases h2; rfl
theorem arr5 {cs:Array Value} {a b c d e:Value} (hz:cs.size=5) (h0:cs[0]? = some a) (h1:cs[1]? = some b) (h2:cs[2]? = some c) (h3:cs[3]? = some d) (h4:cs[4]? = some e):cs=#[a,b,c,d,e]:=by
 apply Array.ext'
 have hz:cs.toList.length=5:=hz
 rw [←Array.getElem?_toList] at h0 h1 h2 h3 h4
 match hl:cs.toList,hz with
 | [p,q,r,s,t],_=>rw [hl] at h0 h1 h2 h3 h4; cases h0; cases h1; cases h2; cases h3; cases h4; rfl
theorem def_frs {w:World} {a t:List Nat} {p r q:AV} {c:Value} (h:Frs w (.agg [.str a,.str t,p,r,q]) c) (ha:okS a=true) (ht:okS t=true) (hp:strsB p=true) (hr:strsB r=true) (hq:strsB q=true) :
 ∃ pp pn pc rp rn rc cp cn cc,c = .agg #[.string (toB a),.string (toB t),.slice pp pn pc,.slice rp rn rc,.slice cp cn cc]∧HasS w (.slice pp pn pc) (strsOf p)∧HasS w (.slice rp rn rc) (strsOf r)∧(strsOf r).length≤rc:=by
 obtain ⟨cs,rfl,hz,hc⟩:=frs_agg h
 obtain ⟨c0,e0,f0⟩:=hc 0 _ rfl
 obtain ⟨c1,e1,f1⟩:=hc 1 _ rfl
 obtain ⟨c2,e2,f2⟩:=hc 2 _ rfl
 obtain ⟨c3,e3,f3⟩:=hc 3 _ rfl
 obtain ⟨c4,e4,f4⟩:=hc 4 _ rfl
 have:=str_frz f0.frz ha
 subst this
 have:=str_frz f1.frz ht
 subst this
 obtain ⟨pp,pn,pc,rfl,hs2,_⟩:=strs_frz f2.frz hp
 obtain ⟨rp,rn,rc,rfl,hs3,hl3⟩:=strs_frz f3.frz hr
 obtain ⟨cp,cn,cc,rfl,_,_⟩:=strs_frz f4.frz hq
 exact ⟨_,_,_,_,_,_,_,_,_,by rw [arr5 hz e0 e1 e2 e3 e4],hs2,hs3,hl3⟩
theorem vr_own {w:World} {B:Nat} {r:Value} {l:List ByteArray} (h:w.ownsRow B 9 1 r l.length (l.map Value.string)) (h0:l≠[]):VR (froOf w) (.lst none (l.map fun s=>.str (bytesOf s))) r:=by
 rcases h.2 with ⟨_,hn⟩ | ⟨g,c,cur,rfl,_,hg,hnc,_,_,ht⟩
 · exact absurd (List.length_eq_zero_iff.1 hn) h0
 · refine vr_strs l hg hnc fun i hi=>?_
   rw [Nat.zero_add]
   have h2:(l.map Value.string)[i]? = some (Value.string (l.getD i ByteArray.empty)):=by
    rw [List.getElem?_map,List.getElem?_eq_getElem hi,List.getD_eq_getElem?_getD,List.getElem?_eq_getElem hi]; rfl
   rw [←ht,List.getElem?_take_of_lt (by omega)] at h2
   simpa using h2
end Lb
end Go.Proofs
