/- PROVED HERE: a part (LtG) of the tied card of LibAccepted (floodgatelaw25). CONDITIONS: those of the given row and card alone. -/
import Derived.Test.YtbelbhnfjejnmaaGreatDoorLtA
import Derived.Test.YtbelbhnfjejnmaaGreatDoorLtC
import Derived.Test.YtbelbhnfjejnmaaGreatDoorElx
import Derived.Test.YtbelbhnfjejnmaaGreatDoorLtma
import Derived.Test.YtbelbhnfjejnmaaGreatDoorLtmb
import Derived.Test.YtbelbhnfjejnmaaGreatDoorLtmc
import Derived.Test.YtbelbhnfjejnmaaGreatDoorLtlK
import Derived.Test.YtbelbhnfjejnmaaGreatDoorLtlD0
import Derived.Test.YtbelbhnfjejnmaaGreatDoorLtlD2
import Derived.Test.YtbelbhnfjejnmaaGreatDoorLtlP
import Derived.Test.YtbelbhnfjejnmaaGreatDoorLtlR
import Derived.Test.YtbelbhnfjejnmaaGreatDoorLtlC0
import Derived.Test.YtbelbhnfjejnmaaGreatDoorLtlC2
import Derived.Test.YtbelbhnfjejnmaaGreatDoorLtS
import Derived.Test.YtbelbhnfjejnmaaGreatDoorLtca
import Derived.Test.YtbelbhnfjejnmaaGreatDoorLtcb
import Derived.Test.YtbelbhnfjejnmaaGreatDoorLtcc
import Derived.Test.YtbelbhnfjejnmaaGreatDoorLtcd
import Derived.Test.YtbelbhnfjejnmaaGreatDoorLtce
import Derived.Test.YtbelbhnfjejnmaaGreatDoorLtcf
import Derived.Test.YtbelbhnfjejnmaaGreatDoorLtcg
import Derived.Test.YtbelbhnfjejnmaaGreatDoorLtch
import Derived.Test.YtbelbhnfjejnmaaGreatDoorWa
import Derived.Test.YtbelbhnfjejnmaaGreatDoorEvg
open Go Go.Ev Go.Proofs Go.RowKit Go.Shelf Go.Sort
namespace Go.Ev
set_option maxRecDepth 1000000
theorem eRd:∀ args w,(callFunc 36 args).run PE.toProgram w = .ok (.enter 36 args) w:=enters_of Tryz.func36 (by kernel_rfl) rfl
theorem eAt:∀ args w,(callFunc 369 args).run PE.toProgram w = .ok (.enter 369 args) w:=enters_of Tryz.func369 (by kernel_rfl) rfl
theorem cItoa0 (w:World) (h:Lib.TabIs Tryz.prog w "internal/strconv.uint64pow10" .u64 Lib.pow10Tab):Calls Tryz.prog 78 #[.int .i64 0] w fun e w'=>e = .returned (.string ⟨(Lib.itoa 0).toArray⟩)∧∃ k os,w'=grow (w.drewN k) os :=
 Any.strconv_Itoa Tryz.laysIt 0 (by decide) (by decide) w h
theorem itoa0:bytesOf ⟨(Lib.itoa 0).toArray⟩ = [48]:=by decide +kernel
theorem tab_on:∀ w,PE.inv w→PE.n0≤w.heap.size→∀ w',Below w.heap.size w w'→Lx.Tab w':=fun w h1 h2 w' hB=>PE.stable w w' (fun b hb=>hB.block b (by omega)) h1
theorem ms_of {x:AV} {lo k:Nat} (t:nilL (runL ([]:List Ent)) 211 x (List.range' lo k) = .yes) {n:Nat} (h1:lo≤n) (h2:n < lo+k):KnownV PE 211 [x,.int .i64 (.ofNat n)] .nils :=
 nilL_ok hmP hnameP (orcBoth_ok oR_ok (orcL_ok fun _ h=>by cases h)) t n (List.mem_range'_1.2 ⟨h1,h2⟩)
theorem oA_ok:OrcOk PE oA:=by
 refine orcBoth_ok (orcRep_ok eRep cRep) (orcBoth_ok (orcIt_ok eIt ?_) (orcBoth_ok (orcAt_ok rfl eAt) (orcBoth_ok (orcMs_ok fun n h1 h2=>?_) (orcMs_ok fun n h1 h2=>?_))))
 · intro n s h w hi _
   have h:(n,s)=(.ofNat 0,[48]):=by simpa using h
   cases h
   refine ⟨⟨(Lib.itoa 0).toArray⟩,itoa0,(cItoa0 w hi).mono ?_⟩
   rintro e w' ⟨rfl,k,os,rfl⟩
   exact ⟨rfl,grow_below w k os⟩
 · rcases Nat.lt_or_ge n 26 with h | h
   · exact ms_of t_m0 h1 (by omega)
   · rcases Nat.lt_or_ge n 51 with h3 | h3
     · exact ms_of t_m1 h (by omega)
     · rcases Nat.lt_or_ge n 76 with h4 | h4
       · exact ms_of t_m2 h3 (by omega)
       · exact ms_of t_m3 h4 (by omega)
 · rcases Nat.lt_or_ge n 27 with h | h
   · exact ms_of t_m4 h1 (by omega)
   · rcases Nat.lt_or_ge n 51 with h3 | h3
     · exact ms_of t_m5 h (by omega)
     · rcases Nat.lt_or_ge n 76 with h4 | h4
       · exact ms_of t_m6 h3 (by omega)
       · exact ms_of t_m7 h4 (by omega)
theorem case_of {Ls:List (List Nat)} (t:chA Ls = .yes):∀ L∈Ls,CaseOk PE FN L:=chains_ok hmP hnameP oA_ok (fun _ _ h=>read_known rfl eRd tab_on h) t
end Go.Ev
open Go Go.Ev Go.Proofs
namespace Go.Ev
theorem memApp {a b:List Ent} (ha:∀ e∈a,KnownV PE e.1 e.2.1 e.2.2) (hb:∀ e∈b,KnownV PE e.1 e.2.1 e.2.2):∀ e∈a++b,KnownV PE e.1 e.2.1 e.2.2:=fun e h=>(List.mem_append.1 h).elim (ha e) (hb e)
theorem kOf {d l:List Ent} (hd:∀ e∈d,KnownV PE e.1 e.2.1 e.2.2) (t:byValL (runL d) l = .yes):∀ e∈l,KnownV PE e.1 e.2.1 e.2.2:=knownVs hmP hnameP (orcBoth_ok oR_ok (orcL_ok hd)) t
theorem k_lK:∀ e∈lK,KnownV PE e.1 e.2.1 e.2.2:=kOf (fun _ h=>by cases h) t_lK
theorem k_lD0:∀ e∈lD0,KnownV PE e.1 e.2.1 e.2.2:=kOf k_lK t_lD0
theorem k_lD1:∀ e∈lD1,KnownV PE e.1 e.2.1 e.2.2:=kOf k_lK t_lD1
theorem k_lD2:∀ e∈lD2,KnownV PE e.1 e.2.1 e.2.2:=kOf k_lK t_lD2
theorem k_lD3:∀ e∈lD3,KnownV PE e.1 e.2.1 e.2.2:=kOf k_lK t_lD3
theorem k_lD4:∀ e∈lD4,KnownV PE e.1 e.2.1 e.2.2:=kOf k_lK t_lD4
theorem k_lO:∀ e∈lO,KnownV PE e.1 e.2.1 e.2.2:=kOf (memApp (memApp (memApp (memApp k_lD0 k_lD1) k_lD2) k_lD3) k_lD4) t_lO
theorem k_lP:∀ e∈lP,KnownV PE e.1 e.2.1 e.2.2:=kOf k_lK t_lP
theorem k_lR:∀ e∈lR,KnownV PE e.1 e.2.1 e.2.2:=kOf (fun _ h=>by cases h) t_lR
theorem k_lI:∀ e∈lI,KnownV PE e.1 e.2.1 e.2.2:=kOf k_lR t_lI
theorem k_lL:∀ e∈lL,KnownV PE e.1 e.2.1 e.2.2:=kOf (memApp k_lR k_lI) t_lL
theorem k_lC0:∀ e∈lC0,KnownV PE e.1 e.2.1 e.2.2:=kOf (fun _ h=>by cases h) t_lC0
theorem k_lC1:∀ e∈lC1,KnownV PE e.1 e.2.1 e.2.2:=kOf (fun _ h=>by cases h) t_lC1
theorem k_lC2:∀ e∈lC2,KnownV PE e.1 e.2.1 e.2.2:=kOf (fun _ h=>by cases h) t_lC2
theorem k_lA:∀ e∈lA,KnownV PE e.1 e.2.1 e.2.2:=kOf (memApp (memApp (memApp (memApp (memApp k_lO k_lP) k_lL) k_lC0) k_lC1) k_lC2) t_lA
theorem k_lF:∀ e∈lF,KnownV PE e.1 e.2.1 e.2.2:=kOf k_lO t_lF
theorem k_lU:∀ e∈lU,KnownV PE e.1 e.2.1 e.2.2:=kOf (fun _ h=>by cases h) t_lU
end Go.Ev
open Go Go.Ev Go.RowKit
namespace Go.Proofs
namespace Lb
set_option maxRecDepth 1000000
theorem all22 {f:Nat→Bool} (h:((List.range 22).all f)=true) {i:Nat} (hi:i < 22):f i=true:=List.all_eq_true.1 h i (List.mem_range.2 hi)
theorem natB {x y:Nat} (h:Nat.beq x y=true):x=y:=Nat.eq_of_beq_eq_true h
theorem mem_get {l:List Ent} {i:Nat} (h:i < l.length):l.getD i dE∈l:=by
 rw [List.getD_eq_getElem?_getD,List.getElem?_eq_getElem h]; exact List.getElem_mem _
theorem toB_nm {i:Nat} (h:okS (nmN i)=true):toB (nmN i)=nm i:=bytesOf_inj.1 (toB_of h)
theorem size_all {l:List (List Nat)} {M:Nat} (h:(l.all fun s=>Nat.ble s.length M)=true):∀ i,((l.map toB).getD i ByteArray.empty).size≤M:=by
 intro i
 by_cases hi:i < l.length
 · rw [getD_toB,toB_size,List.getD_eq_getElem?_getD,List.getElem?_eq_getElem hi]
   exact Nat.le_of_ble_eq_true (List.all_eq_true.1 h _ (List.getElem_mem _))
 · rw [List.getD_eq_getElem?_getD,List.getElem?_eq_none (by simpa using Nat.le_of_not_lt hi)]
   exact Nat.zero_le _
theorem knownF {i:Nat} (hi:i < 22):KnownV PE 33 [.str (bytesOf (nm i))] (.tup [libV i,.agg [.str (nmN i),.str (txF i),prA i,reA i,fA 4 (dfF i)],.int .i64 0])∧okS (nmN i)=true∧okS (txF i)=true∧strsB (prA i)=true∧strsB (reA i)=true∧strsB (fA 4 (dfF i))=true∧libB (libV i)=true∧iceB 12 (libV i)=true:=by
 have h:=all22 chkF_all hi
 unfold chkF at h
 simp only [Bool.and_eq_true] at h
 obtain ⟨⟨⟨⟨⟨⟨⟨⟨⟨h1,h2⟩,h3⟩,h4⟩,h5⟩,h6⟩,h7⟩,h8⟩,h9⟩,h10⟩:=h
 have hk:=k_lF (eF i) (mem_get (by rw [lens.1]; exact hi))
 rw [natB h1,listB_eq (fun _ _ h=>avSame_eq h) h2,avSame_eq h3] at hk
 exact ⟨hk,h4,h5,h6,h7,h8,h9,h10⟩
theorem knownU {i:Nat} (hi:i < 22):KnownV PE 80 [libV i,strA (rootU i)] (eU i).2.2∧boosB (eU i).2.2=true:=by
 have h:=all22 chkU_all hi
 unfold chkU at h
 simp only [Bool.and_eq_true] at h
 obtain ⟨⟨h1,h2⟩,h3⟩:=h
 have hk:=k_lU (eU i) (mem_get (by rw [lens.2]; exact hi))
 rw [natB h1,listB_eq (fun _ _ h=>avSame_eq h) h2] at hk
 exact ⟨hk,h3⟩
theorem kn_of {i:Nat} (hi:i < 22) (B0:World):Kn (fun w=>(PE.inv w∧PE.n0≤w.heap.size)∧Below B0.heap.size B0 w) (fun w lv=>Frs w (libV i) lv) (nm i) (toB (txF i)) (prs i) (res i) (bs i) (libT (libV i)):=by
 obtain ⟨kF,f1,f2,f3,f4,f5,f6,f7⟩:=knownF hi
 obtain ⟨kU,u1⟩:=knownU hi
 have hS:=all22 chkS_all hi
 unfold chkS at hS
 simp only [Bool.and_eq_true] at hS
 obtain ⟨⟨⟨⟨⟨⟨s1,s2⟩,s3⟩,s4⟩,s5⟩,s6⟩,s7⟩:=hS
 have hnm:=toB_nm f1
 have hmono:∀ w w',((PE.inv w∧PE.n0≤w.heap.size)∧Below B0.heap.size B0 w)→Below w.heap.size w w'→((PE.inv w'∧PE.n0≤w'.heap.size)∧Below B0.heap.size B0 w') :=
  fun w w' ⟨⟨h1,h2⟩,h3⟩ hB=>⟨⟨PE.stable w w' (fun b hb=>hB.block b (by omega)) h1,Nat.le_trans h2 hB.size⟩,h3.trans (hB.mono h3.size)⟩
 exact {
  imono:=hmono
  tab:=fun w h=>h.1.1
  lbm:=fun w w' lv h hB=>h.below hB
  lbt:=fun w lv h=>lib_frz h.frz f6
  find:=fun w ⟨⟨h1,h2⟩,h3⟩=>by
   refine (calls_of_known2 kF (vs:=#[.string (nm i)]) (.cons _ _ _ _ (.str (nm i)) .nil) h1 h2).2.mono ?_
   rintro e w' ⟨cv,rfl,hf,hB,_⟩
   obtain ⟨cs,rfl,hz,hc⟩:=frs_tup hf
   obtain ⟨c0,e0,x0⟩:=hc 0 _ rfl
   obtain ⟨c1,e1,x1⟩:=hc 1 _ rfl
   obtain ⟨c2,e2,x2⟩:=hc 2 _ rfl
   obtain ⟨pp,pn,pc,rp,rn,rc,cp,cn,cc,rfl,hp,hr,hrc⟩:=def_frs x1 f1 f2 f3 f4 f5
   have:=x2.frz.int
   subst this
   rw [hnm] at e1
   exact ⟨c0,pp,pn,pc,rp,rn,rc,cp,cn,cc,by rw [arr3 hz e0 e1 e2],x0,hp,hr,hrc,hB⟩
  needs:=fun w lv r B ⟨⟨h1,h2⟩,h3⟩ hlb ho=>by
   refine (calls_of_known2 kU (vs:=#[lv,r]) (.cons _ _ _ _ (hlb.vr (ice_of _ _ f7)) (.cons _ _ _ _ (vr_own (l:=rootU i) ho (List.cons_ne_nil _ _)) .nil)) h1 h2).2.mono ?_
   rintro e w' ⟨cv,rfl,hf,hB,_⟩
   exact ⟨cv,rfl,boos_frz hf.frz u1,hB⟩
  nmS:=by
   have:(nm i).size=(nmN i).length:=by rw [←hnm,toB_size]
   rw [this]; exact Nat.le_of_ble_eq_true s1
  prL:=by
   show ((strsN (prA i)).map toB).length≤6
   rw [List.length_map]; exact Nat.le_of_ble_eq_true s2
  resS:=fun x hx=>by
   have hx:x∈(strsN (reA i)).map toB:=hx
   obtain ⟨s,hs,rfl⟩:=List.mem_map.1 hx
   rw [toB_size]
   exact Nat.le_of_ble_eq_true (List.all_eq_true.1 s3 s hs)
  resL:=by
   show ((strsN (reA i)).map toB).length≤100
   rw [List.length_map]; exact Nat.le_of_ble_eq_true s4
  txsL:=by
   show ((libN (libV i)).map toB).length≤100
   rw [List.length_map]; exact Nat.le_of_ble_eq_true s5
  txsS:=size_all s6
  bsL:=by
   show _=((libN (libV i)).map toB).length
   rw [List.length_map]; exact natB s7 }
end Lb
end Go.Proofs
open Go Go.Ev Go.RowKit
namespace Go.Proofs
namespace Lb
set_option maxRecDepth 1000000
theorem grp_of {g:List (Nat × Nat)} (t:chA (g.map lsP) = .yes):∀ p∈g,CaseOk PE FN (lsP p):=fun p hp=>case_of t _ (List.mem_map.2 ⟨p,hp,rfl⟩)
theorem grp_app {a b:List (Nat × Nat)} (ha:∀ p∈a,CaseOk PE FN (lsP p)) (hb:∀ p∈b,CaseOk PE FN (lsP p)):∀ p∈a++b,CaseOk PE FN (lsP p):=fun p h=>(List.mem_append.1 h).elim (ha p) (hb p)
theorem grp_all:∀ p∈allG,CaseOk PE FN (lsP p):=(grp_app (grp_of t_c0) (grp_app (grp_of t_c1) (grp_app (grp_of t_c2) (grp_app (grp_of t_c3) (grp_app (grp_of t_c4) (grp_app (grp_of t_c5) (grp_app (grp_of t_c6) (grp_app (grp_of t_c7) (grp_app (grp_of t_c8) (grp_app (grp_of t_c9) (grp_app (grp_of t_c10) (grp_app (grp_of t_c11) (grp_app (grp_of t_c12) (grp_app (grp_of t_c13) (grp_app (grp_of t_c14) (grp_app (grp_of t_c15) (grp_app (grp_of t_c16) (grp_app (grp_of t_c17) (grp_of t_c18)))))))))))))))))))
theorem all_cases {i:Nat} (hi:i < 22):∀ L∈lsE i,CaseOk PE FN L:=by
 intro L hL
 obtain ⟨j,hj,rfl⟩:=List.getElem_of_mem hL
 have h:=List.all_eq_true.1 (List.all_eq_true.1 cov i (List.mem_range.2 hi)) j (List.mem_range.2 hj)
 obtain ⟨p,hp,hq⟩:=List.any_eq_true.1 h
 rw [Bool.and_eq_true] at hq
 have:=grp_all p hp
 have e:lsP p=(lsE i)[j]:=by
  unfold lsP
  rw [Nat.eq_of_beq_eq_true hq.1,Nat.eq_of_beq_eq_true hq.2,List.getD_eq_getElem?_getD,List.getElem?_eq_getElem hj]; rfl
 rw [←e]; exact this
end Lb
end Go.Proofs
namespace Go.Proofs
open Go.RowKit Go.Ev
namespace Lb
theorem hasD_of {w:World} {cap:Option Nat} {x:AV} {xs:List AV} {c:Value} {n:Nat} {nm:Nat→ByteArray} (h:Frz w (.lst cap (x :: xs)) c) (hn:xs.length+1=n)
 (h0:∀ i,i < n→(cellsOf (x :: xs))[i * 5]? = some (.str (bytesOf (nm i)))) (h1:∀ i,i < n→∀ j,j < 5→((cellsOf (x :: xs))[i * 5+j]?).isSome=true) :
 ∃ b k capc tx pa re ca,c = .slice (some ⟨b,k,none⟩) n capc∧HasD w b k n nm tx pa re ca:=by
 obtain ⟨b,k,capc,rfl,hc,hv⟩:=h.lst
 rw [hn]
 have hx:∀ i,i < n→∀ j,j < 5→w.cell? ⟨b,k+i * 5+j,none⟩=some ((w.cell? ⟨b,k+i * 5+j,none⟩).getD undef):=by
  intro i hi j hj
  obtain ⟨v,hv2⟩:=Option.isSome_iff_exists.1 (h1 i hi j hj)
  obtain ⟨cv,h3,_⟩:=hv _ _ hv2
  rw [show k+i * 5+j=k+(i * 5+j) by omega,h3]
  rfl
 refine ⟨b,k,capc,fun i=>(w.cell? ⟨b,k+i * 5+1,none⟩).getD undef,fun i=>(w.cell? ⟨b,k+i * 5+2,none⟩).getD undef,fun i=>(w.cell? ⟨b,k+i * 5+3,none⟩).getD undef,fun i=>(w.cell? ⟨b,k+i * 5+4,none⟩).getD undef,rfl,⟨fun i hi=>?_,fun i hi=>hx i hi 1 (by omega),fun i hi=>hx i hi 2 (by omega),fun i hi=>hx i hi 3 (by omega),fun i hi=>hx i hi 4 (by omega)⟩⟩
 obtain ⟨cv,h3,h4⟩:=hv _ _ (h0 i hi)
 obtain ⟨sb,rfl,hs⟩:=h4.str
 rw [h3]
 rw [bytesOf_inj.1 hs]
def okD (l:List AV):Bool:=(List.range 22).all fun i=>(match (cellsOf l)[i * 5]? with | some (.str s)=>decide (s=bytesOf (Lb.nm i)) | _=>false) && (List.range 5).all fun j=>((cellsOf l)[i * 5+j]?).isSome
theorem okD_0 {l:List AV} (h:okD l=true):∀ i,i < 22→(cellsOf l)[i * 5]? = some (.str (bytesOf (Lb.nm i))):=by
 intro i hi
 have:=List.all_eq_true.1 h i (List.mem_range.2 hi)
 rw [Bool.and_eq_true] at this
 have h1:=this.1
 split at h1
 · rename_i s hs
   rw [hs,of_decide_eq_true h1]
 · cases h1
theorem okD_1 {l:List AV} (h:okD l=true):∀ i,i < 22→∀ j,j < 5→((cellsOf l)[i * 5+j]?).isSome=true:=by
 intro i hi j hj
 have:=List.all_eq_true.1 h i (List.mem_range.2 hi)
 rw [Bool.and_eq_true] at this
 exact List.all_eq_true.1 this.2 j (List.mem_range.2 hj)
theorem vrs_nil {j:Inj}:VRs j [] (#[]:Array Value).toList:=.nil
variable {P:Env}
theorem ctx_of (hP:P.toProgram=Tryz.prog) {capO:Option Nat} {x:AV} {xs:List AV}
 (kO:KnownV P 69 [] (.tup [.lst capO (x :: xs),.int .i64 0])) (kA:KnownV P 5 [] (.bool true))
 (lO:xs.length+1=22) (oO:okD (x :: xs)=true)
 (B0:World):Ctx fun w=>(P.inv w∧P.n0≤w.heap.size)∧Below B0.heap.size B0 w:={
 mono:=fun w w' ⟨⟨h1,h2⟩,h3⟩ hB=>⟨⟨P.stable w w' (fun b hb=>hB.block b (by omega)) h1,Nat.le_trans h2 hB.size⟩,h3.trans (hB.mono h3.size)⟩,
 opn:=fun w ⟨⟨h1,h2⟩,h3⟩=>by
  rw [←hP]
  refine (calls_of_known kO vrs_nil h1 h2).2.mono ?_
  rintro e w' ⟨cv,rfl,hf,hB,hI⟩
  obtain ⟨cs,rfl,hz,hc⟩:=hf.tup
  obtain ⟨c0,e0,f0⟩:=hc 0 _ rfl
  obtain ⟨c1,e1,f1⟩:=hc 1 _ rfl
  obtain ⟨b,k,capc,tx,pa,re,ca,rfl,hd⟩:=hasD_of f0 lO (okD_0 oO) (okD_1 oO)
  have:=f1.int
  subst this
  have hcs:cs=#[.slice (some ⟨b,k,none⟩) 22 capc,.int .i64 0]:=by
   apply Array.ext'
   have hz:cs.toList.length=2:=hz
   rw [←Array.getElem?_toList] at e0 e1
   match hl:cs.toList,hz with
   | [p,q],_ =>
    rw [hl] at e0 e1
    cases e0; cases e1; rfl
  exact ⟨b,k,capc,tx,pa,re,ca,by rw [hcs],hd,hB,⟨hI,Nat.le_trans h2 hB.size⟩,h3.trans (hB.mono h3.size)⟩,
 awk:=fun w ⟨⟨h1,h2⟩,h3⟩=>by
  rw [←hP]
  refine (calls_of_known kA vrs_nil h1 h2).2.mono ?_
  rintro e w' ⟨cv,rfl,hf,hB,hI⟩
  rw [hf.bool]
  exact ⟨rfl,⟨hI,Nat.le_trans h2 hB.size⟩,h3.trans (hB.mono h3.size)⟩ }
end Lb
end Go.Proofs
open Go Go.Ev Go.RowKit
namespace Go.Proofs
namespace Lb
set_option maxRecDepth 1000000
theorem eq_toList {a b:ByteArray} (h:(a.toList==b.toList)=true):a=b:=by
 have h:a.toList=b.toList:=by simpa using h
 rw [ByteArray.toList_eq,ByteArray.toList_eq] at h
 cases a; cases b; exact congrArg _ (Array.ext' h)
theorem ctx_all (B0:World):Ctx fun w=>(PE.inv w∧PE.n0≤w.heap.size)∧Below B0.heap.size B0 w :=
 ctx_of rfl (k_lO _ List.mem_cons_self) (k_lA _ List.mem_cons_self) rfl (by decide +kernel) B0
theorem agg2_frs {s:Sy} {w:World} {u v:AV} {c:Value} (h:FrsS s w (.agg [u,v]) c) (hu:isSl u=true) (hv:isSl v=true):∃ p1 n1 c1 p2 n2 c2,c = .agg #[.slice p1 n1 c1,.slice p2 n2 c2]:=by
 obtain ⟨j,_,h,_⟩:=h
 cases h with
 | agg _ cs h =>
  obtain ⟨cs⟩:=cs
  cases h with
  | cons _ _ a _ ha h2 =>
   cases h2 with
   | cons _ _ b _ hb h3 =>
    cases h3
    obtain ⟨p1,n1,k1,rfl⟩:=isSl_ok ha hu
    obtain ⟨p2,n2,k2,rfl⟩:=isSl_ok hb hv
    exact ⟨_,_,_,_,_,_,rfl⟩
theorem acc_of {T:ByteArray} {n:Nat→Nat} (hn:∀ i,n i≤1000000000) {L:List Nat} (hT:T=Lx.bs (Lx.txB n L)) (h:CaseOk PE FN L) (B0:World) :
 ∃ P1 P2,Acc (fun w=>(PE.inv w∧PE.n0≤w.heap.size)∧Below B0.heap.size B0 w) P1 P2 T:=by
 obtain ⟨Tr,x,B,y,z,k1,p1,s1,k2,p2,k3⟩:=h
 obtain ⟨sy,hsy⟩:∃ sy:Sy,sy.n=n:=⟨⟨n,hn⟩,rfl⟩
 have e:T=sy.t L:=by
  rw [hT,← hsy,← txB_same]; rfl
 refine ⟨fun w v=>FrsS sy w Tr v,fun w v=>FrsS sy w B v,⟨?_,fun w w' a h hB=>h.below hB,?_,?_⟩⟩
 · rintro w ⟨⟨h1,h2⟩,_⟩
   have hv:VRs (froS sy w) [.tx L] (#[.string T]:Array Value).toList:=by
    rw [e]; exact .cons _ _ _ _ (.tx L) .nil
   refine (calls_of_sym sy k1 (vs:=#[.string T]) hv h1 h2).2.mono ?_
   rintro e w' ⟨cv,rfl,hf,hB,_⟩
   obtain ⟨cs,rfl,hz,hc⟩:=hf.tup
   obtain ⟨c0,e0,x0⟩:=hc 0 _ rfl
   obtain ⟨c1,e1,x1⟩:=hc 1 _ rfl
   obtain ⟨c2,e2,x2⟩:=hc 2 _ rfl
   have:=x2.int
   subst this
   obtain ⟨u,v,hTr,u1,v1⟩:=shpT_ok s1
   have hx:=x0
   rw [hTr] at hx
   obtain ⟨q1,m1,r1,q2,m2,r2,rfl⟩:=agg2_frs hx u1 v1
   exact ⟨_,_,_,_,_,_,c1,by rw [arr3 hz e0 e1 e2],x0,hB⟩
 · rintro w a ⟨⟨h1,h2⟩,_⟩ ha
   refine (calls_of_sym sy k2 (vs:=#[a]) (.cons _ _ _ _ (FrsS.vr ha p1) .nil) h1 h2).2.mono ?_
   rintro e w' ⟨cv,rfl,hf,hB,_⟩
   obtain ⟨cs,rfl,hz,hc⟩:=hf.tup
   obtain ⟨c0,e0,x0⟩:=hc 0 _ rfl
   obtain ⟨c1,e1,x1⟩:=hc 1 _ rfl
   obtain ⟨c2,e2,x2⟩:=hc 2 _ rfl
   have:=x2.int
   subst this
   exact ⟨c0,c1,by rw [arr3 hz e0 e1 e2],x0,hB⟩
 · rintro w a ⟨⟨h1,h2⟩,_⟩ ha
   refine (calls_of_sym sy k3 (vs:=#[a]) (.cons _ _ _ _ (FrsS.vr ha p2) .nil) h1 h2).2.mono ?_
   rintro e w' ⟨cv,rfl,hf,hB,_⟩
   obtain ⟨cs,rfl,hz,hc⟩:=hf.tup
   obtain ⟨c0,e0,x0⟩:=hc 0 _ rfl
   obtain ⟨c1,e1,x1⟩:=hc 1 _ rfl
   have:=x1.int
   subst this
   exact ⟨c0,by rw [arr2 hz e0 e1],hB⟩
theorem ok_strs {v:AV} (h:strsB v=true):∀ s∈strsN v,okS s=true:=by
 cases v with
 | lst cap l =>
  intro s hs
  obtain ⟨x,hx,rfl⟩:=List.mem_map.1 (show s∈l.map sB from hs)
  have:=List.all_eq_true.1 (show l.all isStr=true from h) x hx
  cases x with
  | str s=>exact this
  | _=>cases this
 | _=>cases h
theorem ok_libN {v:AV} (h:libB v=true):∀ s∈libN v,okS s=true:=by
 cases v with
 | lst cap l =>
  intro s hs
  obtain ⟨i,hi,rfl⟩:=List.mem_map.1 (show s∈(List.range l.length).map (txN l) from hs)
  have:=List.all_eq_true.1 (show (List.range l.length).all (txOk l)=true from h) i hi
  unfold txOk at this
  unfold txN
  split at this
  · exact this
  · cases this
 | _=>cases h
theorem accepted_final (s:ByteArray) (v:Value) (xs:List AArg) {w:World} (hA:HasA w v xs) (hl:xs.length≤9223372036854775807) (hs:s.size≤9223372036854775807) (hi:Lib.TabIs Tryz.prog w "internal/strconv.uint64pow10" .u64 Lib.pow10Tab) :
 Calls Tryz.prog 3 #[.agg #[.string s,v]] w fun e w'=>e = .returned (.bool true)∧Below w.heap.size w w':=by
 have hn:PE.n0≤w.heap.size:=tab_size hg hi
 have hI:(PE.inv w∧PE.n0≤w.heap.size)∧Below w.heap.size w w:=⟨⟨hi,hn⟩,Below.refl _ _⟩
 by_cases hb:100 < s.size∨thinV xs=false
 · exact (libA_long (ctx_all w) hI hA hl hs hb).mono fun e w' h=>⟨h.1,h.2.2⟩
 · have h1:s.size≤100:=Nat.le_of_not_lt fun h=>hb (.inl h)
   have h2:thinV xs=true:=by cases h:thinV xs with | true=>rfl | false=>exact absurd (.inr h) hb
   obtain ⟨h6,hL⟩:=thin_len h2
   by_cases hu:Unk s
   · refine (libA_err (er:=10) (ctx_all w) hI hA h1 h2 (by decide) fun w1 v1 hI1 hA1=>?_).mono fun e w' h=>⟨h.1,h.2.2⟩
     refine (prog_c (er:=10) (TX:=⟨#[]⟩) (L:=[]) fun w2 hB2=>(call_none (ctx_all w) ((ctx_all w).mono _ _ hI1 hB2) hu).mono fun e w' ⟨he,hb⟩=>⟨_,_,_,he,hb,.inl ⟨by decide,rfl,rfl,rfl⟩⟩).mono ?_
     rintro e w' ⟨Lv,Cv,T,rfl,hB,hF⟩
     obtain ⟨⟨p,n,c,rfl⟩,⟨q,m,d,rfl⟩⟩:=hF.form
     exact ⟨_,_,_,_,_,_,_,rfl,hB⟩
   · unfold Unk at hu
     simp only [Classical.not_forall] at hu
     obtain ⟨i,hi2,h⟩:=hu
     have hs:nm i=s:=eq_toList (by simpa using h)
     subst hs
     have hK:=kn_of hi2 w
     obtain ⟨_,f1,_,f3,f4,_,f6,_⟩:=knownF hi2
     have hprog:∀ (w1:World) (v1:Value),((PE.inv w1∧PE.n0≤w1.heap.size)∧Below w.heap.size w w1)→HasA w1 v1 xs→Calls Tryz.prog 6 #[.string (nm i),v1] w1 fun e w'=>∃ p1 n1 c1 p2 n2 c2 T,e = .returned (.tuple #[.string T,.agg #[.slice p1 n1 c1,.slice p2 n2 c2],.int .i64 (argErr (prs i) xs)])∧Below w1.heap.size w1 w' ∧
      (argErr (prs i) xs=0→T=textB (bs i) (libT (libV i)) (res i) (nm i) (stK [nthB,packB] (nm i) (prs i) xs xs.length)):=by
      intro w1 v1 hI1 hA1
      refine (prog_c (er:=argErr (prs i) xs) (TX:=textB (bs i) (libT (libV i)) (res i) (nm i) (stK [nthB,packB] (nm i) (prs i) xs xs.length)) (L:=(stK [nthB,packB] (nm i) (prs i) xs xs.length).L) fun w2 hB2=>(call_known hK (hK.imono _ _ hI1 hB2) (hA1.below hB2) h6 hL).mono ?_).mono ?_
      · rintro e w' ⟨Lv,Cv,T,rfl,hB,hc⟩
        exact ⟨Lv,Cv,T,rfl,hB,hc.imp id fun ⟨a,b,B,c,d⟩=>⟨a,b,B,Nat.le_trans hB2.size c,d⟩⟩
      · rintro e w' ⟨Lv,Cv,T,rfl,hB,hF⟩
        obtain ⟨⟨p,n,c,rfl⟩,⟨q,m,d,rfl⟩⟩:=hF.form
        refine ⟨_,_,_,_,_,_,T,rfl,hB,fun h0=>?_⟩
        rcases hF with ⟨h3,_⟩ | ⟨_,h3,_⟩
        · exact absurd h0 h3
        · exact h3
     by_cases he:argErr (prs i) xs=0
     · obtain ⟨_,_,hN⟩:=argErr_zero he
       have hT:=text_E (bs:=bs i) [nthB,packB] (ok_libN f6) (ok_strs f4) f1 (ok_strs f3) h6 he
       rw [toB_nm f1] at hT
       obtain ⟨P1,P2,hAcc⟩:=acc_of (nA_le hN hL) hT (all_cases hi2 _ (List.mem_map.2 ⟨_,neg_in (ok_strs f3) he,rfl⟩)) w
       refine (libA_ok (ctx_all w) hI hA h1 h2 hAcc fun w1 v1 hI1 hA1=>(hprog w1 v1 hI1 hA1).mono ?_).mono fun e w' h=>⟨h.1,h.2.2⟩
       rintro e w' ⟨p1,n1,c1,p2,n2,c2,T,rfl,hB,hTe⟩
       have:=hTe he
       subst this
       rw [he]
       exact ⟨_,_,_,_,_,_,rfl,hB⟩
     · refine (libA_err (ctx_all w) hI hA h1 h2 he fun w1 v1 hI1 hA1=>(hprog w1 v1 hI1 hA1).mono ?_).mono fun e w' h=>⟨h.1,h.2.2⟩
       rintro e w' ⟨p1,n1,c1,p2,n2,c2,T,rfl,hB,_⟩
       exact ⟨_,_,_,_,_,_,_,rfl,hB⟩
end Lb
end Go.Proofs
