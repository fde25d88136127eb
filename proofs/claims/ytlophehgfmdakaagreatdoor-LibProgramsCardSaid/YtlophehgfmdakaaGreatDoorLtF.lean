/- PROVED HERE: a part (LtF) of the tied card of LibPrograms (floodgatelaw25): the call returns true and its argument reads as before. CONDITIONS: those of the given row and card alone. -/
import Derived.Test.YtlophehgfmdakaaGreatDoorWk
import Derived.Test.YtlophehgfmdakaaGreatDoorEvg
import Derived.Test.YtlophehgfmdakaaGreatDoorLtC
import Derived.Test.YtlophehgfmdakaaGreatDoorLtlK
import Derived.Test.YtlophehgfmdakaaGreatDoorLtlD0
import Derived.Test.YtlophehgfmdakaaGreatDoorLtlD1
import Derived.Test.YtlophehgfmdakaaGreatDoorLtlD2
import Derived.Test.YtlophehgfmdakaaGreatDoorLtlD3
import Derived.Test.YtlophehgfmdakaaGreatDoorLtlD4
import Derived.Test.YtlophehgfmdakaaGreatDoorLtlO
import Derived.Test.YtlophehgfmdakaaGreatDoorLtlP
import Derived.Test.YtlophehgfmdakaaGreatDoorLtlR
import Derived.Test.YtlophehgfmdakaaGreatDoorLtlI
import Derived.Test.YtlophehgfmdakaaGreatDoorLtlL
import Derived.Test.YtlophehgfmdakaaGreatDoorLtlC0
import Derived.Test.YtlophehgfmdakaaGreatDoorLtlC1
import Derived.Test.YtlophehgfmdakaaGreatDoorLtlC2
import Derived.Test.YtlophehgfmdakaaGreatDoorLtlA
import Derived.Test.YtlophehgfmdakaaGreatDoorLtl
import Derived.Test.YtlophehgfmdakaaGreatDoorWl
import Derived.KernelRfl
namespace Go.Proofs
open Go.RowKit Go.Ev
namespace Lb
theorem hasD_of {w:World} {cap:Option Nat} {x:AV} {xs:List AV} {c:Value} {n:Nat} {nm:Nat→ByteArray} (h:Frz w (.lst cap (x :: xs)) c) (hn:xs.length+1=n)
 (h0:∀ i,i < n→(cellsOf (x :: xs))[i * 5]? = some (.str (bytesOf (nm i)))) (h1:∀ i,i < n→∀ j,j < 5→((cellsOf (x :: xs))[i * 5+j]?).isSome=true) :
 ∃ b k capc tx pa re ca,c = .slice (some ⟨b,k,none⟩) n capc∧HasD w b k n nm tx pa re ca:=by
 obtain ⟨b,k,capc,rfl,hc,hv⟩:=h.lst
 rw [hn]
 have hx:∀ i,i < n→∀ j,j < 5→w.cell? ⟨b,k+i * 5+j,none⟩=some ((w.cell? ⟨b,k+i * 5+j,none⟩).getD undef):=by
  intro i hi j hj
  obtain ⟨v,hv2⟩:=Option.isSome_iff_exists.1 (h1 i hi j hj)
  obtain ⟨cv,h3,_⟩:=hv _ _ hv2
  rw [show k+i * 5+j=k+(i * 5+j) by omega,h3]
  rfl
 refine ⟨b,k,capc,fun i=>(w.cell? ⟨b,k+i * 5+1,none⟩).getD undef,fun i=>(w.cell? ⟨b,k+i * 5+2,none⟩).getD undef,fun i=>(w.cell? ⟨b,k+i * 5+3,none⟩).getD undef,fun i=>(w.cell? ⟨b,k+i * 5+4,none⟩).getD undef,rfl,⟨fun i hi=>?_,fun i hi=>hx i hi 1 (by omega),fun i hi=>hx i hi 2 (by omega),fun i hi=>hx i hi 3 (by omega),fun i hi=>hx i hi 4 (by omega)⟩⟩
 obtain ⟨cv,h3,h4⟩:=hv _ _ (h0 i hi)
 obtain ⟨sb,rfl,hs⟩:=h4.str
 rw [h3]
 rw [bytesOf_inj.1 hs]
theorem names_of {w:World} {cap:Option Nat} {x:AV} {xs:List AV} {c:Value} {n:Nat} {nm:Nat→ByteArray} (h:Frz w (.lst cap (x :: xs)) c) (hn:xs.length+1=n)
 (h0:∀ i,i < n→(cellsOf (x :: xs))[i]? = some (.str (bytesOf (nm i)))) :
 ∃ b k capc,c = .slice (some ⟨b,k,none⟩) n capc∧∀ i,i < n→w.cell? ⟨b,k+i,none⟩=some (.string (nm i)):=by
 obtain ⟨b,k,capc,rfl,hc,hv⟩:=h.lst
 rw [hn]
 refine ⟨b,k,capc,rfl,fun i hi=>?_⟩
 obtain ⟨cv,h3,h4⟩:=hv _ _ (h0 i hi)
 obtain ⟨sb,rfl,hs⟩:=h4.str
 rw [h3]
 rw [bytesOf_inj.1 hs]
def okD (l:List AV):Bool:=(List.range 22).all fun i=>(match (cellsOf l)[i * 5]? with | some (.str s)=>decide (s=bytesOf (Lb.nm i)) | _=>false) && (List.range 5).all fun j=>((cellsOf l)[i * 5+j]?).isSome
def okN (l:List AV):Bool:=(List.range 22).all fun i=>match (cellsOf l)[i]? with | some (.str s)=>decide (s=bytesOf (Lb.nm i)) | _=>false
theorem okD_0 {l:List AV} (h:okD l=true):∀ i,i < 22→(cellsOf l)[i * 5]? = some (.str (bytesOf (Lb.nm i))):=by
 intro i hi
 have:=List.all_eq_true.1 h i (List.mem_range.2 hi)
 rw [Bool.and_eq_true] at this
 have h1:=this.1
 split at h1
 · rename_i s hs
   rw [hs,of_decide_eq_true h1]
 · cases h1
theorem okD_1 {l:List AV} (h:okD l=true):∀ i,i < 22→∀ j,j < 5→((cellsOf l)[i * 5+j]?).isSome=true:=by
 intro i hi j hj
 have:=List.all_eq_true.1 h i (List.mem_range.2 hi)
 rw [Bool.and_eq_true] at this
 exact List.all_eq_true.1 this.2 j (List.mem_range.2 hj)
theorem okN_0 {l:List AV} (h:okN l=true):∀ i,i < 22→(cellsOf l)[i]? = some (.str (bytesOf (Lb.nm i))):=by
 intro i hi
 have h1:=List.all_eq_true.1 h i (List.mem_range.2 hi)
 split at h1
 · rename_i s hs
   rw [hs,of_decide_eq_true h1]
 · cases h1
theorem vrs_nil {j:Inj}:VRs j [] (#[]:Array Value).toList:=.nil
variable {P:Env}
theorem ctx_of (hP:P.toProgram=Tryz.prog) {capO capD capN:Option Nat} {x y z:AV} {xs ys zs:List AV}
 (kO:KnownV P 30 [] (.tup [.lst capO (x :: xs),.int .i64 0])) (kD:KnownV P 13 [] (.lst capD (y :: ys))) (kN:KnownV P 14 [] (.lst capN (z :: zs))) (kA:KnownV P 6 [] (.bool true))
 (lO:xs.length+1=22) (lD:ys.length+1=22) (lN:zs.length+1=22) (oO:okD (x :: xs)=true) (oD:okD (y :: ys)=true) (oN:okN (z :: zs)=true)
 (B0:World):Ctx fun w=>(P.inv w∧P.n0≤w.heap.size)∧Below B0.heap.size B0 w:={
 mono:=fun w w' ⟨⟨h1,h2⟩,h3⟩ hB=>⟨⟨P.stable w w' (fun b hb=>hB.block b (by omega)) h1,Nat.le_trans h2 hB.size⟩,h3.trans (hB.mono h3.size)⟩,
 opn:=fun w ⟨⟨h1,h2⟩,h3⟩=>by
  rw [←hP]
  refine (calls_of_known kO vrs_nil h1 h2).2.mono ?_
  rintro e w' ⟨cv,rfl,hf,hB,hI⟩
  obtain ⟨cs,rfl,hz,hc⟩:=hf.tup
  obtain ⟨c0,e0,f0⟩:=hc 0 _ rfl
  obtain ⟨c1,e1,f1⟩:=hc 1 _ rfl
  obtain ⟨b,k,capc,tx,pa,re,ca,rfl,hd⟩:=hasD_of f0 lO (okD_0 oO) (okD_1 oO)
  have:=f1.int
  subst this
  have hcs:cs=#[.slice (some ⟨b,k,none⟩) 22 capc,.int .i64 0]:=by
   apply Array.ext'
   have hz:cs.toList.length=2:=hz
   rw [←Array.getElem?_toList] at e0 e1
   match hl:cs.toList,hz with
   | [p,q],_ =>
    rw [hl] at e0 e1
    cases e0; cases e1; rfl
  exact ⟨b,k,capc,tx,pa,re,ca,by rw [hcs],hd,hB,⟨hI,Nat.le_trans h2 hB.size⟩,h3.trans (hB.mono h3.size)⟩,
 defs:=fun w ⟨⟨h1,h2⟩,h3⟩=>by
  rw [←hP]
  refine (calls_of_known kD vrs_nil h1 h2).2.mono ?_
  rintro e w' ⟨cv,rfl,hf,hB,hI⟩
  obtain ⟨b,k,capc,tx,pa,re,ca,rfl,hd⟩:=hasD_of hf lD (okD_0 oD) (okD_1 oD)
  exact ⟨b,k,capc,tx,pa,re,ca,rfl,hd,hB,⟨hI,Nat.le_trans h2 hB.size⟩,h3.trans (hB.mono h3.size)⟩,
 names:=fun w ⟨⟨h1,h2⟩,h3⟩=>by
  rw [←hP]
  refine (calls_of_known kN vrs_nil h1 h2).2.mono ?_
  rintro e w' ⟨cv,rfl,hf,hB,hI⟩
  obtain ⟨b,k,capc,rfl,hd⟩:=names_of hf lN (okN_0 oN)
  exact ⟨b,k,capc,rfl,hd,hB,⟨hI,Nat.le_trans h2 hB.size⟩,h3.trans (hB.mono h3.size)⟩,
 awk:=fun w ⟨⟨h1,h2⟩,h3⟩=>by
  rw [←hP]
  refine (calls_of_known kA vrs_nil h1 h2).2.mono ?_
  rintro e w' ⟨cv,rfl,hf,hB,hI⟩
  rw [hf.bool]
  exact ⟨rfl,⟨hI,Nat.le_trans h2 hB.size⟩,h3.trans (hB.mono h3.size)⟩ }
end Lb
end Go.Proofs
open Go Go.Ev Go.Proofs
namespace Go.Ev
theorem memApp {a b:List Ent} (ha:∀ e∈a,KnownV PE e.1 e.2.1 e.2.2) (hb:∀ e∈b,KnownV PE e.1 e.2.1 e.2.2):∀ e∈a++b,KnownV PE e.1 e.2.1 e.2.2:=fun e h=>(List.mem_append.1 h).elim (ha e) (hb e)
theorem kOf {d l:List Ent} (hd:∀ e∈d,KnownV PE e.1 e.2.1 e.2.2) (t:byValL (runL d) l = .yes):∀ e∈l,KnownV PE e.1 e.2.1 e.2.2:=knownVs hmP hnameP (orcBoth_ok oR_ok (orcL_ok hd)) t
theorem k_lK:∀ e∈lK,KnownV PE e.1 e.2.1 e.2.2:=kOf (fun _ h=>by cases h) t_lK
theorem k_lD0:∀ e∈lD0,KnownV PE e.1 e.2.1 e.2.2:=kOf k_lK t_lD0
theorem k_lD1:∀ e∈lD1,KnownV PE e.1 e.2.1 e.2.2:=kOf k_lK t_lD1
theorem k_lD2:∀ e∈lD2,KnownV PE e.1 e.2.1 e.2.2:=kOf k_lK t_lD2
theorem k_lD3:∀ e∈lD3,KnownV PE e.1 e.2.1 e.2.2:=kOf k_lK t_lD3
theorem k_lD4:∀ e∈lD4,KnownV PE e.1 e.2.1 e.2.2:=kOf k_lK t_lD4
theorem k_lO:∀ e∈lO,KnownV PE e.1 e.2.1 e.2.2:=kOf (memApp (memApp (memApp (memApp k_lD0 k_lD1) k_lD2) k_lD3) k_lD4) t_lO
theorem k_lP:∀ e∈lP,KnownV PE e.1 e.2.1 e.2.2:=kOf k_lK t_lP
theorem k_lR:∀ e∈lR,KnownV PE e.1 e.2.1 e.2.2:=kOf (fun _ h=>by cases h) t_lR
theorem k_lI:∀ e∈lI,KnownV PE e.1 e.2.1 e.2.2:=kOf k_lR t_lI
theorem k_lL:∀ e∈lL,KnownV PE e.1 e.2.1 e.2.2:=kOf (memApp k_lR k_lI) t_lL
theorem k_lC0:∀ e∈lC0,KnownV PE e.1 e.2.1 e.2.2:=kOf (fun _ h=>by cases h) t_lC0
theorem k_lC1:∀ e∈lC1,KnownV PE e.1 e.2.1 e.2.2:=kOf (fun _ h=>by cases h) t_lC1
theorem k_lC2:∀ e∈lC2,KnownV PE e.1 e.2.1 e.2.2:=kOf (fun _ h=>by cases h) t_lC2
theorem k_lA:∀ e∈lA,KnownV PE e.1 e.2.1 e.2.2:=kOf (memApp (memApp (memApp (memApp (memApp k_lO k_lP) k_lL) k_lC0) k_lC1) k_lC2) t_lA
theorem k_lS:∀ e∈lS,KnownV PE e.1 e.2.1 e.2.2:=kOf (fun _ h=>by cases h) t_lS
theorem k_lM:∀ e∈lM,KnownV PE e.1 e.2.1 e.2.2:=kOf k_lO t_lM
theorem k_lF:∀ e∈lF,KnownV PE e.1 e.2.1 e.2.2:=kOf k_lO t_lF
theorem k_lG:∀ e∈lG,KnownV PE e.1 e.2.1 e.2.2:=kOf k_lS t_lG
theorem k_lU:∀ e∈lU,KnownV PE e.1 e.2.1 e.2.2:=kOf (fun _ h=>by cases h) t_lU
theorem k_lV:∀ e∈lV,KnownV PE e.1 e.2.1 e.2.2:=kOf k_lS t_lV
end Go.Ev
open Go Go.Ev Go.RowKit
namespace Go.Proofs
namespace Lb
set_option maxRecDepth 1000000
def toB (s:List Nat):ByteArray:=⟨(s.map UInt8.ofNat).toArray⟩
def okS (s:List Nat):Bool:=s.all fun n=>Nat.blt n 256
theorem toB_of {s:List Nat} (h:okS s=true):bytesOf (toB s)=s:=by
 unfold bytesOf toB
 simp only [List.map_map]
 induction s with
 | nil=>rfl
 | cons x xs ih =>
  unfold okS at h
  simp only [List.all_cons,Bool.and_eq_true] at h
  simp only [List.map_cons]
  rw [ih h.2]
  congr 1
  have hx:x < 256:=by have:=h.1; simpa [Nat.blt_eq] using this
  simp [UInt8.toNat_ofNat',Nat.mod_eq_of_lt hx]
theorem toB_size (s:List Nat):(toB s).size=s.length:=by
 show ((s.map UInt8.ofNat).toArray).size=_
 simp
theorem str_frz {w:World} {s:List Nat} {c:Value} (h:Frz w (.str s) c) (hs:okS s=true):c = .string (toB s):=by
 obtain ⟨sb,rfl,hb⟩:=h.str
 rw [show sb=toB s from bytesOf_inj.1 (by rw [hb,toB_of hs])]
def sB:AV→List Nat | .str s=>s | _=>[]
def lA:AV→List AV | .lst _ l=>l | _=>[]
def isStr:AV→Bool | .str s=>okS s | _=>false
def isBoo:AV→Bool | .bool _=>true | _=>false
def bB:AV→Bool | .bool b=>b | _=>false
def strsB:AV→Bool | .lst _ l=>l.all isStr | _=>false
def boosB:AV→Bool | .lst _ l=>l.all isBoo | _=>false
def strsN (v:AV):List (List Nat):=(lA v).map sB
def strsOf (v:AV):List ByteArray:=(strsN v).map toB
def boosOf (v:AV):List Bool:=(lA v).map bB
theorem frz_nil {w:World} {cap:Option Nat} {c:Value} (h:Frz w (.lst cap []) c):∃ p n,c = .slice p 0 n:=by
 obtain ⟨j,h,_⟩:=h
 generalize hl:([]:List AV)=l at h
 cases h with
 | lstE=>exact ⟨_,_,rfl⟩
 | lst=>subst hl; exact ⟨_,_,rfl⟩
theorem cells_strs:∀ {l:List AV},l.all isStr=true→cellsOf l=l
 | [],_=>rfl
 | x :: xs,h=>by
  simp only [List.all_cons,Bool.and_eq_true] at h
  have h1:x.cells = [x]:=by cases x <;> first | rfl | (exact absurd h.1 (by simp [isStr]))
  show x.cells++cellsOf xs=x :: xs
  rw [h1,cells_strs h.2]; rfl
theorem cells_boos:∀ {l:List AV},l.all isBoo=true→cellsOf l=l
 | [],_=>rfl
 | x :: xs,h=>by
  simp only [List.all_cons,Bool.and_eq_true] at h
  have h1:x.cells = [x]:=by cases x <;> first | rfl | (exact absurd h.1 (by simp [isBoo]))
  show x.cells++cellsOf xs=x :: xs
  rw [h1,cells_boos h.2]; rfl
theorem strs_frz {w:World} {v:AV} {c:Value} (h:Frz w v c) (hs:strsB v=true):∃ p n cc,c = .slice p n cc∧HasS w c (strsOf v)∧(strsOf v).length≤cc:=by
 cases v with
 | lst cap l =>
  have hs:l.all isStr=true:=hs
  cases l with
  | nil =>
   obtain ⟨p,n,rfl⟩:=frz_nil h
   exact ⟨_,_,_,rfl,⟨p,n,rfl,fun h=>absurd rfl h⟩,Nat.zero_le _⟩
  | cons x xs =>
   obtain ⟨b,k,capc,rfl,hc,hv⟩:=h.lst
   refine ⟨_,_,_,rfl,⟨some ⟨b,k,none⟩,capc,?_,fun _=>⟨b,k,rfl,fun i hi=>?_⟩⟩,?_⟩
   · simp [strsOf,strsN,lA]
   · have hi':i < (x :: xs).length:=by simpa [strsOf,strsN,lA] using hi
     have he:(x :: xs)[i]? = some ((x :: xs)[i]):=List.getElem?_eq_getElem hi'
     obtain ⟨cv,h1,h2⟩:=hv i ((x :: xs)[i]) (by rw [cells_strs hs]; exact he)
     have hsi:=List.all_eq_true.1 hs _ (List.getElem_mem hi')
     rw [h1]
     have h3:(strsOf (.lst cap (x :: xs))).getD i ByteArray.empty=toB (sB ((x :: xs)[i])):=by
      rw [List.getD_eq_getElem?_getD]
      show (((x :: xs).map sB).map toB)[i]?.getD _=_
      rw [List.getElem?_map,List.getElem?_map,he]; rfl
     rw [h3]
     generalize (x :: xs)[i]=y at h2 hsi
     cases y with
     | str s=>rw [str_frz h2 hsi]; rfl
     | _=>cases hsi
   · simpa [strsOf,strsN,lA] using hc
 | _=>cases hs
theorem boos_frz {w:World} {v:AV} {c:Value} (h:Frz w v c) (hs:boosB v=true):HasB w c (boosOf v):=by
 cases v with
 | lst cap l =>
  have hs:l.all isBoo=true:=hs
  cases l with
  | nil =>
   obtain ⟨p,n,rfl⟩:=frz_nil h
   exact ⟨p,n,rfl,fun h=>absurd rfl h⟩
  | cons x xs =>
   obtain ⟨b,k,capc,rfl,hc,hv⟩:=h.lst
   refine ⟨some ⟨b,k,none⟩,capc,by simp [boosOf,lA],fun _=>⟨b,k,rfl,fun i hi=>?_⟩⟩
   have hi':i < (x :: xs).length:=by simpa [boosOf,lA] using hi
   have he:(x :: xs)[i]? = some ((x :: xs)[i]):=List.getElem?_eq_getElem hi'
   obtain ⟨cv,h1,h2⟩:=hv i ((x :: xs)[i]) (by rw [cells_boos hs]; exact he)
   have hsi:=List.all_eq_true.1 hs _ (List.getElem_mem hi')
   rw [h1]
   have h3:(boosOf (.lst cap (x :: xs))).getD i false=bB ((x :: xs)[i]):=by
    rw [List.getD_eq_getElem?_getD]
    show ((x :: xs).map bB)[i]?.getD _=_
    rw [List.getElem?_map,he]; rfl
   rw [h3]
   generalize (x :: xs)[i]=y at h2 hsi
   cases y with
   | bool s=>rw [h2.bool]; rfl
   | _=>cases hsi
 | _=>cases hs
def txN (l:List AV) (i:Nat):List Nat:=match (cellsOf l)[i * 5+1]? with | some (.str s)=>s | _=>[]
def txOk (l:List AV) (i:Nat):Bool:=match (cellsOf l)[i * 5+1]? with | some (.str s)=>okS s | _=>false
def libN (v:AV):List (List Nat):=(List.range (lA v).length).map (txN (lA v))
def libT (v:AV):List ByteArray:=(libN v).map toB
def libB:AV→Bool | .lst _ l=>(List.range l.length).all (txOk l) | _=>false
theorem lib_frz {w:World} {v:AV} {c:Value} (h:Frz w v c) (hs:libB v=true):HasT w c (libT v):=by
 cases v with
 | lst cap l =>
  have hs:(List.range l.length).all (txOk l)=true:=hs
  cases l with
  | nil =>
   obtain ⟨p,n,rfl⟩:=frz_nil h
   exact ⟨p,n,rfl,fun h=>absurd rfl h⟩
  | cons x xs =>
   obtain ⟨b,k,capc,rfl,hc,hv⟩:=h.lst
   refine ⟨some ⟨b,k,none⟩,capc,by simp [libT,libN,lA],fun _=>⟨b,k,rfl,fun i hi=>?_⟩⟩
   have hi':i < (x :: xs).length:=by simpa [libT,libN,lA] using hi
   have hsi:=List.all_eq_true.1 hs i (List.mem_range.2 hi')
   have h3:(libT (.lst cap (x :: xs))).getD i ByteArray.empty=toB (txN (x :: xs) i):=by
    rw [List.getD_eq_getElem?_getD]
    show (((List.range (x :: xs).length).map (txN (x :: xs))).map toB)[i]?.getD _=_
    rw [List.getElem?_map,List.getElem?_map,List.getElem?_range hi']; rfl
   rw [h3]
   unfold txOk at hsi
   unfold txN
   split at hsi
   · rename_i s he
     obtain ⟨cv,h1,h2⟩:=hv _ _ he
     rw [Nat.add_assoc,h1,str_frz h2 hsi]
   · cases hsi
 | _=>cases hs
theorem frs_tup {w:World} {vs:List AV} {c:Value} (h:Frs w (.tup vs) c):∃ cs:Array Value,c = .tuple cs∧cs.size=vs.length∧∀ (i:Nat) (v:AV),vs[i]? = some v→∃ cv,cs[i]? = some cv∧Frs w v cv:=by
 obtain ⟨j,h,hf⟩:=h
 cases h with
 | tup _ cs hv =>
  refine ⟨cs,rfl,by have:=hv.length; simpa using this,fun i v hi=>?_⟩
  obtain ⟨cv,h1,h2⟩:=hv.get hi
  exact ⟨cv,by simpa using h1,j,h2,hf⟩
theorem frs_agg {w:World} {vs:List AV} {c:Value} (h:Frs w (.agg vs) c):∃ cs:Array Value,c = .agg cs∧cs.size=vs.length∧∀ (i:Nat) (v:AV),vs[i]? = some v→∃ cv,cs[i]? = some cv∧Frs w v cv:=by
 obtain ⟨j,h,hf⟩:=h
 cases h with
 | agg _ cs hv =>
  refine ⟨cs,rfl,by have:=hv.length; simpa using this,fun i v hi=>?_⟩
  obtain ⟨cv,h1,h2⟩:=hv.get hi
  exact ⟨cv,by simpa using h1,j,h2,hf⟩
theorem arr2 {cs:Array Value} {a b:Value} (hz:cs.size=2) (h0:cs[0]? = some a) (h1:cs[1]? = some b):cs=#[a,b]:=by
 apply Array.ext'
 have hz:cs.toList.length=2:=hz
 rw [←Array.getElem?_toList] at h0 h1
 match hl:cs.toList,hz with
 | [p,q],_=>rw [hl] at h0 h1; cases h0; cases h1; rfl
theorem arr3 {cs:Array Value} {a b c:Value} (hz:cs.size=3) (h0:cs[0]? = some a) (h1:cs[1]? = some b) (h2:cs[2]? = some c):cs=#[a,b,c]:=by
 apply Array.ext'
 have hz:cs.toList.length=3:=hz
 rw [←Array.getElem?_toList] at h0 h1 h2
 match hl:cs.toList,hz with
 | [p,q,r],_=>rw [hl] at h0 h1 h2; cases h0; cases h1; cases h2; rfl
theorem arr5 {cs:Array Value} {a b c d e:Value} (hz:cs.size=5) (h0:cs[0]? = some a) (h1:cs[1]? = some b) (h2:cs[2]? = some c) (h3:cs[3]? = some d) (h4:cs[4]? = some e):cs=#[a,b,c,d,e]:=by
 apply Array.ext'
 have hz:cs.toList.length=5:=hz
 rw [←Array.getElem?_toList] at h0 h1 h2 h3 h4
 match hl:cs.toList,hz with
 | [p,q,r,s,t],_=>rw [hl] at h0 h1 h2 h3 h4; cases h0; cases h1; cases h2; cases h3; cases h4; rfl
theorem def_frs {w:World} {a t:List Nat} {p r q:AV} {c:Value} (h:Frs w (.agg [.str a,.str t,p,r,q]) c) (ha:okS a=true) (ht:okS t=true) (hp:strsB p=true) (hr:strsB r=true) (hq:strsB q=true) :
 ∃ pp pn pc rp rn rc cp cn cc,c = .agg #[.string (toB a),.string (toB t),.slice pp pn pc,.slice rp rn rc,.slice cp cn cc]∧HasS w (.slice pp pn pc) (strsOf p)∧HasS w (.slice rp rn rc) (strsOf r)∧(strsOf r).length≤rc:=by
 obtain ⟨cs,rfl,hz,hc⟩:=frs_agg h
 obtain ⟨c0,e0,f0⟩:=hc 0 _ rfl
 obtain ⟨c1,e1,f1⟩:=hc 1 _ rfl
 obtain ⟨c2,e2,f2⟩:=hc 2 _ rfl
 obtain ⟨c3,e3,f3⟩:=hc 3 _ rfl
 obtain ⟨c4,e4,f4⟩:=hc 4 _ rfl
 have:=str_frz f0.frz ha
 subst this
 have:=str_frz f1.frz ht
 subst this
 obtain ⟨pp,pn,pc,rfl,hs2,_⟩:=strs_frz f2.frz hp
 obtain ⟨rp,rn,rc,rfl,hs3,hl3⟩:=strs_frz f3.frz hr
 obtain ⟨cp,cn,cc,rfl,_,_⟩:=strs_frz f4.frz hq
 exact ⟨_,_,_,_,_,_,_,_,_,by rw [arr5 hz e0 e1 e2 e3 e4],hs2,hs3,hl3⟩
theorem vr_own {w:World} {B:Nat} {r:Value} {l:List ByteArray} (h:w.ownsRow B 9 1 r l.length (l.map Value.string)) (h0:l≠[]):VR (froOf w) (.lst none (l.map fun s=>.str (bytesOf s))) r:=by
 rcases h.2 with ⟨_,hn⟩ | ⟨g,c,cur,rfl,_,hg,hnc,_,_,ht⟩
 · exact absurd (List.length_eq_zero_iff.1 hn) h0
 · refine vr_strs l hg hnc fun i hi=>?_
   rw [Nat.zero_add]
   have h2:(l.map Value.string)[i]? = some (Value.string (l.getD i ByteArray.empty)):=by
    rw [List.getElem?_map,List.getElem?_eq_getElem hi,List.getD_eq_getElem?_getD,List.getElem?_eq_getElem hi]; rfl
   rw [←ht,List.getElem?_take_of_lt (by omega)] at h2
   simpa using h2
end Lb
end Go.Proofs
open Go Go.Ev Go.RowKit
namespace Go.Proofs
noncomputable section
namespace Lb
set_option maxRecDepth 1000000
def dE:Ent:=(0,[],.junk)
def eF (i:Nat):Ent:=lF.getD i dE
def eG (i:Nat):Ent:=lG.getD i dE
def eU (i:Nat):Ent:=lU.getD i dE
def eV (i:Nat):Ent:=lV.getD i dE
def fT (k:Nat):AV→AV | .tup l=>l.getD k .junk | _=>.junk
def fA (k:Nat):AV→AV | .agg l=>l.getD k .junk | _=>.junk
def iB:AV→Int | .int .i64 n=>n | _=>-1
def libV (i:Nat):AV:=fT 0 (eF i).2.2
def dfF (i:Nat):AV:=fT 1 (eF i).2.2
def dfG (i:Nat):AV:=fT 0 (eG i).2.2
def nG (i:Nat):Int:=iB (fT 1 (eG i).2.2)
def txF (i:Nat):List Nat:=sB (fA 1 (dfF i))
def txG (i:Nat):List Nat:=sB (fA 1 (dfG i))
def prA (i:Nat):AV:=fA 2 (dfF i)
def reA (i:Nat):AV:=fA 3 (dfF i)
def prs (i:Nat):List ByteArray:=strsOf (prA i)
def res (i:Nat):List ByteArray:=strsOf (reA i)
def rootU (i:Nat):List ByteArray:=nm i :: addsOf [nthB,packB] (prs i)
def rootV (i:Nat):List ByteArray:=nm i :: addsOf [packB] (prs i)
def strA (l:List ByteArray):AV:=.lst none (l.map fun s=>.str (bytesOf s))
def nmN (i:Nat):List Nat:=bytesOf (nm i)
def at22 (s:List Nat):Nat:=((List.range 22).find? fun k=>listB Nat.beq (nmN k) s).getD 22
def ndsN (i:Nat):List (List Nat):=strsN (eV i).2.2
def nds (i:Nat):List ByteArray:=(ndsN i).map toB
def tysN (i:Nat):List (List Nat):=(ndsN i).map fun s=>txG (at22 s)
def tys (i:Nat):List ByteArray:=(tysN i).map toB
def bs (i:Nat):List Bool:=boosOf (eU i).2.2
def selN:List Bool→List (List Nat)→List (List Nat)
 | b :: l,s :: r=>if b then s :: selN l r else selN l r
 | _,_=>[]
def chkF (i:Nat):Bool :=
 Nat.beq (eF i).1 31 && listB avSame (eF i).2.1 [.str (nmN i)] && avSame (eF i).2.2 (.tup [libV i,.agg [.str (nmN i),.str (txF i),prA i,reA i,fA 4 (dfF i)],.int .i64 0]) &&
 okS (nmN i) && okS (txF i) && strsB (prA i) && strsB (reA i) && strsB (fA 4 (dfF i)) && libB (libV i) && iceB 12 (libV i)
def chkG (i:Nat):Bool :=
 Nat.beq (eG i).1 9 && listB avSame (eG i).2.1 [.str (nmN i)] && avSame (eG i).2.2 (.tup [.agg [.str (nmN i),.str (txG i),prA i,reA i,fA 4 (dfG i)],.int .i64 (nG i)]) &&
 okS (txG i) && strsB (fA 4 (dfG i)) && decide (0≤nG i) && decide (nG i≤100)
def chkU (i:Nat):Bool :=
 Nat.beq (eU i).1 32 && listB avSame (eU i).2.1 [libV i,strA (rootU i)] && boosB (eU i).2.2
def chkV (i:Nat):Bool :=
 Nat.beq (eV i).1 19 && listB avSame (eV i).2.1 [strA (rootV i)] && strsB (eV i).2.2 && (ndsN i).all fun s=>Nat.blt (at22 s) 22 && listB Nat.beq (nmN (at22 s)) s && okS s
def chkS (i:Nat):Bool :=
 Nat.ble (nmN i).length 1000000 && Nat.ble (strsN (prA i)).length 6 && ((strsN (reA i)).all fun s=>Nat.ble s.length 100) && Nat.ble (strsN (reA i)).length 100 && Nat.ble (libN (libV i)).length 100 &&
 ((libN (libV i)).all fun s=>Nat.ble s.length 1000000) && Nat.beq (bs i).length (libN (libV i)).length && Nat.ble (ndsN i).length 100 && ((tysN i).all fun s=>Nat.ble s.length 1000000) && listB (listB Nat.beq) (selN (bs i) (libN (libV i))) (tysN i)
theorem chkF_all:((List.range 22).all chkF)=true:=by kernel_rfl
theorem chkG_all:((List.range 22).all chkG)=true:=by kernel_rfl
theorem chkU_all:((List.range 22).all chkU)=true:=by kernel_rfl
theorem chkV_all:((List.range 22).all chkV)=true:=by kernel_rfl
theorem chkS_all:((List.range 22).all chkS)=true:=by kernel_rfl
theorem lens:lF.length=22∧lG.length=22∧lU.length=22∧lV.length=22:=by refine ⟨?_,?_,?_,?_⟩ <;> kernel_rfl
end Lb
end
end Go.Proofs
open Go Go.Ev Go.RowKit
namespace Go.Proofs
namespace Lb
set_option maxRecDepth 1000000
def selB:List Bool→List ByteArray→List ByteArray
 | b :: l,s :: r=>if b then s :: selB l r else selB l r
 | _,_=>[]
theorem selB_take:∀ (bs:List Bool) (txs:List ByteArray) (k:Nat),k < txs.length→bs.length=txs.length→selB (bs.take (k+1)) (txs.take (k+1))=selB (bs.take k) (txs.take k)++(if bs.getD k false=true then [txs.getD k ByteArray.empty] else [])
 | [],txs,k,hk,hl=>by simp at hl; omega
 | b :: l,[],k,hk,hl=>by simp at hk
 | b :: l,s :: r,0,hk,hl=>by cases b <;> simp [selB]
 | b :: l,s :: r,k+1,hk,hl=>by
  have ih:=selB_take l r k (by simpa using hk) (by simpa using hl)
  simp only [List.take_succ_cons,selB]
  rw [ih]
  cases b <;> simp
theorem catT_sel (bs:List Bool) (txs:List ByteArray) (hl:bs.length=txs.length):∀ k,k≤txs.length→catT bs txs k=(selB (bs.take k) (txs.take k)).foldl (fun a s=>a++(s++⟨#[10]⟩)) ByteArray.empty
 | 0,_=>by simp [catT,selB]
 | k+1,hk=>by
  have ih:=catT_sel bs txs hl k (by omega)
  unfold catT
  rw [selB_take bs txs k (by omega) hl,List.foldl_append,← ih]
  split <;> simp
theorem catN_fold (tys:List ByteArray):∀ k,k≤tys.length→catN tys k=(tys.take k).foldl (fun a s=>a++(s++⟨#[10]⟩)) ByteArray.empty
 | 0,_=>by simp [catN]
 | k+1,hk=>by
  have ih:=catN_fold tys k (by omega)
  unfold catN
  rw [List.take_add_one,List.foldl_append,← ih,List.getElem?_eq_getElem (by omega),List.getD_eq_getElem?_getD,List.getElem?_eq_getElem (by omega)]
  rfl
theorem cat_eq (bs:List Bool) (txs:List ByteArray) (hl:bs.length=txs.length):catT bs txs txs.length=catN (selB bs txs) (selB bs txs).length:=by
 rw [catT_sel bs txs hl _ (Nat.le_refl _),catN_fold _ _ (Nat.le_refl _),List.take_of_length_le (by omega),List.take_of_length_le (Nat.le_refl _),List.take_of_length_le (Nat.le_refl _)]
theorem selB_map:∀ (bs:List Bool) (t:List (List Nat)),selB bs (t.map toB)=(selN bs t).map toB
 | [],_=>rfl
 | b :: l,[]=>rfl
 | b :: l,s :: r=>by
  simp only [List.map_cons,selB,selN]
  rw [selB_map l r]
  cases b <;> rfl
theorem all22 {f:Nat→Bool} (h:((List.range 22).all f)=true) {i:Nat} (hi:i < 22):f i=true:=List.all_eq_true.1 h i (List.mem_range.2 hi)
theorem natB {x y:Nat} (h:Nat.beq x y=true):x=y:=Nat.eq_of_beq_eq_true h
theorem listN {x y:List Nat} (h:listB Nat.beq x y=true):x=y:=listB_eq (fun _ _ h=>natB h) h
theorem mem_get {l:List Ent} {i:Nat} (h:i < l.length):l.getD i dE∈l:=by
 rw [List.getD_eq_getElem?_getD,List.getElem?_eq_getElem h]; exact List.getElem_mem _
theorem toB_nm {i:Nat} (h:okS (nmN i)=true):toB (nmN i)=nm i:=bytesOf_inj.1 (toB_of h)
theorem getD_toB (l:List (List Nat)) (j:Nat) (hj:j < l.length):(l.map toB).getD j ByteArray.empty=toB (l.getD j []):=by
 rw [List.getD_eq_getElem?_getD,List.getElem?_map,List.getElem?_eq_getElem hj,List.getD_eq_getElem?_getD,List.getElem?_eq_getElem hj]; rfl
theorem size_all {l:List (List Nat)} {M:Nat} (h:(l.all fun s=>Nat.ble s.length M)=true):∀ i,((l.map toB).getD i ByteArray.empty).size≤M:=by
 intro i
 by_cases hi:i < l.length
 · rw [getD_toB l i hi,toB_size,List.getD_eq_getElem?_getD,List.getElem?_eq_getElem hi]
   exact Nat.le_of_ble_eq_true (List.all_eq_true.1 h _ (List.getElem_mem _))
 · rw [List.getD_eq_getElem?_getD,List.getElem?_eq_none (by simpa using Nat.le_of_not_lt hi)]
   exact Nat.zero_le _
theorem knownF {i:Nat} (hi:i < 22):KnownV PE 31 [.str (bytesOf (nm i))] (.tup [libV i,.agg [.str (nmN i),.str (txF i),prA i,reA i,fA 4 (dfF i)],.int .i64 0])∧okS (nmN i)=true∧okS (txF i)=true∧strsB (prA i)=true∧strsB (reA i)=true∧strsB (fA 4 (dfF i))=true∧libB (libV i)=true∧iceB 12 (libV i)=true:=by
 have h:=all22 chkF_all hi
 unfold chkF at h
 simp only [Bool.and_eq_true] at h
 obtain ⟨⟨⟨⟨⟨⟨⟨⟨⟨h1,h2⟩,h3⟩,h4⟩,h5⟩,h6⟩,h7⟩,h8⟩,h9⟩,h10⟩:=h
 have hk:=k_lF (eF i) (mem_get (by rw [lens.1]; exact hi))
 rw [natB h1,listB_eq (fun _ _ h=>avSame_eq h) h2,avSame_eq h3] at hk
 exact ⟨hk,h4,h5,h6,h7,h8,h9,h10⟩
theorem knownG {i:Nat} (hi:i < 22):KnownV PE 9 [.str (bytesOf (nm i))] (.tup [.agg [.str (nmN i),.str (txG i),prA i,reA i,fA 4 (dfG i)],.int .i64 (nG i)])∧okS (txG i)=true∧strsB (fA 4 (dfG i))=true∧0≤nG i∧nG i≤100:=by
 have h:=all22 chkG_all hi
 unfold chkG at h
 simp only [Bool.and_eq_true,decide_eq_true_eq] at h
 obtain ⟨⟨⟨⟨⟨⟨h1,h2⟩,h3⟩,h4⟩,h5⟩,h6⟩,h7⟩:=h
 have hk:=k_lG (eG i) (mem_get (by rw [lens.2.1]; exact hi))
 rw [natB h1,listB_eq (fun _ _ h=>avSame_eq h) h2,avSame_eq h3] at hk
 exact ⟨hk,h4,h5,h6,h7⟩
theorem knownU {i:Nat} (hi:i < 22):KnownV PE 32 [libV i,strA (rootU i)] (eU i).2.2∧boosB (eU i).2.2=true:=by
 have h:=all22 chkU_all hi
 unfold chkU at h
 simp only [Bool.and_eq_true] at h
 obtain ⟨⟨h1,h2⟩,h3⟩:=h
 have hk:=k_lU (eU i) (mem_get (by rw [lens.2.2.1]; exact hi))
 rw [natB h1,listB_eq (fun _ _ h=>avSame_eq h) h2] at hk
 exact ⟨hk,h3⟩
theorem knownW {i:Nat} (hi:i < 22):KnownV PE 19 [strA (rootV i)] (eV i).2.2∧strsB (eV i).2.2=true∧∀ s∈ndsN i,at22 s < 22∧nmN (at22 s)=s∧okS s=true:=by
 have h:=all22 chkV_all hi
 unfold chkV at h
 simp only [Bool.and_eq_true] at h
 obtain ⟨⟨⟨h1,h2⟩,h3⟩,h4⟩:=h
 have hk:=k_lV (eV i) (mem_get (by rw [lens.2.2.2]; exact hi))
 rw [natB h1,listB_eq (fun _ _ h=>avSame_eq h) h2] at hk
 refine ⟨hk,h3,fun s hs=>?_⟩
 have:=List.all_eq_true.1 h4 s hs
 simp only [Bool.and_eq_true] at this
 exact ⟨by simpa [Nat.blt_eq] using this.1.1,listN this.1.2,this.2⟩
theorem kn_of {i:Nat} (hi:i < 22) (B0:World):Kn (fun w=>(PE.inv w∧PE.n0≤w.heap.size)∧Below B0.heap.size B0 w) (fun w lv=>Frs w (libV i) lv) (nm i) (toB (txF i)) (toB (txG i)) (prs i) (res i) (bs i) (libT (libV i)) (nds i) (tys i):=by
 obtain ⟨kF,f1,f2,f3,f4,f5,f6,f7⟩:=knownF hi
 obtain ⟨kG,g1,g2,g3,g4⟩:=knownG hi
 obtain ⟨kU,u1⟩:=knownU hi
 obtain ⟨kV,v1,v2⟩:=knownW hi
 have hS:=all22 chkS_all hi
 unfold chkS at hS
 simp only [Bool.and_eq_true] at hS
 obtain ⟨⟨⟨⟨⟨⟨⟨⟨⟨s1,s2⟩,s3⟩,s4⟩,s5⟩,s6⟩,s7⟩,s8⟩,s9⟩,s10⟩:=hS
 have hnm:=toB_nm f1
 have hmono:∀ w w',((PE.inv w∧PE.n0≤w.heap.size)∧Below B0.heap.size B0 w)→Below w.heap.size w w'→((PE.inv w'∧PE.n0≤w'.heap.size)∧Below B0.heap.size B0 w') :=
  fun w w' ⟨⟨h1,h2⟩,h3⟩ hB=>⟨⟨PE.stable w w' (fun b hb=>hB.block b (by omega)) h1,Nat.le_trans h2 hB.size⟩,h3.trans (hB.mono h3.size)⟩
 have hG:∀ k,k < 22→∀ w,((PE.inv w∧PE.n0≤w.heap.size)∧Below B0.heap.size B0 w)→Calls Tryz.prog 9 #[.string (nm k)] w fun e w'=>∃ pp pn pc rp rn rc cp cn cc,e = .returned (.tuple #[.agg #[.string (nm k),.string (toB (txG k)),.slice pp pn pc,.slice rp rn rc,.slice cp cn cc],.int .i64 (nG k)]) ∧
  HasS w' (.slice pp pn pc) (prs k)∧HasS w' (.slice rp rn rc) (res k)∧Below w.heap.size w w':=by
  intro k hk w ⟨⟨h1,h2⟩,h3⟩
  obtain ⟨kF',q1,q2,q3,q4,q5,_⟩:=knownF hk
  obtain ⟨kG',r1,r2,r3,r4⟩:=knownG hk
  refine (calls_of_known2 kG' (vs:=#[.string (nm k)]) (.cons _ _ _ _ (.str (nm k)) .nil) h1 h2).2.mono ?_
  rintro e w' ⟨cv,rfl,hf,hB,_⟩
  obtain ⟨cs,rfl,hz,hc⟩:=frs_tup hf
  obtain ⟨c0,e0,x0⟩:=hc 0 _ rfl
  obtain ⟨c1,e1,x1⟩:=hc 1 _ rfl
  obtain ⟨pp,pn,pc,rp,rn,rc,cp,cn,cc,rfl,hp,hr,_⟩:=def_frs x0 q1 r1 q3 q4 r2
  have:=x1.frz.int
  subst this
  rw [toB_nm q1] at e0
  exact ⟨pp,pn,pc,rp,rn,rc,cp,cn,cc,by rw [arr2 hz e0 e1],hp,hr,hB⟩
 exact {
  imono:=hmono
  tab:=fun w h=>h.1.1
  lbm:=fun w w' lv h hB=>h.below hB
  lbt:=fun w lv h=>lib_frz h.frz f6
  find:=fun w ⟨⟨h1,h2⟩,h3⟩=>by
   refine (calls_of_known2 kF (vs:=#[.string (nm i)]) (.cons _ _ _ _ (.str (nm i)) .nil) h1 h2).2.mono ?_
   rintro e w' ⟨cv,rfl,hf,hB,_⟩
   obtain ⟨cs,rfl,hz,hc⟩:=frs_tup hf
   obtain ⟨c0,e0,x0⟩:=hc 0 _ rfl
   obtain ⟨c1,e1,x1⟩:=hc 1 _ rfl
   obtain ⟨c2,e2,x2⟩:=hc 2 _ rfl
   obtain ⟨pp,pn,pc,rp,rn,rc,cp,cn,cc,rfl,hp,hr,hrc⟩:=def_frs x1 f1 f2 f3 f4 f5
   have:=x2.frz.int
   subst this
   rw [hnm] at e1
   exact ⟨c0,pp,pn,pc,rp,rn,rc,cp,cn,cc,by rw [arr3 hz e0 e1 e2],x0,hp,hr,hrc,hB⟩
  needs:=fun w lv r B ⟨⟨h1,h2⟩,h3⟩ hlb ho=>by
   refine (calls_of_known2 kU (vs:=#[lv,r]) (.cons _ _ _ _ (hlb.vr (ice_of _ _ f7)) (.cons _ _ _ _ (vr_own (l:=rootU i) ho (List.cons_ne_nil _ _)) .nil)) h1 h2).2.mono ?_
   rintro e w' ⟨cv,rfl,hf,hB,_⟩
   exact ⟨cv,rfl,boos_frz hf.frz u1,hB⟩
  rfind:=fun w h=>by
   refine (hG i hi w h).mono ?_
   rintro e w' ⟨pp,pn,pc,rp,rn,rc,cp,cn,cc,rfl,hp,hr,hB⟩
   exact ⟨pp,pn,pc,rp,rn,rc,cp,cn,cc,_,rfl,g3,g4,hp,hr,hB⟩
  rneeds:=fun w r B ⟨⟨h1,h2⟩,h3⟩ ho=>by
   refine (calls_of_known2 kV (vs:=#[r]) (.cons _ _ _ _ (vr_own (l:=rootV i) ho (List.cons_ne_nil _ _)) .nil) h1 h2).2.mono ?_
   rintro e w' ⟨cv,rfl,hf,hB,_⟩
   obtain ⟨p,n,cc,rfl,hs,_⟩:=strs_frz hf.frz v1
   exact ⟨_,rfl,hs,hB⟩
  rfinds:=fun w j hj h=>by
   have hj':j < (ndsN i).length:=by simpa [nds] using hj
   have hm:(ndsN i).getD j []∈ndsN i:=by rw [List.getD_eq_getElem?_getD,List.getElem?_eq_getElem hj']; exact List.getElem_mem _
   obtain ⟨a1,a2,a3⟩:=v2 _ hm
   have e1:(nds i).getD j ByteArray.empty=nm (at22 ((ndsN i).getD j [])):=by
    show ((ndsN i).map toB).getD j _=_
    rw [getD_toB _ _ hj']
    exact bytesOf_inj.1 (by rw [toB_of a3]; exact a2.symm)
   have e2:(tys i).getD j ByteArray.empty=toB (txG (at22 ((ndsN i).getD j []))):=by
    show ((tysN i).map toB).getD j _=_
    rw [getD_toB _ _ (by simpa [tysN] using hj')]
    congr 1
    unfold tysN
    rw [List.getD_eq_getElem?_getD,List.getElem?_map,List.getElem?_eq_getElem hj',List.getD_eq_getElem?_getD,List.getElem?_eq_getElem hj']; rfl
   rw [e1,e2]
   refine (hG _ a1 w h).mono ?_
   rintro e w' ⟨pp,pn,pc,rp,rn,rc,cp,cn,cc,rfl,hp,hr,hB⟩
   exact ⟨_,_,_,_,_,_,_,_,_,_,_,rfl,hB⟩
  nmS:=by
   have:(nm i).size=(nmN i).length:=by rw [←hnm,toB_size]
   rw [this]; exact Nat.le_of_ble_eq_true s1
  prL:=by
   show ((strsN (prA i)).map toB).length≤6
   rw [List.length_map]; exact Nat.le_of_ble_eq_true s2
  resS:=fun x hx=>by
   have hx:x∈(strsN (reA i)).map toB:=hx
   obtain ⟨s,hs,rfl⟩:=List.mem_map.1 hx
   rw [toB_size]
   exact Nat.le_of_ble_eq_true (List.all_eq_true.1 s3 s hs)
  resL:=by
   show ((strsN (reA i)).map toB).length≤100
   rw [List.length_map]; exact Nat.le_of_ble_eq_true s4
  txsL:=by
   show ((libN (libV i)).map toB).length≤100
   rw [List.length_map]; exact Nat.le_of_ble_eq_true s5
  txsS:=size_all s6
  bsL:=by
   show _=((libN (libV i)).map toB).length
   rw [List.length_map]; exact natB s7
  tysL:=by
   show ((tysN i).map toB).length≤100
   rw [List.length_map]
   show ((ndsN i).map _).length≤100
   rw [List.length_map]; exact Nat.le_of_ble_eq_true s8
  tysS:=size_all s9
  ndsL:=by
   show ((ndsN i).map toB).length=((tysN i).map toB).length
   rw [List.length_map,List.length_map]
   show _=((ndsN i).map _).length
   rw [List.length_map]
  same:=by
   have hl:(bs i).length=(libT (libV i)).length:=by
    show _=((libN (libV i)).map toB).length
    rw [List.length_map]; exact natB s7
   rw [cat_eq _ _ hl]
   have:selB (bs i) (libT (libV i))=tys i:=by
    show selB (bs i) ((libN (libV i)).map toB)=(tysN i).map toB
    rw [selB_map,listB_eq (fun _ _ h=>listN h) s10]
   rw [this] }
end Lb
end Go.Proofs
open Go Go.Ev Go.RowKit
namespace Go.Proofs
namespace Lb
set_option maxRecDepth 1000000
theorem eq_toList {a b:ByteArray} (h:(a.toList==b.toList)=true):a=b:=by
 have h:a.toList=b.toList:=by simpa using h
 rw [ByteArray.toList_eq,ByteArray.toList_eq] at h
 cases a; cases b; exact congrArg _ (Array.ext' h)
theorem ctx_all (B0:World):Ctx fun w=>(PE.inv w∧PE.n0≤w.heap.size)∧Below B0.heap.size B0 w :=
 ctx_of rfl (k_lO _ List.mem_cons_self) (k_lS _ List.mem_cons_self) (k_lM _ List.mem_cons_self) (k_lA _ List.mem_cons_self) rfl rfl rfl (by decide +kernel) (by decide +kernel) (by decide +kernel) B0
theorem progs_final (s:ByteArray) (v:Value) (xs:List AArg) {w:World} (hA:HasA w v xs) (hl:xs.length≤9223372036854775807) (hs:s.size≤9223372036854775807) (hi:Lib.TabIs Tryz.prog w "internal/strconv.uint64pow10" .u64 Lib.pow10Tab) :
 Calls Tryz.prog 3 #[.agg #[.string s,v]] w fun e w'=>e = .returned (.bool true)∧Below w.heap.size w w':=by
 have hn:PE.n0≤w.heap.size:=tab_size hg hi
 have hI:(PE.inv w∧PE.n0≤w.heap.size)∧Below w.heap.size w w:=⟨⟨hi,hn⟩,Below.refl _ _⟩
 by_cases hb:100 < s.size∨thinV xs=false
 · exact (libP_long (ctx_all w) hI hA hl hs hb).mono fun e w' h=>⟨h.1,h.2.2⟩
 · have h1:s.size≤100:=Nat.le_of_not_lt fun h=>hb (.inl h)
   have h2:thinV xs=true:=by cases h:thinV xs with | true=>rfl | false=>exact absurd (.inr h) hb
   by_cases hu:Unk s
   · exact (libP_none (ctx_all w) hI hA h1 h2 hu).mono fun e w' h=>⟨h.1,h.2.2⟩
   · unfold Unk at hu
     simp only [Classical.not_forall] at hu
     obtain ⟨i,hi2,h⟩:=hu
     have hs:nm i=s:=eq_toList (by simpa using h)
     subst hs
     exact (libP_known (kn_of hi2 w) (ctx_all w) hI hA h1 h2).mono fun e w' h=>⟨h.1,h.2.2⟩
end Lb
end Go.Proofs
