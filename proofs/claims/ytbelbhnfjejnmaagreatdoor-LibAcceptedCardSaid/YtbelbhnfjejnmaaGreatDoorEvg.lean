/- PROVED HERE: a part (Evg) of the tied card of LibAccepted (floodgatelaw25). CONDITIONS: those of the given row and card alone. -/
import Derived.Test.YtbelbhnfjejnmaaGreatDoorEvf
import Derived.Below
import Derived.Lib.Repeat
import Derived.Lib.LaidTab
import Derived.Shelf.Strconv.Itoa3
import Derived.Shelf.Strings.Repeat
import GoSem.ClaimJoined
namespace Go.Ev
noncomputable section
open Go.RowKit
variable {P:Env}
theorem known_str {f:FuncId} {args:List AV} {h:H} {s:List Nat}
 (hc:∀ (w:World),P.inv w→P.n0≤w.heap.size→∀ vs:Array Value,(∀ j:Inj,VRs j args vs.toList→(callFunc f vs).run P w = .ok (.enter f vs) w ∧
  ∃ sb:ByteArray,bytesOf sb=s∧Calls P.toProgram f vs w fun e w'=>e = .returned (.string sb)∧Below w.heap.size w w')):Known P f args h (.str s) h:=by
 intro w j hR vs hvs
 obtain ⟨k1,sb,k2,k3⟩:=hc w hR.inv hR.size vs j hvs
 refine ⟨k1,fun n=>?_⟩
 refine callsIn_wide.2 (k3.mono fun e w' ⟨he,hB⟩=>?_)
 refine ⟨Nat.le_refl _,.string sb,he,j,?_,?_,?_⟩
 · rw [←k2]; exact .str sb
 · exact hR.other hB.size (fun b hb=>hB.block b (Nat.lt_of_lt_of_le hb hR.size)) (fun f l ⟨b,k1,k2⟩ hj=>by
    obtain ⟨l',q1,q2,_⟩:=hR.blk f b k1
    rw [hj] at q1; cases q1
    exact hB.block _ (q2 k2)) fun b o hb=>hB.block b (hR.ice_lt hb)
 · exact ⟨Inj.le_refl j,hB.size,fun b hb _=>hB.block b hb,fun f l hl hj=>.inr ⟨f,l,hl,hj,rfl⟩,hB.os,hB.output,hB.tape,fun _ h _=>h,fun _ h=>h,fun _ _ h=>.inl h⟩
theorem bytesOf_rep (s:ByteArray) (c:Nat):bytesOf ⟨(Lib.repeatL s.data.toList c).toArray⟩=(List.replicate c (bytesOf s)).flatten:=by
 have key:∀ c,(Lib.repeatL s.data.toList c).map (·.toNat)=(List.replicate c (s.data.toList.map (·.toNat))).flatten:=by
  intro c
  induction c with
  | zero=>rfl
  | succ c ih =>
   show (s.data.toList++Lib.repeatL s.data.toList c).map (·.toNat)=_
   rw [List.map_append,ih,List.replicate_succ,List.flatten_cons]
 show ((Lib.repeatL s.data.toList c).toArray.toList).map (·.toNat)=_
 exact key c
theorem bytesOf_len (s:ByteArray):(bytesOf s).length=s.size:=by
 show (s.data.toList.map (·.toNat)).length=s.data.size
 simp
def repF (s:List Nat) (n:Nat):List Nat:=Nat.rec [] (fun _ ih=>appF s ih) n
theorem repF_eq (s:List Nat) (n:Nat):repF s n=(List.replicate n s).flatten:=by
 induction n with
 | zero=>rfl
 | succ n ih=>show appF s (repF s n)=_; rw [appF_eq,ih,List.replicate_succ,List.flatten_cons]; rfl
def orcRep (f:FuncId):Orc:=fun g args h=>match Nat.beq g f with
 | true=>match args with
  | [.str s,.int .i64 (.ofNat n)]=>match and (Nat.ble n 1000) (Nat.ble s.length 1000) with
   | true=>some (.str (repF s n),h)
   | false=>none
  | _=>none
 | false=>none
theorem orcRep_ok {f:FuncId} (hent:∀ args w,(callFunc f args).run P.toProgram w = .ok (.enter f args) w)
 (hc:∀ (s:ByteArray) (c:Nat) (w:World),c≤9223372036854775807→s.size * c≤140737488355328→Calls P.toProgram f #[.string s,.int .i64 c] w fun e w'=>e = .returned (.string ⟨(Lib.repeatL s.data.toList c).toArray⟩)∧Below w.heap.size w w') :
 OrcOk P (orcRep f):=by
 intro g args h v h' hr
 unfold orcRep at hr
 split at hr
 · rename_i hg
   have:=Nat.eq_of_beq_eq_true hg
   subst this
   split at hr
   · rename_i s n
     split at hr
     · rename_i hb
       obtain ⟨h1,h2⟩:=and_true hb
       have h1:=Nat.le_of_ble_eq_true h1
       have h2:=Nat.le_of_ble_eq_true h2
       cases hr
       refine known_str fun w _ _ vs j hvs=>⟨hent _ _,?_⟩
       obtain ⟨vl⟩:=vs
       cases hvs with
       | cons _ _ c1 cs1 g1 g2 =>
        cases g2 with
        | cons _ _ c2 cs2 g3 g4 =>
         cases g4
         cases g3
         obtain ⟨sb,rfl,rfl⟩:∃ sb:ByteArray,c1 = .string sb∧s=bytesOf sb:=by cases g1; exact ⟨_,rfl,rfl⟩
         have hl:(bytesOf sb).length=sb.size:=bytesOf_len sb
         have hle:sb.size * n≤1000 * 1000:=Nat.mul_le_mul (by omega) h1
         refine ⟨_,?_,hc sb n w (by omega) (by omega)⟩
         rw [bytesOf_rep,repF_eq]
     · cases hr
   · cases hr
 · cases hr
def lookI (n:Int) (h:H):List (Int × List Nat)→Option (AV × H)
 | []=>none
 | e :: es=>match ibeq e.1 n with
  | true=>some (.str e.2,h)
  | false=>lookI n h es
def orcIt (f:FuncId) (tab:List (Int × List Nat)):Orc:=fun g args h=>match Nat.beq g f with
 | true=>match args with
  | [.int .i64 n]=>lookI n h tab
  | _=>none
 | false=>none
theorem lookI_mem {n:Int} {h h':H} {v:AV}:∀ {tab:List (Int × List Nat)},lookI n h tab=some (v,h')→h'=h∧∃ s,v = .str s∧(n,s)∈tab:=by
 intro tab
 induction tab with
 | nil=>intro hr; cases hr
 | cons e es ih =>
  intro hr
  unfold lookI at hr
  split at hr
  · rename_i he
    rw [ibeq_eq] at he
    have:=eq_of_beq he
    cases hr
    exact ⟨rfl,e.2,rfl,by rw [←this]; exact List.mem_cons_self⟩
  · obtain ⟨h1,s,h2,h3⟩:=ih hr
    exact ⟨h1,s,h2,List.mem_cons_of_mem _ h3⟩
theorem orcIt_ok {f:FuncId} {tab:List (Int × List Nat)} (hent:∀ args w,(callFunc f args).run P.toProgram w = .ok (.enter f args) w)
 (hc:∀ n s,(n,s)∈tab→∀ w:World,P.inv w→P.n0≤w.heap.size→∃ sb:ByteArray,bytesOf sb=s∧Calls P.toProgram f #[.int .i64 n] w fun e w'=>e = .returned (.string sb)∧Below w.heap.size w w') :
 OrcOk P (orcIt f tab):=by
 intro g args h v h' hr
 unfold orcIt at hr
 split at hr
 · rename_i hg
   have:=Nat.eq_of_beq_eq_true hg
   subst this
   split at hr
   · rename_i n
     obtain ⟨rfl,s,rfl,hm⟩:=lookI_mem hr
     refine known_str fun w hi hs vs j hvs=>?_
     obtain ⟨vl⟩:=vs
     cases hvs with
     | cons _ _ c1 cs1 g1 g2 =>
      cases g2
      cases g1
      exact ⟨hent _ _,hc n s hm w hi hs⟩
   · cases hr
 · cases hr
theorem lst0_real {v:Value} {j0:Inj} {cap:Option Nat} (h:VR j0 (.lst cap []) v):v = .slice none 0 0∨∃ a c,v = .slice (some a) 0 c:=by
 cases h with
 | lstE _ p c hex hp =>
  cases p with
  | none=>exact .inl (by rw [hp rfl])
  | some a=>exact .inr ⟨a,c,rfl⟩
 | lst _ _ b k c=>exact .inr ⟨_,_,rfl⟩
theorem knownV_nil {call:CallF} (hcall:CallsOk P call) {f:FuncId} {V:AV} (h1:isV V (valK H.zero [] (call (.fn f) [.nils] H.zero))=true) (h2:isV V (valK H.zero [] (call (.fn f) [.ne] H.zero))=true):KnownV P f [.lst (some 0) []] V:=by
 obtain ⟨ha,r1,n1⟩:=isV_eq h1
 obtain ⟨hb,r2,n2⟩:=isV_eq h2
 intro w j hR vs hvs
 have hc:convs (conv H.zero 9) [.lst (some 0) []]=some ([.lst (some 0) []],[]):=rfl
 have hreal:(∀ j1:Inj,VRs j1 [.nils] vs.toList)∨(∀ j1:Inj,VRs j1 [.ne] vs.toList):=by
  generalize vs.toList=us at hvs
  cases hvs with
  | cons _ _ c cs hx hn =>
   cases hn
   rcases lst0_real hx with rfl | ⟨a,n,rfl⟩
   · exact .inl fun j1=>.cons _ _ _ _ .nils .nil
   · exact .inr fun j1=>.cons _ _ _ _ (.ne a n) .nil
 have fin:∀ hz,hz.next=H.zero.next→((callFunc f vs).run P w = .ok (.enter f vs) w∧∀ n,CallsIn Fence.wide n P f vs w (RetPost P j H.zero w V hz))→(callFunc f vs).run P w = .ok (.enter f vs) w∧∀ n,CallsIn Fence.wide n P f vs w (RetPost P j H.zero w V H.zero):=by
  intro hz hn ⟨k1,k2⟩
  refine ⟨k1,fun n=>CallsIn.mono (k2 n) fun e w' ⟨g1,cv,g2,j',g3,g4,g5⟩=>⟨Nat.le_refl _,cv,g2,j',g3,?_⟩⟩
  rw [hn] at g4
  have hb:=blk_zero g4.none
  rw [hb] at g4 g5
  exact ⟨g4,g5⟩
 rcases hreal with hn | hn
 · exact fin ha n1 (byVal_core hcall hc r1 hR hvs fun j0 _=>hn j0)
 · exact fin hb n2 (byVal_core hcall hc r2 hR hvs fun j0 _=>hn j0)
theorem known_nil {f:FuncId} (hV:KnownV P f [.lst (some 0) []] (.lst (some 0) [])) (h:H):Known P f [.lst (some 0) []] h (.lst (some 0) []) h:=by
 intro w j hR vs hvs
 have hblk:∀ f,H.zero.blk f=none:=fun f=>T.get_nil f
 have hRz:RB P ⟨fun _=>none,fun _=>none,Sy.zero⟩ H.zero.blk H.zero.next.toN w:=⟨(fun f l h=>by cases h),(fun f b h=>by rw [hblk] at h; cases h),(fun f g lf lg ⟨b,h,_⟩=>by rw [hblk] at h; cases h),(fun f l ⟨b,h,_⟩=>by rw [hblk] at h; cases h),(fun b o h=>by cases h),hR.size,hR.inv⟩
 have e0:∀ {j1 j2:Inj} {c:Value},VR j1 (.lst (some 0) []) c→VR j2 (.lst (some 0) []) c:=by
  intro j1 j2 c hc
  cases hc with
  | lstE _ p c hex hp=>exact .lstE _ _ _ hex hp
  | lst _ _ b k capc sz cs e fz hfr hcap hex=>exact .lstE _ _ _ hex (by intro e; cases e)
 have hvs0:VRs ⟨fun _=>none,fun _=>none,Sy.zero⟩ [.lst (some 0) []] vs.toList:=by
  generalize vs.toList=us at hvs
  cases hvs with
  | cons _ _ c cs hx hn=>cases hn; exact .cons _ _ _ _ (e0 hx) .nil
 obtain ⟨k1,k2⟩:=hV w _ hRz vs hvs0
 refine ⟨k1,fun n=>CallsIn.mono (k2 n) fun e w' ⟨_,cv,g2,j',g3,g4,g5⟩=>⟨Nat.le_refl _,cv,g2,j,e0 g3,?_,?_⟩⟩
 · have hk:∀ b,b < w.heap.size→w'.heap[b]? = w.heap[b]?:=fun b hb=>g5.keep b hb fun f l ⟨b',hb',_⟩ _=>by rw [hblk] at hb'; cases hb'
   exact hR.other g5.size (fun b hb=>hk b (Nat.lt_of_lt_of_le hb hR.size)) (fun f l ⟨b,k1,k2⟩ hj=>by
    obtain ⟨l',q1,q2,_⟩:=hR.blk f b k1
    rw [hj] at q1; cases q1
    exact hk _ (q2 k2)) fun b o hb=>hk b (hR.ice_lt hb)
 · have hk:∀ b,b < w.heap.size→w'.heap[b]? = w.heap[b]?:=fun b hb=>g5.keep b hb fun f l ⟨b',hb',_⟩ _=>by rw [hblk] at hb'; cases hb'
   exact ⟨Inj.le_refl j,g5.size,fun b hb _=>hk b hb,fun f l hl hj=>.inr ⟨f,l,hl,hj,rfl⟩,g5.os,g5.output,g5.tape,fun _ h _=>h,fun _ h=>h,fun _ _ h=>.inl h⟩
def isL0:List AV→Bool
 | [.lst (some 0) []]=>true
 | _=>false
def orcNil (f:FuncId):Orc:=fun g args h=>match and (Nat.beq g f) (isL0 args) with
 | true=>some (.lst (some 0) [],h)
 | false=>none
theorem orcNil_ok {f:FuncId} (hV:KnownV P f [.lst (some 0) []] (.lst (some 0) [])):OrcOk P (orcNil f):=by
 intro g args h v h' hr
 unfold orcNil at hr
 split at hr
 · rename_i hb
   obtain ⟨h1,h2⟩:=and_true hb
   have:=Nat.eq_of_beq_eq_true h1
   subst this
   unfold isL0 at h2
   split at h2
   · cases hr; exact known_nil hV h
   · cases h2
 · cases hr
def runNil (call:CallK) (f:FuncId) (V:AV):Ans:=call (.fn f) [.nils] H.zero (fun v h=>Bool.rec .no (call (.fn f) [.ne] H.zero (endV V [])) (isV V (valK H.zero [] (.ok v h))))
theorem knownV_runNil (hm:P.follows .mixedOrders=true) (hname:∀ (f:FuncId) (fn:Func),P.funcs[f]? = some fn→fn.name≠ "runtime.NumGoroutine") {hint:FuncId→Option Hint} {has:FuncId→Bool} {orc:Orc} (ho:OrcOk P orc) {md:FuncId→Bool} {n:Nat} {f:FuncId} {V:AV}
 (hr:runNil (bRun hint (cF P) has orc md n) f V = .yes):KnownV P f [.lst (some 0) []] V:=by
 have hcd:=cdQ_ok hm hname (orcHas_ok (has:=has) ho) (md:=md) n
 rw [bRun_eq] at hr
 have hr:stepFS hint (cF P) (callS hint (cF P) has orc md n) n (.fn f) [.nils] H.zero (fun v h=>Bool.rec .no (callSJ hint (cF P) has orc md n (.fn f) [.ne] H.zero (endV V [])) (isV V (valK H.zero [] (.ok v h)))) = .yes:=hr
 obtain ⟨m1,v1,h1,k1,k2⟩:=stepFS_ok (callS_ok hint (cF P) has orc md n) hr
 cases hv:isV V (valK H.zero [] (.ok v1 h1)) with
 | false=>rw [hv] at k2; cases k2
 | true =>
  rw [hv] at k2
  have k2:stepFS hint (cF P) (callS hint (cF P) has orc md n) n (.fn f) [.ne] H.zero (endV V []) = .yes:=k2
  obtain ⟨m2,v2,h2,k3,k4⟩:=stepFS_ok (callS_ok hint (cF P) has orc md n) k2
  have hlim:=limF_calls hm hname hcd
  refine knownV_nil (call:=limF (cF P) (cdQ (cF P) (orcHas has orc) md n)) hlim ?_ ?_
  · rw [limF_ok k1]; exact hv
  · rw [limF_ok k3]
    unfold endV at k4
    cases hw:isV V (valK H.zero [] (.ok v2 h2)) with
    | false=>rw [hw] at k4; cases k4
    | true=>rfl
end
end Go.Ev
namespace Go.Ev
open Go.RowKit
variable {P:Env}
def Frz (w:World) (v:AV) (c:Value):Prop:=∃ j:Inj,VR j v c∧∀ b o,j.fro b=some o→w.heap[b]? = some o
theorem Frz.lst {w:World} {cap:Option Nat} {x:AV} {xs:List AV} {c:Value} (h:Frz w (.lst cap (x :: xs)) c) :
 ∃ b k capc,c = .slice (some ⟨b,k,none⟩) (xs.length+1) capc∧xs.length+1≤capc∧∀ i v,(cellsOf (x :: xs))[i]? = some v→∃ cv,w.cell? ⟨b,k+i,none⟩=some cv∧Frz w v cv:=by
 obtain ⟨j,h,hf⟩:=h
 generalize hl:x :: xs=l at h
 cases h with
 | lstE=>cases hl
 | lst _ _ b k capc sz cs e fz hfr hcap hex hsz hk hv =>
  subst hl
  refine ⟨b,k,capc,rfl,hcap,fun i v hi=>?_⟩
  obtain ⟨cv,h1,h2⟩:=hv.get hi
  refine ⟨cv,?_,j,h2,hf⟩
  have hb:=hf b _ hfr
  have h3:cs[k+i]? = some cv:=by
   rw [Array.getElem?_toList,Array.getElem?_extract] at h1
   split at h1
   · exact h1
   · cases h1
  unfold World.cell?
  simp only [hb]
  simpa using h3
theorem Frz.str {w:World} {s:List Nat} {c:Value} (h:Frz w (.str s) c):∃ sb,c = .string sb∧bytesOf sb=s:=by
 obtain ⟨j,h,_⟩:=h
 cases h with
 | str sb=>exact ⟨sb,rfl,rfl⟩
theorem Frz.int {w:World} {k:IntKind} {n:Int} {c:Value} (h:Frz w (.int k n) c):c = .int k n:=by
 obtain ⟨j,h,_⟩:=h
 cases h; rfl
theorem Frz.bool {w:World} {b:Bool} {c:Value} (h:Frz w (.bool b) c):c = .bool b:=by
 obtain ⟨j,h,_⟩:=h
 cases h; rfl
theorem Frz.tup {w:World} {vs:List AV} {c:Value} (h:Frz w (.tup vs) c):∃ cs:Array Value,c = .tuple cs∧cs.size=vs.length∧∀ (i:Nat) (v:AV),vs[i]? = some v→∃ cv,cs[i]? = some cv∧Frz w v cv:=by
 obtain ⟨j,h,hf⟩:=h
 cases h with
 | tup _ cs hv =>
  refine ⟨cs,rfl,by have:=hv.length; simpa using this,fun i v hi=>?_⟩
  obtain ⟨cv,h1,h2⟩:=hv.get hi
  exact ⟨cv,by simpa using h1,j,h2,hf⟩
theorem Frz.below {w w':World} {v:AV} {c:Value} (h:Frz w v c) (hB:Below w.heap.size w w'):Frz w' v c:=by
 obtain ⟨j,h1,h2⟩:=h
 refine ⟨j,h1,fun b o hb=>?_⟩
 have h3:=h2 b o hb
 have hlt:b < w.heap.size:=(Array.getElem?_eq_some_iff.1 h3).1
 rw [hB.block b hlt]; exact h3
theorem calls_of_known {f:FuncId} {args:List AV} {V:AV} (hV:KnownV P f args V) {vs:Array Value} (hvs:VRs ⟨fun _=>none,fun _=>none,Sy.zero⟩ args vs.toList) {w:World} (hi:P.inv w) (hs:P.n0≤w.heap.size) :
 (callFunc f vs).run P w = .ok (.enter f vs) w∧Calls P.toProgram f vs w fun e w'=>∃ cv,e = .returned cv∧Frz w' V cv∧Below w.heap.size w w'∧P.inv w':=by
 have hblk:∀ f,H.zero.blk f=none:=fun f=>T.get_nil f
 have hRz:RB P ⟨fun _=>none,fun _=>none,Sy.zero⟩ H.zero.blk H.zero.next.toN w:=⟨(fun f l h=>by cases h),(fun f b h=>by rw [hblk] at h; cases h),(fun f g lf lg ⟨b,h,_⟩=>by rw [hblk] at h; cases h),(fun f l ⟨b,h,_⟩=>by rw [hblk] at h; cases h),(fun b o h=>by cases h),hs,hi⟩
 obtain ⟨k1,k2⟩:=hV w _ hRz vs hvs
 refine ⟨k1,(callsIn_wide.1 (k2 0)).mono fun e w' ⟨_,cv,g2,j',g3,g4,g5⟩=>⟨cv,g2,⟨j',g3,fun b o hb=>(g4.ice b o hb).1⟩,⟨g5.os,g5.tape,g5.output,g5.size,fun b hb=>g5.keep b hb fun f l ⟨b',hb',_⟩ _=>by rw [hblk] at hb'; cases hb'⟩,g4.inv⟩⟩
end Go.Ev
namespace Go.Ev
open Go.RowKit
variable {P:Env}
mutual
inductive Ice:AV→Prop
 | bool (b:Bool):Ice (.bool b)
 | int (k:IntKind) (n:Int):Ice (.int k n)
 | str (s:List Nat):Ice (.str s)
 | nils:Ice .nils
 | agg (cs:List AV) (h:Ices cs):Ice (.agg cs)
 | tup (cs:List AV) (h:Ices cs):Ice (.tup cs)
 | lst (cap:Option Nat) (cs:List AV) (h:Ices cs):Ice (.lst cap cs)
inductive Ices:List AV→Prop
 | nil:Ices []
 | cons (v:AV) (vs:List AV) (h:Ice v) (hs:Ices vs):Ices (v :: vs)
end
theorem Ices.get:∀ {cs:List AV},Ices cs→∀ v∈cs,Ice v
 | _,.nil,v,hv=>by cases hv
 | _,.cons _ _ h hs,v,hv=>by
  rcases List.mem_cons.1 hv with rfl | hv
  · exact h
  · exact hs.get v hv
theorem Ices.of:∀ {cs:List AV},(∀ v∈cs,Ice v)→Ices cs
 | [],_=>.nil
 | v :: vs,h=>.cons v vs (h v List.mem_cons_self) (Ices.of fun x hx=>h x (List.mem_cons_of_mem _ hx))
theorem Ices.cells {cs:List AV} (h:Ices cs):Ices (cellsOf cs):=by
 refine Ices.of fun v hv=>?_
 simp only [cellsOf,List.mem_flatMap] at hv
 obtain ⟨x,hx,hv⟩:=hv
 have hi:=h.get x hx
 cases hi with
 | agg cs h'=>exact h'.get v hv
 | bool b=>simp only [AV.cells,List.mem_singleton] at hv; subst hv; exact .bool b
 | int k n=>simp only [AV.cells,List.mem_singleton] at hv; subst hv; exact .int k n
 | str s=>simp only [AV.cells,List.mem_singleton] at hv; subst hv; exact .str s
 | nils=>simp only [AV.cells,List.mem_singleton] at hv; subst hv; exact .nils
 | tup cs h'=>simp only [AV.cells,List.mem_singleton] at hv; subst hv; exact .tup cs h'
 | lst cap cs h'=>simp only [AV.cells,List.mem_singleton] at hv; subst hv; exact .lst cap cs h'
def iceB:Nat→AV→Bool
 | 0,_=>false
 | n+1,v=>match v with
  | .bool _=>true
  | .int _ _=>true
  | .str _=>true
  | .nils=>true
  | .agg cs=>cs.all (iceB n)
  | .tup cs=>cs.all (iceB n)
  | .lst _ cs=>cs.all (iceB n)
  | _=>false
theorem ice_of:∀ (n:Nat) (v:AV),iceB n v=true→Ice v
 | 0,_,h=>by cases h
 | n+1,v,h=>by
  unfold iceB at h
  split at h
  · exact .bool _
  · exact .int _ _
  · exact .str _
  · exact .nils
  · exact .agg _ (Ices.of fun x hx=>ice_of n x (List.all_eq_true.1 h x hx))
  · exact .tup _ (Ices.of fun x hx=>ice_of n x (List.all_eq_true.1 h x hx))
  · exact .lst _ _ (Ices.of fun x hx=>ice_of n x (List.all_eq_true.1 h x hx))
  · cases h
section
variable {j j':Inj} (hf:∀ b o,j.fro b=some o→j'.fro b=some o)
include hf
mutual
theorem VR.ice:∀ {v:AV} {c:Value},VR j v c→Ice v→VR j' v c
 | _,_,.bool b,_=>.bool b
 | _,_,.int k n,_=>.int k n
 | _,_,.str s,_=>.str s
 | _,_,.nils,_=>.nils
 | _,_,.agg cs vs h,hi=>.agg cs vs (VRs.ice h (by cases hi; assumption))
 | _,_,.tup cs vs h,hi=>.tup cs vs (VRs.ice h (by cases hi; assumption))
 | _,_,.lstE cap p capc hex hp,_=>.lstE cap p capc hex hp
 | _,_,.lst cap xs b k capc sz cs e fz hfr hcap hex hsz hk hv,hi=>.lst cap xs b k capc sz cs e fz (hf _ _ hfr) hcap hex hsz hk (VRs.ice hv (Ices.cells (by cases hi; assumption)))
 | _,_,.junk _,hi=>by cases hi
 | _,_,.nilp,hi=>by cases hi
 | _,_,.ptr ..,hi=>by cases hi
 | _,_,.sl ..,hi=>by cases hi
 | _,_,.nilm,hi=>by cases hi
 | _,_,.map ..,hi=>by cases hi
 | _,_,.nilf,hi=>by cases hi
 | _,_,.fn ..,hi=>by cases hi
 | _,_,.yld ..,hi=>by cases hi
 | _,_,.nili,hi=>by cases hi
 | _,_,.ifc ..,hi=>by cases hi
 | _,_,.lp ..,hi=>by cases hi
 | _,_,.fm ..,hi=>by cases hi
 | _,_,.ne ..,hi=>by cases hi
 | _,_,.sym ..,hi=>by cases hi
 | _,_,.tx ..,hi=>by cases hi
theorem VRs.ice:∀ {vs:List AV} {cs:List Value},VRs j vs cs→Ices vs→VRs j' vs cs
 | _,_,.nil,_=>have _:=hf; .nil
 | _,_,.cons v vs c cs h hs,hi=>.cons v vs c cs (VR.ice h (by cases hi; assumption)) (VRs.ice hs (by cases hi; assumption))
end
end
def Frs (w:World) (v:AV) (c:Value):Prop:=∃ j:Inj,VR j v c∧∀ b o,j.fro b=some o→w.heap[b]? = some o∧IsFro o
theorem Frs.frz {w:World} {v:AV} {c:Value} (h:Frs w v c):Frz w v c:=let ⟨j,h1,h2⟩:=h; ⟨j,h1,fun b o hb=>(h2 b o hb).1⟩
theorem Frs.below {w w':World} {v:AV} {c:Value} (h:Frs w v c) (hB:Below w.heap.size w w'):Frs w' v c:=by
 obtain ⟨j,h1,h2⟩:=h
 refine ⟨j,h1,fun b o hb=>?_⟩
 obtain ⟨h3,h4⟩:=h2 b o hb
 have hlt:b < w.heap.size:=(Array.getElem?_eq_some_iff.1 h3).1
 exact ⟨by rw [hB.block b hlt]; exact h3,h4⟩
open Classical in
noncomputable def froOf (w:World):Inj:=⟨fun _=>none,fun b=>if (∃ o,w.heap[b]? = some o∧IsFro o) then w.heap[b]? else none,Sy.zero⟩
open Classical in
theorem froOf_of {w:World} {b:Nat} {o:Obj} (h1:w.heap[b]? = some o) (h2:IsFro o):(froOf w).fro b=some o:=by
 show (if _ then _ else _)=_
 rw [if_pos ⟨o,h1,h2⟩]; exact h1
open Classical in
theorem of_froOf {w:World} {b:Nat} {o:Obj} (h:(froOf w).fro b=some o):w.heap[b]? = some o∧IsFro o:=by
 have h:(if (∃ o,w.heap[b]? = some o∧IsFro o) then w.heap[b]? else none)=some o:=h
 split at h
 · rename_i hx
   obtain ⟨o',h1,h2⟩:=hx
   rw [h1] at h; cases h
   exact ⟨h1,h2⟩
 · cases h
theorem Frs.vr {w:World} {v:AV} {c:Value} (h:Frs w v c) (hi:Ice v):VR (froOf w) v c:=by
 obtain ⟨j,h,hf⟩:=h
 exact h.ice (fun b o hb=>froOf_of (hf b o hb).1 (hf b o hb).2) hi
theorem calls_of_known2 {f:FuncId} {args:List AV} {V:AV} (hV:KnownV P f args V) {vs:Array Value} {w:World} (hvs:VRs (froOf w) args vs.toList) (hi:P.inv w) (hs:P.n0≤w.heap.size) :
 (callFunc f vs).run P w = .ok (.enter f vs) w∧Calls P.toProgram f vs w fun e w'=>∃ cv,e = .returned cv∧Frs w' V cv∧Below w.heap.size w w'∧P.inv w':=by
 have hblk:∀ f,H.zero.blk f=none:=fun f=>T.get_nil f
 have hnl:∀ f,¬ Live H.zero.blk f:=fun f ⟨b,h,_⟩=>by rw [hblk] at h; cases h
 have hRz:RB P (froOf w) H.zero.blk H.zero.next.toN w :=
  ⟨(fun f l h=>by cases h),(fun f b h=>by rw [hblk] at h; cases h),(fun f g lf lg h=>absurd h (hnl f)),(fun f l h=>absurd h (hnl f)),(fun b o h=>⟨(of_froOf h).1,(of_froOf h).2,fun f l h=>absurd h (hnl f)⟩),hs,hi⟩
 obtain ⟨k1,k2⟩:=hV w _ hRz vs hvs
 refine ⟨k1,(callsIn_wide.1 (k2 0)).mono fun e w' ⟨_,cv,g2,j',g3,g4,g5⟩=>⟨cv,g2,⟨j',g3,fun b o hb=>⟨(g4.ice b o hb).1,(g4.ice b o hb).2.1⟩⟩,⟨g5.os,g5.tape,g5.output,g5.size,fun b hb=>g5.keep b hb fun f l h _=>absurd h (hnl f)⟩,g4.inv⟩⟩
theorem vr_strs {w:World} {b k capc:Nat} {cur:Array Value} {e:TypeId} {fz:Nat × Nat} (l:List ByteArray) (hb:w.heap[b]? = some (.cells cur e fz)) (hcap:l.length≤capc)
 (hv:∀ i,i < l.length→cur[k+i]? = some (.string (l.getD i ByteArray.empty))):VR (froOf w) (.lst none (l.map fun s=>.str (bytesOf s))) (.slice (some ⟨b,k,none⟩) l.length capc):=by
 have key:VRs (froOf w) (cellsOf (l.map fun s=>AV.str (bytesOf s))) (cur.extract k (k+l.length)).toList:=by
  have h1:cellsOf (l.map fun s=>AV.str (bytesOf s))=l.map fun s=>AV.str (bytesOf s):=by
   unfold cellsOf
   rw [List.flatMap_map]
   clear hcap hv
   induction l with
   | nil=>rfl
   | cons x xs ih=>simp only [List.flatMap_cons,List.map_cons,ih]; rfl
  have h2:(cur.extract k (k+l.length)).toList=l.map Value.string:=by
   apply List.ext_getElem?
   intro i
   rw [Array.getElem?_toList,Array.getElem?_extract,List.getElem?_map]
   by_cases hi:i < l.length
   · rw [if_pos (by have:=hv i hi; have:=(Array.getElem?_eq_some_iff.1 this).1; omega),hv i hi,List.getD_eq_getElem?_getD,List.getElem?_eq_getElem hi]; rfl
   · rw [List.getElem?_eq_none (by omega)]
     split
     · omega
     · rfl
  rw [h1,h2]
  clear h1 h2 hv hcap
  induction l with
  | nil=>exact .nil
  | cons x xs ih=>exact .cons _ _ _ _ (.str x) ih
 have hsz:∀ x∈(l.map fun s=>AV.str (bytesOf s)),x.cells.length=1:=by
  intro x hx
  obtain ⟨s,_,rfl⟩:=List.mem_map.1 hx
  rfl
 have hk:k+l.length * 1≤cur.size∨l = []:=by
  by_cases h0:l = []
  · exact .inr h0
  · have:=hv (l.length - 1) (by have:=List.length_pos_iff.2 h0; omega)
    have:=(Array.getElem?_eq_some_iff.1 this).1
    left; have:=List.length_pos_iff.2 h0; omega
 rcases hk with hk | rfl
 · have:=VR.lst (j:=froOf w) none (l.map fun s=>AV.str (bytesOf s)) b k capc 1 cur e fz (froOf_of hb (.inl ⟨_,_,_,rfl⟩)) (by simpa using hcap) (fun c h=>by cases h) hsz (by simpa using hk) (by simpa using key)
   simpa using this
 · exact .lstE none _ _ (fun c h=>by cases h) (fun h=>by cases h)
end Go.Ev
namespace Go.Ev
open Go.Proofs Go.Shelf Go.RowKit
theorem var_of_heap {P:Program} {name:String} {g:Nat} (hg:P.globalNamed name=some g) {w w':World} (h:w'.heap[g]? = w.heap[g]?):w'.var? P name=w.var? P name:=by
 unfold World.var?
 rw [hg]
 simp only [Option.bind_some]
 rw [h]
noncomputable def Env.tab (P:Program) (name:String) (g:Nat) (hg:P.globalNamed name=some g) (k:IntKind) (zs:List Int):Env :=
 { P with n0:=g+1,inv:=fun w=>Lib.TabIs P w name k zs,stable:=fun w w' h hT=>by unfold Lib.TabIs at *; rw [var_of_heap hg (h g (Nat.lt_succ_self g))]; exact hT }
theorem tab_size {P:Program} {name:String} {g:Nat} (hg:P.globalNamed name=some g) {k:IntKind} {zs:List Int} {w:World} (h:Lib.TabIs P w name k zs):g+1≤w.heap.size:=by
 unfold Lib.TabIs World.var? at h
 rw [hg] at h
 simp only [Option.bind_some] at h
 by_cases hs:g < w.heap.size
 · exact hs
 · rw [show w.heap[g]? = none from Array.getElem?_eq_none (by omega)] at h
   cases h
end Go.Ev
namespace Go.Ev
open Go.Proofs Go.RowKit
theorem laid_at {P:Program} {w:World} {n:String} {d:DataW Unit}:∀ {l:List (String × DataW Unit)} {ps:List MemPlace},DataW.LaidVars P w l ps→(n,d)∈l →
 ∃ g t cs fuel p,P.globalNamed n=some g∧(P.globals[g]?).map (·.type)=some t∧w.var? P n=some cs∧DataW.trod (fun _=>()) P w 0 (fun _=>true) false fuel t cs.toList=some (d,p)
 | [],_,_,h=>by cases h
 | (n',d') :: r,ps,h,hm=>by
  obtain ⟨g,t,cs,fuel,p,q,h1,h2,h3,h4,h5,_⟩:=h
  rcases List.mem_cons.1 hm with he | hm
  · cases he
    exact ⟨g,t,cs,fuel,p,h1,h2,h3,h4⟩
  · exact laid_at h5 hm
theorem laid_of_H {P:Program} {w:World} {laid:List (String × DataW Unit)} {n:String} {d:DataW Unit} (h:laidMetH P laid w) (hm:(n,d)∈laid) (hd:d.handleName?.isNone=true) :
 ∃ l ps,DataW.LaidVars P w l ps∧(n,d)∈l:=by
 unfold laidMetH at h
 split at h
 · obtain ⟨ps,h,_⟩:=h
   exact ⟨_,_,h,hm⟩
 · obtain ⟨⟨ps,h,_⟩,_⟩:=h
   exact ⟨_,_,h,List.mem_filter.2 ⟨hm,hd⟩⟩
theorem tab_of_laid {P:Program} {w:World} {name:String} {k:IntKind} {zs:List Int} {laid:List (String × DataW Unit)} {g:Nat} {t e:TypeId} {n:Nat}
 (hg:P.globalNamed name=some g) (hty:(P.globals[g]?).map (·.type)=some t) (ht:P.underlying t=some (.array n e)) (he:P.underlying e=some (.int k)) (hce:P.cellsOf e=1) (hct:P.cellsOf t=n)
 (h:laidMetH P laid w) (hm:(name,Lib.tabData k zs)∈laid) (hd:(Lib.tabData k zs:DataW Unit).handleName?.isNone=true):Lib.TabIs P w name k zs:=by
 obtain ⟨l,ps,h1,h2⟩:=laid_of_H h hm hd
 obtain ⟨g',t',cs,fuel,p,hg',ht',hvar,hd'⟩:=laid_at h1 h2
 obtain rfl:=Option.some.inj (hg.symm.trans hg')
 obtain rfl:=Option.some.inj (hty.symm.trans ht')
 unfold Lib.TabIs
 rw [hvar,← Lib.cells_of_tab ht he hce hct hd']
end Go.Ev
namespace Go.Ev
open Go.Proofs Go.RowKit
variable {P:Env}
noncomputable def froS (s:Sy) (w:World):Inj:=⟨fun _=>none,(froOf w).fro,s⟩
def FrsS (s:Sy) (w:World) (v:AV) (c:Value):Prop:=∃ j:Inj,j.sy=s∧VR j v c∧∀ b o,j.fro b=some o→w.heap[b]? = some o∧IsFro o
theorem FrsS.int {s:Sy} {w:World} {k:IntKind} {n:Int} {c:Value} (h:FrsS s w (.int k n) c):c = .int k n:=by
 obtain ⟨j,rfl,h,_⟩:=h
 cases h; rfl
theorem FrsS.tup {s:Sy} {w:World} {vs:List AV} {c:Value} (h:FrsS s w (.tup vs) c):∃ cs:Array Value,c = .tuple cs∧cs.size=vs.length∧∀ (i:Nat) (v:AV),vs[i]? = some v→∃ cv,cs[i]? = some cv∧FrsS s w v cv:=by
 obtain ⟨j,hj,h,hf⟩:=h
 cases h with
 | tup _ cs hv =>
  refine ⟨cs,rfl,by have:=hv.length; simpa using this,fun i v hi=>?_⟩
  obtain ⟨cv,h1,h2⟩:=hv.get hi
  exact ⟨cv,by simpa using h1,j,hj,h2,hf⟩
theorem FrsS.below {s:Sy} {w w':World} {v:AV} {c:Value} (h:FrsS s w v c) (hB:Below w.heap.size w w'):FrsS s w' v c:=by
 obtain ⟨j,hj,h1,h2⟩:=h
 refine ⟨j,hj,h1,fun b o hb=>?_⟩
 obtain ⟨h3,h4⟩:=h2 b o hb
 have hlt:b < w.heap.size:=(Array.getElem?_eq_some_iff.1 h3).1
 exact ⟨by rw [hB.block b hlt]; exact h3,h4⟩
theorem FrsS.vr {s:Sy} {w:World} {v:AV} {c:Value} (h:FrsS s w v c) (hp:pureAV v=true):VR (froS s w) v c:=by
 obtain ⟨j,hj,h1,h2⟩:=h
 exact VR.pure (j':=froS s w) (fun b o hb=>froOf_of (h2 b o hb).1 (h2 b o hb).2) hj.symm h1 hp
theorem calls_of_sym (s:Sy) {f:FuncId} {args:List AV} {V:AV} (hV:KnownV P f args V) {vs:Array Value} {w:World} (hvs:VRs (froS s w) args vs.toList) (hi:P.inv w) (hs:P.n0≤w.heap.size) :
 (callFunc f vs).run P w = .ok (.enter f vs) w∧Calls P.toProgram f vs w fun e w'=>∃ cv,e = .returned cv∧FrsS s w' V cv∧Below w.heap.size w w'∧P.inv w':=by
 have hblk:∀ f,H.zero.blk f=none:=fun f=>T.get_nil f
 have hnl:∀ f,¬ Live H.zero.blk f:=fun f ⟨b,h,_⟩=>by rw [hblk] at h; cases h
 have hRz:RB P (froS s w) H.zero.blk H.zero.next.toN w :=
  ⟨(fun f l h=>by cases h),(fun f b h=>by rw [hblk] at h; cases h),(fun f g lf lg h=>absurd h (hnl f)),(fun f l h=>absurd h (hnl f)),(fun b o h=>⟨(of_froOf h).1,(of_froOf h).2,fun f l h=>absurd h (hnl f)⟩),hs,hi⟩
 obtain ⟨k1,k2⟩:=hV w _ hRz vs hvs
 refine ⟨k1,(callsIn_wide.1 (k2 0)).mono fun e w' ⟨_,cv,g2,j',g3,g4,g5⟩=>⟨cv,g2,⟨j',g5.le.sy,g3,fun b o hb=>⟨(g4.ice b o hb).1,(g4.ice b o hb).2.1⟩⟩,⟨g5.os,g5.tape,g5.output,g5.size,fun b hb=>g5.keep b hb fun f l h _=>absurd h (hnl f)⟩,g4.inv⟩⟩
noncomputable section
def runV (call:CallK) (f:FuncId) (args:List AV) (k:AV→Ans):Ans :=
 Option.rec (motive:=fun _=>Ans) .no (fun p=>Prod.rec (motive:=fun _=>Ans) (fun args' ps=>call (.fn f) args' H.zero (fun v h=>RC.rec (motive:=fun _=>Ans) (fun v h=>Bool.rec (motive:=fun _=>Ans) .no (Bool.rec (motive:=fun _=>Ans) .no (k v) (pureAV v)) (isZ h)) .no (valK H.zero ps (.ok v h)))) p) (convs (conv H.zero 9) args)
theorem knownV_of' {call:CallF} (hcall:CallsOk P call) {f:FuncId} {args:List AV} {V:AV} {h':H} (hr:byVal call f H.zero (convs (conv H.zero 9) args) = .ok V h') (hn:h'.next=H.zero.next):KnownV P f args V:=by
 intro w j hR vs hvs
 obtain ⟨k1,k2⟩:=byVal_ok hcall hr hR hvs
 refine ⟨k1,fun n=>CallsIn.mono (k2 n) fun e w' ⟨g1,cv,g2,j',g3,g4,g5⟩=>⟨Nat.le_refl _,cv,g2,j',g3,?_⟩⟩
 rw [hn] at g4
 have hb:=blk_zero g4.none
 rw [hb] at g4 g5
 exact ⟨g4,g5⟩
theorem runV_ok (hm:P.follows .mixedOrders=true) (hname:∀ (f:FuncId) (fn:Func),P.funcs[f]? = some fn→fn.name≠ "runtime.NumGoroutine") {hint:FuncId→Option Hint} {has:FuncId→Bool} {orc:Orc} (ho:OrcOk P orc) {md:FuncId→Bool} {n:Nat} {f:FuncId} {args:List AV} {k:AV→Ans}
 (hr:runV (bRun hint (cF P) has orc md n) f args k = .yes):∃ V,KnownV P f args V∧pureAV V=true∧k V = .yes:=by
 have hcd:=cdQ_ok hm hname (orcHas_ok (has:=has) ho) (md:=md) n
 unfold runV at hr
 cases hcv:convs (conv H.zero 9) args with
 | none=>rw [hcv] at hr; cases hr
 | some p =>
  obtain ⟨args',ps⟩:=p
  rw [hcv,bRun_eq] at hr
  have hr:stepFS hint (cF P) (callS hint (cF P) has orc md n) n (.fn f) args' H.zero (fun v h=>RC.rec (motive:=fun _=>Ans) (fun v h=>Bool.rec (motive:=fun _=>Ans) .no (Bool.rec (motive:=fun _=>Ans) .no (k v) (pureAV v)) (isZ h)) .no (valK H.zero ps (.ok v h))) = .yes:=hr
  obtain ⟨m,v,h',k1,k2⟩:=stepFS_ok (callS_ok hint (cF P) has orc md n) hr
  cases hv:valK H.zero ps (.ok v h') with
  | fail=>rw [hv] at k2; cases k2
  | ok V h2 =>
   rw [hv] at k2
   have k2:Bool.rec (motive:=fun _=>Ans) .no (Bool.rec (motive:=fun _=>Ans) .no (k V) (pureAV V)) (isZ h2) = .yes:=k2
   cases hz:isZ h2 with
   | false=>rw [hz] at k2; cases k2
   | true =>
    rw [hz] at k2
    have k2:Bool.rec (motive:=fun _=>Ans) .no (k V) (pureAV V) = .yes:=k2
    cases hp:pureAV V with
    | false=>rw [hp] at k2; cases k2
    | true =>
     rw [hp] at k2
     refine ⟨V,knownV_of' (call:=stepF (cF P) (runCC (cdQ (cF P) (orcHas has orc) md n) m)) (h':=h2) (runJ_ok' hm hname hcd m) ?_ (isZ_next hz),hp,k2⟩
     rw [hcv]
     show valK H.zero ps (stepF (cF P) (runCC (cdQ (cF P) (orcHas has orc) md n) m) (.fn f) args' H.zero)=_
     rw [k1]; exact hv
def forceL (s:List Nat) (k:List Nat→Ans):Ans:=List.rec (motive:=fun _=>(List Nat→Ans)→Ans) (fun k=>k []) (fun a _ ih k=>forceK a fun a=>ih fun s=>k (a :: s)) s k
theorem forceL_eq (s:List Nat):∀ k,forceL s k=k s:=by
 induction s with
 | nil=>intro k; rfl
 | cons a s ih =>
  intro k
  show forceK a (fun a=>forceL s fun s=>k (a :: s))=_
  rw [forceK_eq,ih]
def forceV (v:AV) (k:AV→Ans):Ans:=AV.rec (motive_1:=fun _=>(AV→Ans)→Ans) (motive_2:=fun _=>(List AV→Ans)→Ans) (fun k=>k .junk) (fun b k=>forceB b fun b=>k (.bool b)) (fun d n k=>forceI n fun n=>k (.int d n)) (fun s k=>forceL s fun s=>k (.str s)) (fun k=>k .nilp) (fun f o k=>k (.ptr f o)) (fun k=>k .nils) (fun f o l c e z k=>k (.sl f o l c e z)) (fun k=>k .nilm) (fun f k=>k (.map f)) (fun k=>k .nilf) (fun f a b _ _ k=>k (.fn f a b)) (fun l k=>k (.yld l)) (fun k=>k .nili) (fun t _ ih k=>ih fun v=>k (.ifc t v)) (fun _ ih k=>ih fun cs=>k (.agg cs)) (fun _ ih k=>ih fun cs=>k (.tup cs)) (fun c _ ih k=>ih fun cs=>k (.lst c cs)) (fun _ ih k=>ih fun cs=>k (.lp cs)) (fun _ _ ih ih2 k=>ih fun ks=>ih2 fun vs=>k (.fm ks vs)) (fun k=>k .ne) (fun n k=>forceK n fun n=>k (.sym n)) (fun l k=>forceL l fun l=>k (.tx l)) (fun k=>k []) (fun _ _ ih ih2 k=>ih fun v=>ih2 fun vs=>k (v :: vs)) v k
def forceVs (vs:List AV) (k:List AV→Ans):Ans:=AV.rec_1 (motive_1:=fun _=>(AV→Ans)→Ans) (motive_2:=fun _=>(List AV→Ans)→Ans) (fun k=>k .junk) (fun b k=>forceB b fun b=>k (.bool b)) (fun d n k=>forceI n fun n=>k (.int d n)) (fun s k=>forceL s fun s=>k (.str s)) (fun k=>k .nilp) (fun f o k=>k (.ptr f o)) (fun k=>k .nils) (fun f o l c e z k=>k (.sl f o l c e z)) (fun k=>k .nilm) (fun f k=>k (.map f)) (fun k=>k .nilf) (fun f a b _ _ k=>k (.fn f a b)) (fun l k=>k (.yld l)) (fun k=>k .nili) (fun t _ ih k=>ih fun v=>k (.ifc t v)) (fun _ ih k=>ih fun cs=>k (.agg cs)) (fun _ ih k=>ih fun cs=>k (.tup cs)) (fun c _ ih k=>ih fun cs=>k (.lst c cs)) (fun _ ih k=>ih fun cs=>k (.lp cs)) (fun _ _ ih ih2 k=>ih fun ks=>ih2 fun vs=>k (.fm ks vs)) (fun k=>k .ne) (fun n k=>forceK n fun n=>k (.sym n)) (fun l k=>forceL l fun l=>k (.tx l)) (fun k=>k []) (fun _ _ ih ih2 k=>ih fun v=>ih2 fun vs=>k (v :: vs)) vs k
mutual
theorem forceV_eq:∀ (v:AV) (k:AV→Ans),forceV v k=k v
 | .junk,_=>rfl
 | .bool b,k=>forceB_eq b (fun b=>k (.bool b))
 | .int d n,k=>forceI_eq n (fun n=>k (.int d n))
 | .str s,k=>forceL_eq s (fun s=>k (.str s))
 | .nilp,_=>rfl
 | .ptr _ _,_=>rfl
 | .nils,_=>rfl
 | .sl _ _ _ _ _ _,_=>rfl
 | .nilm,_=>rfl
 | .map _,_=>rfl
 | .nilf,_=>rfl
 | .fn _ _ _,_=>rfl
 | .yld _,_=>rfl
 | .nili,_=>rfl
 | .ifc t v,k=>forceV_eq v (fun v=>k (.ifc t v))
 | .agg cs,k=>forceVs_eq cs (fun cs=>k (.agg cs))
 | .tup cs,k=>forceVs_eq cs (fun cs=>k (.tup cs))
 | .lst c cs,k=>forceVs_eq cs (fun cs=>k (.lst c cs))
 | .lp cs,k=>forceVs_eq cs (fun cs=>k (.lp cs))
 | .fm ks vs,k=>(forceVs_eq ks (fun ks=>forceVs vs fun vs=>k (.fm ks vs))).trans (forceVs_eq vs (fun vs=>k (.fm ks vs)))
 | .ne,_=>rfl
 | .sym n,k=>forceK_eq n (fun n=>k (.sym n))
 | .tx l,k=>forceL_eq l (fun l=>k (.tx l))
theorem forceVs_eq:∀ (vs:List AV) (k:List AV→Ans),forceVs vs k=k vs
 | [],_=>rfl
 | v :: vs,k=>(forceV_eq v (fun v=>forceVs vs fun vs=>k (v :: vs))).trans (forceVs_eq vs (fun vs=>k (v :: vs)))
end
def nth3 (v:AV) (k:AV→Ans):Ans:=match v with
 | .tup [t,_,.int .i64 n]=>Bool.rec (motive:=fun _=>Ans) .no (k t) (ibeq n 0)
 | _=>.no
theorem nth3_ok {v:AV} {k:AV→Ans} (h:nth3 v k = .yes):∃ t x,v = .tup [t,x,.int .i64 0]∧k t = .yes:=by
 unfold nth3 at h
 split at h
 · rename_i t x n
   cases hb:ibeq n 0 with
   | false=>rw [hb] at h; cases h
   | true =>
    rw [hb] at h
    have hn:n=0:=by rw [ibeq_eq] at hb; simpa using hb
    exact ⟨t,x,by rw [hn],h⟩
 · cases h
def nth2 (v:AV) (k:Ans):Ans:=match v with
 | .tup [_,.int .i64 n]=>Bool.rec (motive:=fun _=>Ans) .no k (ibeq n 0)
 | _=>.no
theorem nth2_ok {v:AV} {k:Ans} (h:nth2 v k = .yes):∃ x,v = .tup [x,.int .i64 0]∧k = .yes:=by
 unfold nth2 at h
 split at h
 · rename_i x n
   cases hb:ibeq n 0 with
   | false=>rw [hb] at h; cases h
   | true =>
    rw [hb] at h
    have hn:n=0:=by rw [ibeq_eq] at hb; simpa using hb
    exact ⟨x,by rw [hn],h⟩
 · cases h
def isSl (v:AV):Bool:=match v with
 | .lst _ _=>true
 | .nils=>true
 | _=>false
def shpT (v:AV):Bool:=match v with
 | .agg [x,y]=>and (isSl x) (isSl y)
 | _=>false
theorem isSl_ok {j:Inj} {v:AV} {c:Value} (h:VR j v c) (hs:isSl v=true):∃ p n k,c = .slice p n k:=by
 unfold isSl at hs
 split at hs
 · cases h with
   | lstE=>exact ⟨_,_,_,rfl⟩
   | lst=>exact ⟨_,_,_,rfl⟩
 · cases h; exact ⟨_,_,_,rfl⟩
 · cases hs
theorem shpT_ok {v:AV} (hs:shpT v=true):∃ x y,v = .agg [x,y]∧isSl x=true∧isSl y=true:=by
 unfold shpT at hs
 split at hs
 · exact ⟨_,_,rfl,and_true hs⟩
 · cases hs
structure FnNo where
 read:FuncId
 parse:FuncId
 resolve:FuncId
 infer:FuncId
 lower:FuncId
 flow:FuncId
def chainK (F:FnNo) (lex:List Nat→Option AV) (mk:Orc→CallK) (o:Orc) (L:List Nat) (k:Ans):Ans :=
 forceL L fun L=>Option.rec (motive:=fun _=>Ans) .no (fun V=>forceV V fun V =>
 runV (mk (orcBoth o (orcV (tabOf [(F.read,[.tx L],V)])))) F.parse [.tx L] fun p=>nth3 p fun T=>Bool.rec (motive:=fun _=>Ans) .no (forceV T fun T =>
 runV (mk o) F.resolve [T] fun R=>forceV R fun R =>
 runV (mk (orcBoth o (orcV (tabOf [(F.resolve,[T],R)])))) F.infer [T] fun I=>forceV I fun I =>
 runV (mk (orcBoth o (orcV (tabOf [(F.resolve,[T],R),(F.infer,[T],I)])))) F.lower [T] fun q=>nth3 q fun B=>forceV B fun B =>
 runV (mk o) F.flow [B] fun z=>nth2 z k) (shpT T)) (lex L)
end
def CaseOk (P:Env) (F:FnNo) (L:List Nat):Prop:=∃ T x B y z,KnownV P F.parse [.tx L] (.tup [T,x,.int .i64 0])∧pureAV T=true∧shpT T=true∧KnownV P F.lower [T] (.tup [B,y,.int .i64 0])∧pureAV B=true∧KnownV P F.flow [B] (.tup [z,.int .i64 0])
theorem pure_head {t x:AV} {n:Int} (h:pureAV (.tup [t,x,.int .i64 n])=true):pureAV t=true:=by
 have h:and (pureAV t) (pureAVs [x,.int .i64 n])=true:=h
 exact (and_true h).1
theorem chain_ok (hm:P.follows .mixedOrders=true) (hname:∀ (f:FuncId) (fn:Func),P.funcs[f]? = some fn→fn.name≠ "runtime.NumGoroutine") {hint:FuncId→Option Hint} {has:FuncId→Bool} {md:FuncId→Bool} {n:Nat} {F:FnNo} {o:Orc} (ho:OrcOk P o) {lex:List Nat→Option AV} {L:List Nat} {k:Ans} (hlex:∀ V,lex L=some V→KnownV P F.read [.tx L] V)
 (hr:chainK F lex (fun o=>bRun hint (cF P) has o md n) o L k = .yes):CaseOk P F L∧k = .yes:=by
 unfold chainK at hr
 rw [forceL_eq] at hr
 cases hL:lex L with
 | none=>rw [hL] at hr; cases hr
 | some V =>
 rw [hL] at hr
 have hr:forceV V _ = .yes:=hr
 rw [forceV_eq] at hr
 have e0:∀ e∈([(F.read,[.tx L],V)]:List Ent),KnownV P e.1 e.2.1 e.2.2:=by
  intro e he
  rcases List.mem_cons.1 he with rfl | he
  · exact hlex V hL
  · cases he
 obtain ⟨p,hp,hpp,hr⟩:=runV_ok hm hname (orcBoth_ok ho (orcL_ok e0)) (show runV _ _ _ _ = .yes from hr)
 obtain ⟨T,x,rfl,hr⟩:=nth3_ok (show nth3 _ _ = .yes from hr)
 have hr:Bool.rec (motive:=fun _=>Ans) .no (forceV T _) (shpT T) = .yes:=hr
 cases hsh:shpT T with
 | false=>rw [hsh] at hr; cases hr
 | true =>
 rw [hsh] at hr
 have hr:forceV _ _ = .yes:=hr
 rw [forceV_eq] at hr
 obtain ⟨R,hR,_,hr⟩:=runV_ok hm hname ho (show runV _ _ _ _ = .yes from hr)
 have hr:forceV _ _ = .yes:=hr
 rw [forceV_eq] at hr
 have e1:∀ e∈([(F.resolve,[T],R)]:List Ent),KnownV P e.1 e.2.1 e.2.2:=by
  intro e he
  rcases List.mem_cons.1 he with rfl | he
  · exact hR
  · cases he
 obtain ⟨I,hI,_,hr⟩:=runV_ok hm hname (orcBoth_ok ho (orcL_ok e1)) (show runV _ _ _ _ = .yes from hr)
 have hr:forceV _ _ = .yes:=hr
 rw [forceV_eq] at hr
 have e2:∀ e∈([(F.resolve,[T],R),(F.infer,[T],I)]:List Ent),KnownV P e.1 e.2.1 e.2.2:=by
  intro e he
  rcases List.mem_cons.1 he with rfl | he
  · exact hR
  · rcases List.mem_cons.1 he with rfl | he
    · exact hI
    · cases he
 obtain ⟨q,hq,hqp,hr⟩:=runV_ok hm hname (orcBoth_ok ho (orcL_ok e2)) (show runV _ _ _ _ = .yes from hr)
 obtain ⟨B,y,rfl,hr⟩:=nth3_ok (show nth3 _ _ = .yes from hr)
 have hr:forceV _ _ = .yes:=hr
 rw [forceV_eq] at hr
 obtain ⟨z,hz,_,hr⟩:=runV_ok hm hname ho (show runV _ _ _ _ = .yes from hr)
 obtain ⟨z,rfl,hk⟩:=nth2_ok (show nth2 _ _ = .yes from hr)
 exact ⟨⟨T,x,B,y,z,hp,pure_head hpp,hsh,hq,pure_head hqp,hz⟩,hk⟩
noncomputable def chains (F:FnNo) (lex:List Nat→Option AV) (mk:Orc→CallK) (o:Orc) (Ls:List (List Nat)):Ans:=List.rec (motive:=fun _=>Ans) .yes (fun L _ ih=>chainK F lex mk o L ih) Ls
theorem chains_ok (hm:P.follows .mixedOrders=true) (hname:∀ (f:FuncId) (fn:Func),P.funcs[f]? = some fn→fn.name≠ "runtime.NumGoroutine") {hint:FuncId→Option Hint} {has:FuncId→Bool} {md:FuncId→Bool} {n:Nat} {F:FnNo} {o:Orc} (ho:OrcOk P o) {lex:List Nat→Option AV} (hlex:∀ L V,lex L=some V→KnownV P F.read [.tx L] V):∀ {Ls:List (List Nat)},
 chains F lex (fun o=>bRun hint (cF P) has o md n) o Ls = .yes→∀ L∈Ls,CaseOk P F L
 | [],_,L,hL=>by cases hL
 | L0 :: Ls,hr,L,hL=>by
  obtain ⟨h1,h2⟩:=chain_ok hm hname ho (hlex L0) (show chainK F lex (fun o=>bRun hint (cF P) has o md n) o L0 (chains F lex (fun o=>bRun hint (cF P) has o md n) o Ls) = .yes from hr)
  rcases List.mem_cons.1 hL with rfl | hL
  · exact h1
  · exact chains_ok hm hname ho hlex h2 L hL
end Go.Ev
