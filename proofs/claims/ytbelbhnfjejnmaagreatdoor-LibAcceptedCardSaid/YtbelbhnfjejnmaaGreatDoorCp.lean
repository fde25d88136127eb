/- PROVED HERE: a part (Cp) of the tied card of LibAccepted (floodgatelaw25). CONDITIONS: those of the given row and card alone. -/
import Derived.Test.YtbelbhnfjejnmaaGreatDoorWa
import Derived.ChangeSame
import Derived.Test.YtbelbhnfjejnmaaGreatDoorRows
import Derived.Test.YtbelbhnfjejnmaaGreatDoorCards
import Derived.ProofKit
import Derived.Lay
import Derived.LaidOnce
import Derived.SevenTiedAt
import Derived.MakeChecks
import Derived.Carry
import Derived.Test.YtbelbhnfjejnmaaGreatDoorLtG
import Derived.Test.YtbelbhnfjejnmaaGreatDoorTc
import Derived.Test.YtbelbhnfjejnmaaGreatDoorCfg
namespace Go.Proofs
open Go.RowKit
namespace Lb
theorem cells9:Tryz.prog.cellsOf 9=1:=by kernel_rfl
theorem cells22:Tryz.prog.cellsOf 22=1:=by kernel_rfl
theorem cells24:Tryz.prog.cellsOf 24=2:=by kernel_rfl
theorem cells60:Tryz.prog.cellsOf 49=3:=by kernel_rfl
theorem cells4:Tryz.prog.cellsOf 4=1:=by kernel_rfl
theorem cells3:Tryz.prog.cellsOf 3=1:=by kernel_rfl
theorem cells45:Tryz.prog.cellsOf 37=1:=by kernel_rfl
section
variable {H:Type} {enc:TypeId × Value→H} {w:World} {base:Nat} {spare:Nat→Bool} {held:Bool}
theorem spot_none {a:Addr} {v:Value} (h:w.cell? a=some v):a=⟨a.block,a.off,none⟩:=by
 obtain ⟨b,o,s⟩:=a
 unfold World.cell? at h
 split at h
 · cases s with
   | none=>rfl
   | some x=>simp at h
 · cases h
theorem add_none (b o i:Nat):(⟨b,o,none⟩:Addr).add i=⟨b,o+i,none⟩:=by
 unfold Addr.add
 split
 · rename_i h; rw [h]; rfl
 · rfl
theorem ints_of {fuel:Nat} {c:Value} {x:DataW H × List MemPlace} (h:DataW.trod enc Tryz.prog w base spare held fuel 37 [c]=some x):∃ l:List Int,HasI w c l∧l.length≤maxLen:=by
 rcases DataW.trod_slice Tryz.underlying37 h with ⟨hc,_⟩ | ⟨a,len,cap,elems,rest,n,_,hc,_,_,hl,hm,hlen,hel,_⟩
 · cases hc
   exact ⟨[],⟨none,0,rfl,fun h=>absurd rfl h⟩,Nat.zero_le _⟩
 · cases hc
   have each:∀ i,i < len→∃ z:Int,w.cell? (a.add i)=some (.int .i64 z):=by
    intro i hi
    have h1:=hel i hi
    rw [cells3,Nat.mul_one,List.getElem?_eq_getElem (by omega),Option.bind_eq_some_iff] at h1
    obtain ⟨cs',h2,h3⟩:=h1
    obtain ⟨z,rfl,_,_⟩:=DataW.trod_int Tryz.underlying3 h3
    exact ⟨z,by have:=(World.cells?_some h2).2.2 0 (by omega); simpa [Addr.add] using this⟩
   let f:Nat→Int:=fun i=>match w.cell? (a.add i) with | some (Value.int _ z)=>z | _=>0
   refine ⟨(List.range len).map f,⟨some a,cap,by simp,fun h0=>?_⟩,by simp; omega⟩
   have hpos:0 < len:=by
    rcases Nat.eq_zero_or_pos len with h | h
    · subst h; exact absurd rfl h0
    · exact h
   obtain ⟨z0,hz0⟩:=each 0 hpos
   rw [show a.add 0=a from rfl] at hz0
   have ha:=spot_none hz0
   refine ⟨a.block,a.off,by rw [←ha],fun i hi=>?_⟩
   have hi':i < len:=by simpa using hi
   obtain ⟨z,hz⟩:=each i hi'
   rw [ha,add_none] at hz
   rw [hz,List.getD_eq_getElem?_getD,List.getElem?_map,List.getElem?_range hi']
   show _=some (Value.int .i64 (f i))
   have:f i=z:=by show (match w.cell? (a.add i) with | some (Value.int _ z)=>z | _=>(0:Int))=z; rw [ha,add_none,hz]
   rw [this]
theorem args_of {a:Addr}:∀ len,(∀ i,i < len→∃ (il:Bool) (z:Int) (lv:Value) (l:List Int),w.cell? (a.add (i * 3))=some (.bool il)∧w.cell? ((a.add (i * 3)).add 1)=some (.int .i64 z)∧w.cell? ((a.add (i * 3)).add 2)=some lv∧HasI w lv l∧l.length≤maxLen) →
 ∃ xs:List AArg,xs.length=len∧∀ i,i < len→∃ lv,w.cell? (a.add (i * 3))=some (.bool (xs.getD i default).il)∧w.cell? ((a.add (i * 3)).add 1)=some (.int .i64 (xs.getD i default).n)∧w.cell? ((a.add (i * 3)).add 2)=some lv∧HasI w lv (xs.getD i default).l∧(xs.getD i default).l.length≤maxLen
 | 0,_=>⟨[],rfl,fun i hi=>absurd hi (Nat.not_lt_zero _)⟩
 | k+1,each=>by
  obtain ⟨xs,hx,hall⟩:=args_of k (fun i hi=>each i (by omega))
  obtain ⟨il,z,lv,l,e0,e1,e2,e3,e4⟩:=each k (by omega)
  refine ⟨xs ++ [⟨il,z,l⟩],by simp [hx],fun i hi=>?_⟩
  by_cases hik:i < k
  · have:(xs ++ [(⟨il,z,l⟩:AArg)]).getD i default=xs.getD i default:=by
     rw [List.getD_eq_getElem?_getD,List.getD_eq_getElem?_getD,List.getElem?_append_left (by omega)]
    rw [this]; exact hall i hik
  · obtain rfl:i=k:=by omega
    have:(xs ++ [(⟨il,z,l⟩:AArg)]).getD i default=⟨il,z,l⟩:=by
     rw [List.getD_eq_getElem?_getD,List.getElem?_append_right (by omega),hx,Nat.sub_self]; rfl
    rw [this]; exact ⟨lv,e0,e1,e2,e3,e4⟩
set_option maxRecDepth 100000 in
theorem open_call {v0:Value} {d:DataW H} {ps:List MemPlace} (h:DataW.Trod enc Tryz.prog w base spare held 24 v0 d ps):∃ (s:ByteArray) (v:Value) (xs:List AArg),v0.cells=#[.string s,v]∧s.size≤maxLen∧HasA w v xs∧xs.length≤maxLen:=by
 obtain ⟨fuel,h⟩:=h
 obtain ⟨ys,n,_,_,hl,hlen,hf⟩:=DataW.trod_struct Tryz.underlying24 h
 rw [cells24] at hl
 obtain ⟨c0,c1,hcs⟩:∃ c0 c1,v0.cells.toList = [c0,c1]:=by
  match hv:v0.cells.toList,hl with
  | [p,q],_=>exact ⟨p,q,rfl⟩
 rw [hcs] at hf
 have h0:=hf 0 _ rfl
 have h1:=hf 1 _ rfl
 have hy0:0 < ys.length:=by rw [hlen]; decide
 have hy1:1 < ys.length:=by rw [hlen]; decide
 rw [List.getElem?_eq_getElem hy0] at h0
 rw [List.getElem?_eq_getElem hy1] at h1
 have h0:DataW.trod enc Tryz.prog w base spare held n 9 (([c0,c1].drop 0).take (Tryz.prog.cellsOf 9))=some _:=h0
 have h1:DataW.trod enc Tryz.prog w base spare held n 22 (([c0,c1].drop 1).take (Tryz.prog.cellsOf 22))=some _:=h1
 rw [cells9] at h0
 rw [cells22] at h1
 have h0:DataW.trod enc Tryz.prog w base spare held n 9 [c0]=some _:=h0
 have h1:DataW.trod enc Tryz.prog w base spare held n 22 [c1]=some _:=h1
 obtain ⟨s,hs,_,hsz⟩:=DataW.trod_string Tryz.underlying9 h0
 cases hs
 have hcells:v0.cells=#[.string s,c1]:=Array.ext' hcs
 refine ⟨s,c1,?_⟩
 rcases DataW.trod_slice Tryz.underlying22 h1 with ⟨hc,_⟩ | ⟨a,len,cap,elems,rest,n2,_,hc,_,_,hl2,hm,hlen2,hel,_⟩
 · cases hc
   exact ⟨[],hcells,hsz,⟨none,0,rfl,fun h=>absurd rfl h⟩,Nat.zero_le _⟩
 · cases hc
   have each:∀ i,i < len→∃ (il:Bool) (z:Int) (lv:Value) (l:List Int),w.cell? (a.add (i * 3))=some (.bool il)∧w.cell? ((a.add (i * 3)).add 1)=some (.int .i64 z)∧w.cell? ((a.add (i * 3)).add 2)=some lv∧HasI w lv l∧l.length≤maxLen:=by
    intro i hi
    have h1:=hel i hi
    rw [cells60,List.getElem?_eq_getElem (by omega),Option.bind_eq_some_iff] at h1
    obtain ⟨cs',h2,h3⟩:=h1
    obtain ⟨_,hcl,hcc⟩:=World.cells?_some h2
    obtain ⟨zs,n3,_,_,_,hlen3,hf3⟩:=DataW.trod_struct Tryz.underlying49 h3
    obtain ⟨b0,b1,b2,rfl⟩:∃ b0 b1 b2,cs' = [b0,b1,b2]:=by
     match cs',hcl with
     | [p,q,r],_=>exact ⟨p,q,r,rfl⟩
    have g0:=hf3 0 _ rfl
    have g1:=hf3 1 _ rfl
    have g2:=hf3 2 _ rfl
    rw [List.getElem?_eq_getElem (by rw [hlen3]; decide)] at g0
    rw [List.getElem?_eq_getElem (by rw [hlen3]; decide)] at g1
    rw [List.getElem?_eq_getElem (by rw [hlen3]; decide)] at g2
    have g0:DataW.trod enc Tryz.prog w base spare held n3 4 (([b0,b1,b2].drop 0).take (Tryz.prog.cellsOf 4))=some _:=g0
    have g1:DataW.trod enc Tryz.prog w base spare held n3 3 (([b0,b1,b2].drop 1).take (Tryz.prog.cellsOf 3))=some _:=g1
    have g2:DataW.trod enc Tryz.prog w base spare held n3 37 (([b0,b1,b2].drop 2).take (Tryz.prog.cellsOf 37))=some _:=g2
    rw [cells4] at g0
    rw [cells3] at g1
    rw [cells45] at g2
    have g0:DataW.trod enc Tryz.prog w base spare held n3 4 [b0]=some _:=g0
    have g1:DataW.trod enc Tryz.prog w base spare held n3 3 [b1]=some _:=g1
    have g2:DataW.trod enc Tryz.prog w base spare held n3 37 [b2]=some _:=g2
    obtain ⟨il,e0,_⟩:=DataW.trod_bool Tryz.underlying4 g0
    obtain ⟨z,e1,_,_⟩:=DataW.trod_int Tryz.underlying3 g1
    cases e0
    cases e1
    obtain ⟨l,hI,hll⟩:=ints_of g2
    exact ⟨il,z,b2,l,by simpa [Addr.add] using hcc 0 (by omega),hcc 1 (by omega),hcc 2 (by omega),hI,hll⟩
   obtain ⟨xs,hx,hall⟩:=args_of len each
   refine ⟨xs,hcells,hsz,⟨some a,cap,by rw [hx],fun h0=>?_⟩,by rw [hx]; omega⟩
   have hpos:0 < len:=by rw [←hx]; exact List.length_pos_iff.2 h0
   obtain ⟨_,hz0,_⟩:=hall 0 hpos
   rw [show a.add (0 * 3)=a from rfl] at hz0
   have ha:=spot_none hz0
   refine ⟨a.block,a.off,by rw [←ha],fun i hi=>?_⟩
   obtain ⟨lv,e0,e1,e2,e3,e4⟩:=hall i (by rw [←hx]; exact hi)
   rw [ha,add_none] at e0 e1 e2
   rw [add_none] at e1 e2
   exact ⟨lv,e0,e1,e2,e3,by unfold maxLen at e4; omega⟩
end
end Lb
end Go.Proofs
namespace Go.Proofs.YtbelbhnfjejnmaaGreatDoor
open Go.ChangeShapes Go.WideShapes Go.ChangeAt Go.RowKit Go.Ev
theorem own:ownKnob Tryz.prog.godebug=none:=by kernel_rfl
theorem tabN:Tryz.prog.globalNamed "internal/strconv.uint64pow10" = some 1:=by kernel_rfl
theorem tabY:(Tryz.prog.globals[1]?).map (·.type)=some 492:=by kernel_rfl
theorem tabU:Tryz.prog.underlying 492=some (.array 20 424):=by kernel_rfl
theorem tabK:Tryz.prog.underlying 424=some (.int .u64):=by kernel_rfl
theorem tabC1:Tryz.prog.cellsOf 424=1:=by kernel_rfl
theorem tabC2:Tryz.prog.cellsOf 492=20:=by kernel_rfl
theorem keptBut_of_keep {w w':World} {may:MemPlace→Prop} (h1:w'.os=w.os) (h2:w'.output=w.output) (h3:∀ b,b < w.heap.size→w'.heap[b]? = w.heap[b]?):w.keptBut w' may:=by
 refine ⟨h1,h2,fun i hi=>?_⟩
 rw [h3 i hi]
 cases w.heap[i]? with
 | none=>rfl
 | some o=>cases o <;> simp
set_option maxRecDepth 100000 in
set_option maxHeartbeats 10000000 in
theorem lifted (os:Os) (started:os.Started) (H:Type) (enc:TypeId × Value→H) :
 ReturnsInHanded {} Tryz.checked os 3 .any (fun w args=>(Rows.libAcceptedSpec.pre enc Tryz.prog Tryz.f3 [] false w args∧laidMetH Tryz.prog Rows.libAcceptedRow.laid w)∧sizedMet enc Tryz.prog Tryz.f3 (OpenSpec.ofChange Rows.libAcceptedSpec) false w args)
  (Rows.libAcceptedSpec.post enc Tryz.prog Tryz.f3 false true false false):=by
 refine returnsInHanded_of_change_and (C:=Tryz.checked) (X:=fun w _=>laidMetH Tryz.prog Rows.libAcceptedRow.laid w) (fun _ _ _ hh h=>h.of_heap hh) own started (by kernel_rfl) Tryz.func3
  (ChangeSpec.witness_shaped (enc:=enc) (C:=Tryz.checked) (os:=os) (X:=fun w _=>laidMetH Tryz.prog Rows.libAcceptedRow.laid w) false (World.laidAll Tryz.prog os Rows.libAcceptedRow.laid) #[.agg #[.string ⟨#[]⟩,.slice none 0 0]] 8 (World.laidAll_os _ _ _)
   (World.shaped_of_ZipB (by kernel_rfl) (by kernel_rfl)) (by kernel_rfl) (by kernel_rfl) (by kernel_rfl)
   (by rw [MakeChecks.laidMetH_plain _ _ _ (by kernel_rfl)]; exact laidMet_laidAll _ (by kernel_rfl) (by kernel_rfl))) ?_
 intro W base args ds gs before hval0 hW _ _ hL _
 have hval:∀ (j:Nat) t v,Tryz.f3.params[j]? = some t→args[j]? = some v→Value.okWide Tryz.prog W .any base t v:=hval0
 have hW':=hW
 obtain ⟨p,q,hA0,hV,rfl,_,_⟩:=hW
 have hA:DataW.TrodAll enc Tryz.prog W 0 (fun _=>true) true Tryz.f3.params.toList args.toList ds p:=hA0
 rw [Tryz.params3] at hA hval
 obtain ⟨v0,d0,rfl,rfl,h0⟩:=trodAll_one hA
 obtain ⟨rfl,rfl⟩:=trodVars_none hV
 have h0k:=h0
 obtain ⟨s,v,xs,hcells,hs,hHA,hxs⟩:=Lb.open_call h0
 have hv0:v0 = .agg #[.string s,v]:=by
  cases v0 with
  | agg cs=>exact congrArg _ hcells
  | _=>simp [Value.cells] at hcells
 subst hv0
 clear hA0 hval0 h0
 have hlt:∀ x∈p,x.block < W.heap.size:=fun x hx=>by simpa using hW'.lt x (by simp [hx])
 refine (Lb.accepted_final s v xs hHA (by unfold maxLen at hxs; omega) (by unfold maxLen at hs; omega) (tab_of_laid tabN tabY tabU tabK tabC1 tabC2 hL (List.mem_of_getElem? (i:=2) rfl) rfl)).mono fun e W' ⟨he,hB⟩=>?_
 subst he
 exact ⟨_,rfl,_,_,_,[],p,[],hW',trodAll_mk1 (shut_bool Tryz.underlying4 _),trodAll_mk1 (Below.trod laidOut3 (by kernel_rfl) (of_decide_eq_true (by kernel_rfl)) h0k hB hlt),rfl,keptBut_of_keep hB.os hB.output hB.block,fun h=>by cases h⟩
set_option maxHeartbeats 10000000 in
theorem holds:Rows.LibAcceptedSaid :=
 OpenClaim.holds_of_wide 3 Tryz.f3 rfl rfl rfl rfl rfl rfl rfl ⟨rfl,rfl,rfl,rfl,rfl⟩ rfl rfl rfl rfl rfl named_func Tryz.func3 facts3
  (of_decide_eq_true (by as_aux_lemma=>kernel_rfl)) (by unfold Func.isWrapper; first | (rw [if_pos (by as_aux_lemma=>decide +kernel)]; as_aux_lemma=>kernel_rfl) | (rw [if_neg (by as_aux_lemma=>decide +kernel)]; exact ⟨rfl,rfl⟩))
  (fun os started H enc _=>lifted os started H enc)
theorem wf_card:Rows.libAcceptedRow.wfByText (OpenSpec.ofChange Rows.libAcceptedSpec)=true:=by kernel_rfl
theorem main_card:Tryz.prog.mainIs=some (true,"83994ea4591066c7be24e75571487d51c63c113838c11e0a8e104f6f4b3d9824".toList):=by kernel_rfl
theorem looks_card:true=Tryz.prog.looks []:=by kernel_rfl
theorem standIn24:Tryz.prog.wantsStandIn 24=false:=by kernel_rfl
theorem card_holds:Rows.LibAcceptedCardSaid :=
 Claim7.holds_tied_plain_at .later [] [.sentinel,.sentinel,.data,.data,.data] true (true,"83994ea4591066c7be24e75571487d51c63c113838c11e0a8e104f6f4b3d9824") true holds (fun _ h=>by cases h) wf_card (fun _ h=>by cases h) libAccepted_row_tie rfl ⟨rfl,rfl⟩ main_card rfl
  (fun f fn hf hfn=>by
   obtain rfl:f=3:=Option.some.inj (named_func.symm.trans hf) |>.symm
   obtain rfl:fn=Tryz.f3:=(Option.some.inj (Tryz.func3.symm.trans hfn)).symm
   exact ⟨looks_card,fun j t ht=>by
    rw [Tryz.params3] at ht
    rcases j with _ | j
    · obtain rfl:t=24:=by simpa using ht.symm
      exact standIn24
    · simp at ht⟩)
  goes3
end Go.Proofs.YtbelbhnfjejnmaaGreatDoor
