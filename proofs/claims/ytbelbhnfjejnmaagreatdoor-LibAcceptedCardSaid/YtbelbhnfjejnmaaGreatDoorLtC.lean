/- PROVED HERE: a part (LtC) of the tied card of LibAccepted (floodgatelaw25). CONDITIONS: those of the given row and card alone. -/
import Derived.Test.YtbelbhnfjejnmaaGreatDoorLtV
import Derived.Test.YtbelbhnfjejnmaaGreatDoorEvg
import Derived.KernelRfl
import Derived.Test.YtbelbhnfjejnmaaGreatDoorLtN
import Derived.Test.YtbelbhnfjejnmaaGreatDoorSh
open Go Go.Ev Go.Proofs Go.RowKit
namespace Go.Ev
set_option maxRecDepth 1000000
theorem hg:Tryz.prog.globalNamed "internal/strconv.uint64pow10" = some ((Tryz.prog.globalNamed "internal/strconv.uint64pow10").getD 0):=by kernel_rfl
noncomputable def PE:Env:=Env.tab Tryz.prog "internal/strconv.uint64pow10" _ hg .u64 Lib.pow10Tab
theorem hmP:PE.follows .mixedOrders=true:=by
 show Tryz.prog.follows .mixedOrders=true
 kernel_rfl
theorem hn0:Tryz.prog.funcs.all (fun fn=>!(fn.name == "runtime.NumGoroutine"))=true:=by kernel_rfl
theorem hnameP:∀ (f:FuncId) (fn:Func),PE.funcs[f]? = some fn→fn.name≠ "runtime.NumGoroutine":=by
 intro f fn h hn
 have h1:=Array.all_eq_true.1 hn0
 have h2:Tryz.prog.funcs[f]? = some fn:=h
 obtain ⟨hl,h3⟩:=Array.getElem?_eq_some_iff.1 h2
 have:=h1 f hl
 rw [h3,hn] at this
 simp at this
end Go.Ev
open Go Go.Ev Go.Proofs Go.RowKit Go.Shelf Go.Sort
namespace Go.Ev
theorem eRep:∀ args w,(callFunc 462 args).run PE.toProgram w = .ok (.enter 462 args) w:=enters_of Tryz.func462 (by kernel_rfl) rfl
theorem eIt:∀ args w,(callFunc 78 args).run PE.toProgram w = .ok (.enter 78 args) w:=enters_of Tryz.func78 (by kernel_rfl) rfl
theorem exRep:Builder.Extra Tryz.prog Tryz.laysRep_ren:={
 sizeBuilder:=by kernel_rfl
 liesBuilder:=by kernel_rfl
 t5:=Tryz.underlying5
 a5:=Tryz.isAgg5
 z5:=Tryz.sizeOf5
 v5:=Tryz.zeroValue5
 infoByte:=by kernel_rfl
 cellsByte:=by kernel_rfl
 sizeByte:=by kernel_rfl
 neB5:=by decide }
theorem cRep:∀ (s:ByteArray) (c:Nat) (w:World),c≤9223372036854775807→s.size * c≤140737488355328→Calls PE.toProgram 462 #[.string s,.int .i64 c] w fun e w'=>e = .returned (.string ⟨(Lib.repeatL s.data.toList c).toArray⟩)∧Below w.heap.size w w' :=
 fun s c w h1 h2=>Any.strings_Repeat Tryz.laysRep exRep s c w h1 h2
theorem cItoa (w:World) (h:Lib.TabIs Tryz.prog w "internal/strconv.uint64pow10" .u64 Lib.pow10Tab):Calls Tryz.prog 78 #[.int .i64 (-2)] w fun e w'=>e = .returned (.string ⟨(Lib.itoa (-2)).toArray⟩)∧∃ k os,w'=grow (w.drewN k) os :=
 Any.strconv_Itoa Tryz.laysIt (-2) (by decide) (by decide) w h
theorem itoa2:bytesOf ⟨(Lib.itoa (-2)).toArray⟩ = [45,50]:=by decide +kernel
theorem none_ok:KnownV PE 129 [.lst (some 0) []] (.lst (some 0) []):=knownV_runNil hmP hnameP orcN_ok t_N
theorem grow_below (w:World) (k:Nat) (os:Array Obj):Below w.heap.size w (grow (w.drewN k) os):=⟨rfl,rfl,rfl,by show w.heap.size≤(w.heap++os).size; simp,fun j hj=>by show (w.heap++os)[j]? = w.heap[j]?; exact Array.getElem?_append_left hj⟩
theorem oR_ok:OrcOk PE oR:=by
 refine orcBoth_ok (orcRep_ok eRep cRep) (orcBoth_ok (orcIt_ok eIt ?_) (orcNil_ok none_ok))
 intro n s h w hi _
 have h:(n,s)=(.negSucc 1,[45,50]):=by simpa using h
 cases h
 refine ⟨⟨(Lib.itoa (-2)).toArray⟩,itoa2,(cItoa w hi).mono ?_⟩
 rintro e w' ⟨rfl,k,os,rfl⟩
 exact ⟨rfl,grow_below w k os⟩
end Go.Ev
