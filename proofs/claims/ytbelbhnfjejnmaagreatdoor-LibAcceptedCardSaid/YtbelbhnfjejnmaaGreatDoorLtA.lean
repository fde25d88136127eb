/- PROVED HERE: a part (LtA) of the tied card of LibAccepted (floodgatelaw25). CONDITIONS: those of the given row and card alone. -/
import Derived.Test.YtbelbhnfjejnmaaGreatDoorLtV
import Derived.Test.YtbelbhnfjejnmaaGreatDoorElx
import Derived.KernelRfl
open Go Go.Ev Go.Proofs
namespace Go.Ev
set_option maxRecDepth 1000000
noncomputable section
def orcMs (f:FuncId) (x:AV) (lo hi:Nat):Orc:=fun g args h=>match and (Nat.beq g f) (isZ h) with
 | false=>none
 | true=>match args with
  | [v,.int .i64 (.ofNat n)]=>match and (and (Nat.ble lo n) (Nat.ble n hi)) (avSame x v) with
   | true=>some (.nils,H.zero)
   | false=>none
  | _=>none
theorem orcMs_ok {P:Env} {f:FuncId} {x:AV} {lo hi:Nat} (hk:∀ n,lo≤n→n≤hi→KnownV P f [x,.int .i64 (.ofNat n)] .nils):OrcOk P (orcMs f x lo hi):=by
 intro g args h v h' hr
 unfold orcMs at hr
 split at hr
 · cases hr
 · rename_i hg
   obtain ⟨h1,h2⟩:=and_true hg
   have:=Nat.eq_of_beq_eq_true h1
   subst this
   split at hr
   · rename_i u n
     split at hr
     · rename_i hb
       obtain ⟨h3,h5⟩:=and_true hb
       obtain ⟨h3,h4⟩:=and_true h3
       have:=avSame_eq h5
       subst this
       cases hr
       intro w j hR vs hvs
       have hn:=isZ_next h2
       rw [hn] at hR
       have hk:=hk n (Nat.le_of_ble_eq_true h3) (Nat.le_of_ble_eq_true h4) w j hR.zero vs hvs
       have hb:=blk_zero hR.none
       refine ⟨hk.1,fun n=>CallsIn.mono (hk.2 n) fun e w' ⟨g1,cv,g2,j',g3,g4,g5⟩=>⟨by rw [hn]; exact g1,cv,g2,j',g3,g4,by rw [hb]; exact g5⟩⟩
     · cases hr
   · cases hr
def ps1:AV:=.lst none [.agg [.bool false,.int .i64 (.ofNat 0),.bool true,.int .i64 (.ofNat 1),.int .i64 (.ofNat 1)]]
def ps2:AV:=.lst none [.agg [.bool false,.int .i64 (.ofNat 0),.bool false,.int .i64 (.ofNat 0),.int .i64 (.ofNat 1)],.agg [.bool false,.int .i64 (.ofNat 1),.bool false,.int .i64 (.ofNat 1),.int .i64 (.ofNat 1)],.agg [.bool false,.int .i64 (.ofNat 2),.bool true,.int .i64 (.ofNat 1),.int .i64 (.ofNat 1)]]
def msL (x:AV) (lo k:Nat):List Ent:=(List.range' lo k).map fun n=>(211,[x,.int .i64 (.ofNat n)],.nils)
def FN:FnNo:=⟨36,8,101,142,9,10⟩
def oA:Orc:=orcBoth (orcRep 462) (orcBoth (orcIt 78 [(.ofNat 0,[48])]) (orcBoth (orcAt 369) (orcBoth (orcMs 211 ps1 0 100) (orcMs 211 ps2 2 100))))
def hasA (f:FuncId):Bool:=Bool.rec (motive:=fun _=>Bool) (Bool.rec (motive:=fun _=>Bool) (Bool.rec (motive:=fun _=>Bool) (Bool.rec (motive:=fun _=>Bool) (Bool.rec (motive:=fun _=>Bool) (Bool.rec (motive:=fun _=>Bool) (Nat.beq f 462) true (Nat.beq f 369)) true (Nat.beq f 211)) true (Nat.beq f 142)) true (Nat.beq f 101)) true (Nat.beq f 78)) true (Nat.beq f 36)
def mdA (f:FuncId):Bool:=Bool.rec (motive:=fun _=>Bool) (Bool.rec (motive:=fun _=>Bool) (Bool.rec (motive:=fun _=>Bool) (Nat.beq f 211) true (Nat.beq f 142)) true (Nat.beq f 101)) true (Nat.beq f 36)
def runA (o:Orc):CallK:=bRun (hintOf hints) (cF Tryz.prog) hasA o mdA 100000
def chA (Ls:List (List Nat)):Ans:=chains FN lexV runA oA Ls
end
end Go.Ev
