/- PROVED HERE: a part (LtS) of the tied card of LibAccepted (floodgatelaw25). CONDITIONS: those of the given row and card alone. -/
import Derived.Test.YtbelbhnfjejnmaaGreatDoorLtF
import Derived.Test.YtbelbhnfjejnmaaGreatDoorLtV
import Derived.Test.YtbelbhnfjejnmaaGreatDoorLtA
open Go Go.Ev Go.RowKit
namespace Go.Proofs
noncomputable section
namespace Lb
set_option maxRecDepth 1000000
def dE:Ent:=(0,[],.junk)
def eF (i:Nat):Ent:=lF.getD i dE
def eU (i:Nat):Ent:=lU.getD i dE
def fT (k:Nat):AV→AV | .tup l=>l.getD k .junk | _=>.junk
def fA (k:Nat):AV→AV | .agg l=>l.getD k .junk | _=>.junk
def libV (i:Nat):AV:=fT 0 (eF i).2.2
def dfF (i:Nat):AV:=fT 1 (eF i).2.2
def txF (i:Nat):List Nat:=sB (fA 1 (dfF i))
def prA (i:Nat):AV:=fA 2 (dfF i)
def reA (i:Nat):AV:=fA 3 (dfF i)
def prs (i:Nat):List ByteArray:=strsOf (prA i)
def res (i:Nat):List ByteArray:=strsOf (reA i)
def rootU (i:Nat):List ByteArray:=nm i :: addsOf [nthB,packB] (prs i)
def strA (l:List ByteArray):AV:=.lst none (l.map fun s=>.str (bytesOf s))
def nmN (i:Nat):List Nat:=bytesOf (nm i)
def bs (i:Nat):List Bool:=boosOf (eU i).2.2
def chkF (i:Nat):Bool :=
 Nat.beq (eF i).1 33 && listB avSame (eF i).2.1 [.str (nmN i)] && avSame (eF i).2.2 (.tup [libV i,.agg [.str (nmN i),.str (txF i),prA i,reA i,fA 4 (dfF i)],.int .i64 0]) &&
 okS (nmN i) && okS (txF i) && strsB (prA i) && strsB (reA i) && strsB (fA 4 (dfF i)) && libB (libV i) && iceB 12 (libV i)
def chkU (i:Nat):Bool :=
 Nat.beq (eU i).1 80 && listB avSame (eU i).2.1 [libV i,strA (rootU i)] && boosB (eU i).2.2
def chkS (i:Nat):Bool :=
 Nat.ble (nmN i).length 1000000 && Nat.ble (strsN (prA i)).length 6 && ((strsN (reA i)).all fun s=>Nat.ble s.length 100) && Nat.ble (strsN (reA i)).length 100 && Nat.ble (libN (libV i)).length 100 &&
 ((libN (libV i)).all fun s=>Nat.ble s.length 1000000) && Nat.beq (bs i).length (libN (libV i)).length
theorem chkF_all:((List.range 22).all chkF)=true:=by kernel_rfl
theorem chkU_all:((List.range 22).all chkU)=true:=by kernel_rfl
theorem chkS_all:((List.range 22).all chkS)=true:=by kernel_rfl
theorem lens:lF.length=22∧lU.length=22:=by refine ⟨?_,?_⟩ <;> kernel_rfl
end Lb
end
end Go.Proofs
open Go Go.Ev Go.RowKit
namespace Go.Proofs
noncomputable section
namespace Lb
set_option maxRecDepth 1000000
def prN (i:Nat):List (List Nat):=strsN (prA i)
def lsE (i:Nat):List (List Nat):=(negs (prN i)).map fun neg=>textE (bs i) (libN (libV i)) (strsN (reA i)) (nmN i) (prN i) neg
def lsP (p:Nat × Nat):List Nat:=(lsE p.1).getD p.2 []
def G0:List (Nat × Nat):=[(0,0),(0,1),(0,2),(0,3),(1,0),(2,0)]
def G1:List (Nat × Nat):=[(3,0),(4,0),(5,0),(5,1)]
def G2:List (Nat × Nat):=[(6,0),(7,0),(7,1)]
def G3:List (Nat × Nat):=[(8,0),(9,0)]
def G4:List (Nat × Nat):=[(9,1),(13,0)]
def G5:List (Nat × Nat):=[(10,0),(10,1),(10,2),(10,3),(13,1)]
def G6:List (Nat × Nat):=[(11,0),(11,1),(12,0),(12,1)]
def G7:List (Nat × Nat):=[(14,0),(14,1)]
def G8:List (Nat × Nat):=[(14,2),(14,3)]
def G9:List (Nat × Nat):=[(15,0)]
def G10:List (Nat × Nat):=[(15,1)]
def G11:List (Nat × Nat):=[(16,0)]
def G12:List (Nat × Nat):=[(17,0)]
def G13:List (Nat × Nat):=[(17,1)]
def G14:List (Nat × Nat):=[(18,0)]
def G15:List (Nat × Nat):=[(19,0)]
def G16:List (Nat × Nat):=[(19,1)]
def G17:List (Nat × Nat):=[(20,0)]
def G18:List (Nat × Nat):=[(21,0)]
def allG:List (Nat × Nat):=G0++(G1++(G2++(G3++(G4++(G5++(G6++(G7++(G8++(G9++(G10++(G11++(G12++(G13++(G14++(G15++(G16++(G17++(G18))))))))))))))))))
theorem cov:((List.range 22).all fun i=>(List.range (lsE i).length).all fun j=>allG.any fun p=>Nat.beq p.1 i && Nat.beq p.2 j)=true:=by kernel_rfl
end Lb
end
end Go.Proofs
