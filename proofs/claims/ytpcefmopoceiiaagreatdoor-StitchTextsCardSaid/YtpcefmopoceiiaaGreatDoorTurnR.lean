/- The head of the texts on ranges over functions; what a call that returns stitches and an error has done. -/
import Derived.RangeFuncNested
import Derived.RangeFuncBound
import Derived.RangeFuncCalls
import Derived.RangeFuncLeaves
import Derived.Shelf.Abstract
import Derived.Shelf.RegionOpen
import Derived.WalkKit
import Derived.OwnWalkIn
import Derived.TacticsInMore
import Derived.LoopNIn
import Derived.LoopIn
import Derived.Test.YtpcefmopoceiiaaGreatDoorStitchC
import Derived.Test.YtpcefmopoceiiaaGreatDoorApp
import Derived.Test.YtpcefmopoceiiaaGreatDoorOther
namespace Go.Proofs.YtpcefmopoceiiaaGreatDoor
set_option maxRecDepth 100000
open Go.RowKit Go.ChangeShapes Go.WideShapes Go.Joins Go.Shelf
/-- a call has returned a list of stitches and an error -/
def FaceR (L : List St) (x : Int) (w : World) (e : Ending) (w' : World) : Prop := ∃ (A : Option Addr) (n c : Nat), e = .returned (.tuple #[.slice A n c, .int .i64 x]) ∧ Ext w w' ∧ Vec shSt w' A n L
/-- a call has returned a list of stitches -/
def StsL (l : List St) (w : World) (e : Ending) (w' : World) : Prop := ∃ (A : Option Addr) (n c : Nat), e = .returned (.slice A n c) ∧ Ext w w' ∧ Vec shSt w' A n l
end Go.Proofs.YtpcefmopoceiiaaGreatDoor
