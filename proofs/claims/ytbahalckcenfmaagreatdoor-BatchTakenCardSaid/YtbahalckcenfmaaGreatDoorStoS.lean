/-
  What the store does: plain. No program in sight.
-/
import Derived.Test.YtbahalckcenfmaaGreatDoorLogA
namespace Go.Proofs.YtbahalckcenfmaaGreatDoor
open Go.RowKit

/-- A cell. -/
structure Cel where
  key : ByteArray
  has : Bool
  text : ByteArray
  sum : Int
  list : List ByteArray
deriving DecidableEq

/-- What stands at each key. -/
abbrev St := ByteArray → Option Cel
def Cel.zero (k : ByteArray) : Cel := ⟨k, false, ⟨#[]⟩, 0, []⟩
def St.set (s : St) (k : ByteArray) (c : Option Cel) : St := fun k' => if k' = k then c else s k'
def insStr (l : List ByteArray) (i : Nat) (x : ByteArray) : List ByteArray := l.take i ++ x :: l.drop i
/-- What a write does to its cell. -/
def celDo (c : Cel) (x : Wr) : Cel :=
  if x.kind = 1 then { c with has := true, text := x.val }
  else if x.kind = 3 then { c with sum := IntKind.i64.wrap (c.sum + x.n) }
  else if x.kind = 4 then { c with list := insStr c.list (min x.n.toNat c.list.length) x.val }
  else c
/-- What a write that is right does. -/
def stDo (s : St) (x : Wr) : St :=
  if x.kind = 2 then s.set x.key none else s.set x.key (some (celDo ((s x.key).getD (Cel.zero x.key)) x))
/-- A cell that has something. -/
def Cel.some_ (c : Cel) : Bool := c.has || (c.sum != 0 || decide (0 < c.list.length))

end Go.Proofs.YtbahalckcenfmaaGreatDoor
