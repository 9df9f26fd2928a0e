/-
  Two batches that are filled side by side.
-/
import Derived.Test.YtbahalckcenfmaaGreatDoorLogA
import Derived.Test.YtbahalckcenfmaaGreatDoorCelS
namespace Go.Proofs.YtbahalckcenfmaaGreatDoor
open Go.RowKit
set_option linter.unusedSimpArgs false
set_option linter.unusedVariables false

structure PartAt (w7 wr : World) (B5 B6 : Nat) (u v2 : Value) (xs ys : List Wr) (va vb : Value) : Prop where
  b5 : wr.heap[B5]? = some (.cells #[.slice none 0 0, u, va] 25 (0, 0))
  b6 : wr.heap[B6]? = some (.cells #[u, v2, vb] 25 (0, 0))
  oa : wr.ownsRow w7.heap.size 33 6 va xs.length (wCells xs)
  ob : wr.ownsRow w7.heap.size 33 6 vb ys.length (wCells ys)
  ap : ∀ k, va.ownBlock = some k → vb.ownBlock ≠ some k
  ext : Ext w7 wr
theorem PartAt.more {w7 wr w' : World} {B5 B6 : Nat} {u v2 : Value} {xs ys : List Wr} {va vb : Value} (h : PartAt w7 wr B5 B6 u v2 xs ys va vb) (hx : Ext wr w') : PartAt w7 w' B5 B6 u v2 xs ys va vb :=
  ⟨(hx.block _ (lt_blk h.b5)).trans h.b5, (hx.block _ (lt_blk h.b6)).trans h.b6, own_ext h.oa hx, own_ext h.ob hx, h.ap, h.ext.trans hx⟩
theorem PartAt.putA {w7 W3 w9 : World} {B5 B6 : Nat} {u v2 : Value} {xs ys : List Wr} {va vb v' : Value} {g n : Nat} {x : Wr} (h : PartAt w7 W3 B5 B6 u v2 xs ys va vb) (hne : B5 ≠ B6) (h5 : w7.heap.size ≤ B5)
    (own9 : w9.ownsRow w7.heap.size 33 6 v' n (wCells xs ++ wCells1 x)) (hn : n = xs.length + 1) (hgr : W3.grownBy w9 va.ownBlock) (hv : v'.ownBlock = some g) (hat : va.ownBlock = some g ∨ g = W3.heap.size) :
    PartAt w7 (w9.setCell ⟨B5, 2, none⟩ v') B5 B6 u v2 (xs ++ [x]) ys v' vb := by
  have n5 := own_ne h.oa h.b5 (by decide)
  have n6 := own_ne h.oa h.b6 (by decide)
  have m5 := own_ne h.ob h.b5 (by decide)
  have k5 := (hgr.block B5 (lt_blk h.b5) (Ne.symm n5)).trans h.b5
  have k6 := (hgr.block B6 (lt_blk h.b6) (Ne.symm n6)).trans h.b6
  have o5 := own_ne own9 k5 (by decide)
  have e : wCells (xs ++ [x]) = wCells xs ++ wCells1 x := by rw [wCells_append]; simp [wCells, wCells1]
  refine ⟨by simpa using set_blk k5 (i := 2) v', (set_far w9 ⟨B5, 2, none⟩ v' B6 (Ne.symm hne)).trans k6, ?_, own_set (own_grown hgr h.ob (fun k hk e => h.ap k e.symm hk)) m5 _, fun k hk => ?_, (h.ext.grown hgr (fun k hk => own_ge h.oa k hk)).set h5 _⟩
  · rw [e]
    have := own_set own9 (a := ⟨B5, 2, none⟩) o5 v'
    subst hn
    simpa using this
  · rw [hv] at hk
    cases hk
    rcases hat with hat | hat
    · exact h.ap _ hat
    · intro hk
      have := own_lt h.ob _ hk
      omega
theorem PartAt.putB {w7 W3 w9 : World} {B5 B6 : Nat} {u v2 : Value} {xs ys : List Wr} {va vb v' : Value} {g n : Nat} {x : Wr} (h : PartAt w7 W3 B5 B6 u v2 xs ys va vb) (hne : B5 ≠ B6) (h6 : w7.heap.size ≤ B6)
    (own9 : w9.ownsRow w7.heap.size 33 6 v' n (wCells ys ++ wCells1 x)) (hn : n = ys.length + 1) (hgr : W3.grownBy w9 vb.ownBlock) (hv : v'.ownBlock = some g) (hat : vb.ownBlock = some g ∨ g = W3.heap.size) :
    PartAt w7 (w9.setCell ⟨B6, 2, none⟩ v') B5 B6 u v2 xs (ys ++ [x]) va v' := by
  have n5 := own_ne h.ob h.b5 (by decide)
  have n6 := own_ne h.ob h.b6 (by decide)
  have m6 := own_ne h.oa h.b6 (by decide)
  have k5 := (hgr.block B5 (lt_blk h.b5) (Ne.symm n5)).trans h.b5
  have k6 := (hgr.block B6 (lt_blk h.b6) (Ne.symm n6)).trans h.b6
  have o6 := own_ne own9 k6 (by decide)
  have e : wCells (ys ++ [x]) = wCells ys ++ wCells1 x := by rw [wCells_append]; simp [wCells, wCells1]
  refine ⟨(set_far w9 ⟨B6, 2, none⟩ v' B5 hne).trans k5, by simpa using set_blk k6 (i := 2) v', own_set (own_grown hgr h.oa (fun k hk e => h.ap k hk e.symm)) m6 _, ?_, fun k hk hk2 => ?_, (h.ext.grown hgr (fun k hk => own_ge h.ob k hk)).set h6 _⟩
  · rw [e]
    have := own_set own9 (a := ⟨B6, 2, none⟩) o6 v'
    subst hn
    simpa using this
  · rw [hv] at hk2
    cases hk2
    rcases hat with hat | hat
    · exact h.ap _ hk hat
    · have := own_lt h.oa _ hk
      omega
theorem two_blks (W : World) (o1 o2 : Obj) : ((W.alloc o1).alloc o2).drew.heap[W.heap.size]? = some o1 ∧ ((W.alloc o1).alloc o2).drew.heap[W.heap.size + 1]? = some o2 :=
  ⟨(((Ext.refl _).alloc o2).block _ (by simp)).trans (heap_alloc_new W o1), blk_new (W.alloc o1) o2 _ (by simp)⟩

end Go.Proofs.YtbahalckcenfmaaGreatDoor
