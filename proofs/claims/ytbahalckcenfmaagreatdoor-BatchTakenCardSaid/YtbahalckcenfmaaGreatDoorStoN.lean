/-
  The contract of store.New.
-/
import Derived.Test.YtbahalckcenfmaaGreatDoorSto
namespace Go.Proofs.YtbahalckcenfmaaGreatDoor
open Go.RowKit Go.Maps

def SNewPost (w : World) (e : Ending) (w' : World) : Prop :=
  e = .returned (.pointer (some ⟨w.heap.size + 1, 0, none⟩)) ∧ StAt w' w.heap.size (w.heap.size + 1) w.heap.size 0 (fun _ => none) (fun _ => 0) (fun _ => .slice none 0 0) (.map []) ∧ Ext w w'
theorem SNew_any (w : World) : Calls Tryz.prog 49 #[] w (SNewPost w) := by
  have hmm := @run_makeMap Tryz.prog
  go_enter Tryz.func49, Tryz.ntmps49
  go_wp2_with fail
  go_ret
  refine ⟨rfl, ⟨by exact blk_new _ _ _ (by simp), (World.ownsMap_made w _ _ _).alloc _, fun k hk => rfl, fun k c h => (by cases h), fun k c h => (by cases h), fun k c h => (by cases h), fun k k' c c' h => (by cases h), fun k k' c c' g h => (by cases h), by omega, Nat.le_refl _⟩, ((Ext.refl _).alloc _).alloc _⟩

end Go.Proofs.YtbahalckcenfmaaGreatDoor
