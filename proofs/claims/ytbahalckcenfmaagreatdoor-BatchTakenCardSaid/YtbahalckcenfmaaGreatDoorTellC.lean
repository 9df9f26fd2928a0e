/-
  api.Tell by its contract: the number that an error bears.
-/
import Derived.Test.YtbahalckcenfmaaGreatDoorTellB
namespace Go.Proofs.YtbahalckcenfmaaGreatDoor
open Go.RowKit

theorem Good.alloc {w : World} (h : Good w) (o : Obj) : Good (w.alloc o) := h.below ((Below.refl _ _).alloc (Nat.le_refl _) o)

/-- What an errors.As that hit leaves of the rest. -/
theorem tl_frame (w : World) (o0 o1 o2 o3 o4 : Obj) : Below w.heap.size w (((((w.alloc o0).alloc o1).alloc o2).alloc o3).alloc o4) :=
  ((((((Below.refl _ _).alloc (Nat.le_refl _) _).alloc (by simp) _).alloc (by simp; omega) _).alloc (by simp; omega) _).alloc (by simp; omega) _)

set_option maxHeartbeats 400000 in
theorem Tell_any (v : Value) (er : Er) (w : World) (he : IsEr w v er) (hg : Good w) :
    Calls Tryz.prog 20 #[v] w fun x w' => x = .returned (.int .i64 er.tell) ∧ Below w.heap.size w w' := by
  cases er with
  | nil =>
    obtain rfl : v = _ := he
    go_enter Tryz.func20, Tryz.ntmps20
    go_wp2
    go_ret
    exact ⟨rfl, Below.refl _ _⟩
  | no k =>
    obtain rfl : v = _ := he
    have hc := tl_as_hit k ⟨w.heap.size, 0, none⟩ (.int .i64 0) (w.alloc (.cells #[.int .i64 0] 50)) (hg.alloc _) (by simp) (by simp)
    go_enter Tryz.func20, Tryz.ntmps20
    go_wp2_with (go_at_call 37; refine hc.mono ?_; rintro e w' ⟨rfl, rfl⟩)
    go_ret
    exact ⟨by simp [Er.tell], tl_frame ..⟩
  | plc k p =>
    obtain ⟨b, rfl, hlt, h0, h1⟩ := he
    have hc := tl_as_at b k ⟨w.heap.size, 0, none⟩ (.int .i64 0) (w.alloc (.cells #[.int .i64 0] 50)) (hg.alloc _) (by rw [World.cell?_alloc_lt _ _ ⟨b, 0, none⟩ hlt]; exact h0) (by simp) (by simp)
    go_enter Tryz.func20, Tryz.ntmps20
    go_wp2_with (go_at_call 37; refine hc.mono ?_; rintro e w' ⟨rfl, rfl⟩)
    go_ret
    exact ⟨by simp [Er.tell], tl_frame ..⟩

end Go.Proofs.YtbahalckcenfmaaGreatDoor
