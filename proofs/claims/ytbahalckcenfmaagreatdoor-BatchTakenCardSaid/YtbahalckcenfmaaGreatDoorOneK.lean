/-
  The laws' one().
-/
import Derived.Test.YtbahalckcenfmaaGreatDoorBatch
namespace Go.Proofs.YtbahalckcenfmaaGreatDoor
open Go.RowKit
set_option linter.unusedSimpArgs false
set_option linter.unusedVariables false

theorem wrs_one (W : World) (b : Nat) (x : Wr) (hb : b = W.heap.size) : WrsAt (W.alloc (.cells #[.int .i64 x.t, .int .i64 x.r, .int .i64 x.kind, .string x.key, .string x.val, .int .i64 x.n] 33)) (some ⟨b, 0, none⟩) [x] := by
  subst hb
  refine .inr ⟨W.heap.size, 0, rfl, by simp, fun k h => ?_⟩
  obtain rfl : k = 0 := by simp at h; omega
  have hB := heap_alloc_new W (.cells #[.int .i64 x.t, .int .i64 x.r, .int .i64 x.kind, .string x.key, .string x.val, .int .i64 x.n] 33)
  exact ⟨cell_blk hB rfl, cell_blk hB rfl, cell_blk hB rfl, cell_blk hB rfl, cell_blk hB rfl, cell_blk hB rfl⟩
set_option maxRecDepth 100000 in
set_option maxHeartbeats 4000000 in
theorem one_any (w : World) : Calls Tryz.prog 18 #[] w fun e w' =>
    ∃ bh bw, e = .returned (.agg #[.slice none 0 0, .slice (some ⟨bh, 0, none⟩) 1 1, .slice (some ⟨bw, 0, none⟩) 1 1]) ∧ EntsAt w' (some ⟨bh, 0, none⟩) [⟨3, 7⟩] ∧ WrsAt w' (some ⟨bw, 0, none⟩) [⟨7, 3, 1, ⟨#[107]⟩, ⟨#[118]⟩, 0⟩] ∧ Ext w w' := by
  go_enter Tryz.func18, Tryz.ntmps18
  go_wp2_with fail
  refine bodyPost_ret (v := .agg #[.slice none 0 0, .slice (some ⟨w.heap.size + 1, 0, none⟩) 1 1, .slice (some ⟨w.heap.size + 1 + 1, 0, none⟩) 1 1]) ?_ rfl ?_
  · simp [results, Tryz.results18, go_sem]
  · refine ⟨_, _, rfl, ?_, ?_, (((Ext.refl _).alloc _).alloc _).alloc _⟩
    · exact (ents_one _ _ ⟨3, 7⟩ (by simp)).ext ((Ext.refl _).alloc _)
    · exact wrs_one _ _ ⟨7, 3, 1, ⟨#[107]⟩, ⟨#[118]⟩, 0⟩ (by simp)

end Go.Proofs.YtbahalckcenfmaaGreatDoor
