/-
  The laws' fact known().
-/
import Derived.Test.YtbahalckcenfmaaGreatDoorVWr
import Derived.Test.YtbahalckcenfmaaGreatDoorEqE
import Derived.Test.YtbahalckcenfmaaGreatDoorLPl
namespace Go.Proofs.YtbahalckcenfmaaGreatDoor
open Go.RowKit
set_option linter.unusedSimpArgs false
set_option linter.unusedVariables false

theorem kn_merge : vMerge [⟨1, 5⟩, ⟨2, 3⟩] [⟨2, 9⟩, ⟨7, 1⟩] = [⟨1, 5⟩, ⟨2, 9⟩, ⟨7, 1⟩] := by
  rw [vMerge_lt _ _ _ _ (by decide), vMerge_eq ⟨2, 3⟩ ⟨2, 9⟩ _ _ rfl, vMerge_nil_left]; rfl
theorem kn_right (a b c d : Int) (h : vRightGo 0 none [⟨a, b⟩, ⟨c, d⟩] = .nil) : vRight [⟨a, b⟩, ⟨c, d⟩] = .nil := by
  rw [vRight, if_neg (by simp)]; exact h
theorem kn_join : vJoin [⟨1, 5⟩, ⟨2, 3⟩] [⟨2, 9⟩, ⟨7, 1⟩] = .inr [⟨1, 5⟩, ⟨2, 9⟩, ⟨7, 1⟩] := by
  rw [vJoin_ok (by decide +kernel) (by decide +kernel) (by rw [kn_merge]; simp), kn_merge]
theorem kn_write : vWrite [⟨1, 5⟩, ⟨2, 9⟩, ⟨7, 1⟩] = [2, 1, 1, 5, 9, 3, 0, 1] := by
  have h : vWrGo 0 [⟨1, 5⟩, ⟨2, 9⟩, ⟨7, 1⟩] = (2, [1, 1, 5, 9, 3, 0, 1]) := by
    rw [vWrGo]
    have r1 : runN (1 + 1) [⟨2, 9⟩, ⟨7, 1⟩] = 1 := by decide
    simp only [r1, List.drop, List.take]
    rw [vWrGo]
    have r2 : runN (7 + 1) [] = 0 := by decide
    simp only [r2, List.drop, List.take]
    rw [vWrGo]
    simp [tBytes, vput_lt]
  rw [vWrite, h]
  simp [vput_lt]
theorem kn_right3 : vRight [⟨1, 5⟩, ⟨2, 9⟩, ⟨7, 1⟩] = .nil := by decide +kernel
theorem kn_cov : vCovers [⟨1, 5⟩, ⟨2, 3⟩] [⟨2, 9⟩, ⟨7, 1⟩] = false := by decide +kernel
theorem ents_two (W : World) (b : Nat) (x y : Ent) (hb : b = W.heap.size) : EntsAt (W.alloc (.cells #[.int .i64 x.r, .int .i64 x.t, .int .i64 y.r, .int .i64 y.t] 45)) (some ⟨b, 0, none⟩) [x, y] := by
  subst hb
  refine .inr ⟨W.heap.size, 0, rfl, by simp, fun k h => ?_⟩
  have hB := heap_alloc_new W (.cells #[.int .i64 x.r, .int .i64 x.t, .int .i64 y.r, .int .i64 y.t] 45)
  obtain rfl | rfl : k = 0 ∨ k = 1 := by simp at h; omega
  · exact ⟨cell_blk hB rfl, cell_blk hB rfl⟩
  · exact ⟨cell_blk hB rfl, cell_blk hB rfl⟩
theorem ents_three (W : World) (b : Nat) (x y z : Ent) (hb : b = W.heap.size) : EntsAt (W.alloc (.cells #[.int .i64 x.r, .int .i64 x.t, .int .i64 y.r, .int .i64 y.t, .int .i64 z.r, .int .i64 z.t] 45)) (some ⟨b, 0, none⟩) [x, y, z] := by
  subst hb
  refine .inr ⟨W.heap.size, 0, rfl, by simp, fun k h => ?_⟩
  have hB := heap_alloc_new W (.cells #[.int .i64 x.r, .int .i64 x.t, .int .i64 y.r, .int .i64 y.t, .int .i64 z.r, .int .i64 z.t] 45)
  obtain rfl | rfl | rfl : k = 0 ∨ k = 1 ∨ k = 2 := by simp at h; omega
  · exact ⟨cell_blk hB rfl, cell_blk hB rfl⟩
  · exact ⟨cell_blk hB rfl, cell_blk hB rfl⟩
  · exact ⟨cell_blk hB rfl, cell_blk hB rfl⟩

set_option maxRecDepth 100000 in
set_option maxHeartbeats 4000000 in
theorem known_any (w : World) (hg : Good w) : Calls Tryz.prog 6 #[] w fun e w' => e = .returned (.bool true) ∧ Ext w w' := by
  go_enter Tryz.func6, Tryz.ntmps6
  go_wp2_with fail
  have hx0 : Ext w ((w.alloc (.cells #[.int .i64 1, .int .i64 5, .int .i64 2, .int .i64 3] 45)).alloc (.cells #[.int .i64 2, .int .i64 9, .int .i64 7, .int .i64 1] 45)) := ((Ext.refl _).alloc _).alloc _
  have ha := (ents_two w _ ⟨1, 5⟩ ⟨2, 3⟩ rfl).ext ((Ext.refl _).alloc (.cells #[.int .i64 2, .int .i64 9, .int .i64 7, .int .i64 1] 45))
  have hb := ents_two (w.alloc (.cells #[.int .i64 1, .int .i64 5, .int .i64 2, .int .i64 3] 45)) (w.heap.size + 1) ⟨2, 9⟩ ⟨7, 1⟩ (by simp)
  refine (Join_any [⟨1, 5⟩, ⟨2, 3⟩] [⟨2, 9⟩, ⟨7, 1⟩] (some ⟨w.heap.size, 0, none⟩) (some ⟨w.heap.size + 1, 0, none⟩) 2 2 _ (hg.ext hx0) (by simp) (by simp) (by simp) (by simp) ha hb).mono ?_
  rintro e w1 ⟨_, hok, hx1⟩
  obtain ⟨x, rfl, hxo⟩ := hok _ kn_join
  obtain ⟨xa, xc, rfl, hxc, hxr, -, -⟩ := own_row hxo
  replace ha := ha.ext hx1
  replace hb := hb.ext hx1
  have hy1 := hx0.trans hx1
  have hxe := hxr.ents
  clear hok hx0 hx1 hxo hxr
  rw [show [(⟨1, 5⟩ : Ent), ⟨2, 9⟩, ⟨7, 1⟩].length = 3 from rfl] at hxc ⊢
  go_wp2_with fail
  refine (VWrite_any [⟨1, 5⟩, ⟨2, 9⟩, ⟨7, 1⟩] xa xc _ (by simp) hxc hxe).mono ?_
  rintro e w2 ⟨hvw, hx2⟩
  have he : e = .returned (.tuple #[bStr [2, 1, 1, 5, 9, 3, 0, 1], .nilIface]) := by
    rcases hvw with ⟨_, h⟩ | ⟨h, _⟩
    · rw [h, kn_write]
    · exact absurd kn_right3 h
  clear hvw
  subst he
  unfold bStr
  replace ha := ha.ext hx2
  replace hb := hb.ext hx2
  replace hxe := hxe.ext hx2
  replace hy1 := hy1.trans hx2
  clear hx2
  go_wp2_with fail
  refine (EqE_any [⟨1, 5⟩, ⟨2, 9⟩, ⟨7, 1⟩] [⟨1, 5⟩, ⟨2, 9⟩, ⟨7, 1⟩] xa (some ⟨w2.heap.size, 0, none⟩) xc 3 _ (by simp) (hxe.ext ((Ext.refl _).alloc _)) (ents_three w2 _ ⟨1, 5⟩ ⟨2, 9⟩ ⟨7, 1⟩ rfl)).mono ?_
  rintro e w3 ⟨rfl, hx3⟩
  rw [decide_eq_true rfl]
  have hx23 := ((Ext.refl w2).alloc _).trans hx3
  replace ha := ha.ext hx23
  replace hb := hb.ext hx23
  replace hxe := hxe.ext hx23
  replace hy1 := hy1.trans hx23
  clear hx3 hx23
  go_wp2_with fail
  refine (Of_any [⟨1, 5⟩, ⟨2, 9⟩, ⟨7, 1⟩] 2 xa xc _ (by simp) hxe).mono ?_
  rintro e w4 ⟨rfl, hx4⟩
  rw [show vOf [⟨1, 5⟩, ⟨2, 9⟩, ⟨7, 1⟩] 2 = 9 by decide]
  go_wp2_with fail
  refine (Covers_any [⟨1, 5⟩, ⟨2, 3⟩] [⟨2, 9⟩, ⟨7, 1⟩] (some ⟨w.heap.size, 0, none⟩) (some ⟨w.heap.size + 1, 0, none⟩) 2 2 _ (by simp) (by simp) (ha.ext hx4) (hb.ext hx4)).mono ?_
  rintro e w5 ⟨rfl, hx5⟩
  rw [kn_cov]
  go_wp2_with fail
  go_ret
  exact ⟨rfl, (hy1.trans hx4).trans hx5⟩

end Go.Proofs.YtbahalckcenfmaaGreatDoor
