/-
  The contracts of package ident, and of what it calls in package cmp.
-/
import Derived.Test.YtbahalckcenfmaaGreatDoorCov
import Derived.Deep.RegionHeld3
namespace Go.Proofs.YtbahalckcenfmaaGreatDoor
open Go.RowKit

theorem isNaN_any (a : Int) (w : World) : Calls Tryz.prog 52 #[.int .i64 a] w fun e w' => e = .returned (.bool false) ∧ w = w' := by
  have h : (a != a) = false := by simp
  go_enter Tryz.func52, Tryz.ntmps52
  go_wp2
  go_ret
  exact ⟨by simp, rfl⟩

set_option maxHeartbeats 400000 in
theorem cmp_any (a b : Int) (w : World) : Calls Tryz.prog 41 #[.int .i64 a, .int .i64 b] w fun e w' => e = .returned (.int .i64 (icmp a b)) ∧ w = w' := by
  rcases Int.lt_trichotomy a b with h | h | h
  · go_enter Tryz.func41, Tryz.ntmps41
    go_wp2_with (go_at_call 52; refine (isNaN_any _ _).mono ?_; rintro e w' ⟨rfl, rfl⟩)
    go_ret
    exact ⟨ret_int (by simp [icmp, h]), rfl⟩
  · subst h
    have h1 : ¬ a < a := by omega
    go_enter Tryz.func41, Tryz.ntmps41
    go_wp2_with (go_at_call 52; refine (isNaN_any _ _).mono ?_; rintro e w' ⟨rfl, rfl⟩)
    go_ret
    exact ⟨ret_int (by simp [icmp]), rfl⟩
  · have h1 : ¬ a < b := by omega
    go_enter Tryz.func41, Tryz.ntmps41
    go_wp2_with (go_at_call 52; refine (isNaN_any _ _).mono ?_; rintro e w' ⟨rfl, rfl⟩)
    go_ret
    exact ⟨ret_int (by simp [icmp, h, h1]), rfl⟩

set_option maxHeartbeats 400000 in
theorem or_any (a b : Int) (g c : Nat) (w : World) (h0 : w.cell? ⟨g, 0, none⟩ = some (.int .i64 a)) (h1 : w.cell? ⟨g, 1, none⟩ = some (.int .i64 b)) :
    Calls Tryz.prog 40 #[.slice (some ⟨g, 0, none⟩) 2 c] w fun e w' => e = .returned (.int .i64 (orI a b)) ∧ w = w' := by
  go_enter Tryz.func40, Tryz.ntmps40
  go_wp2_with fail
  refine wp_loop_rounds 3 ?_
  rw [rounds_succ]
  by_cases ha : a = 0
  · have ha' : (a != 0) = false := by simp [ha]
    have HA := Lib.hid ha
    clear ha
    go_wp2_with fail
    rw [rounds_succ]
    by_cases hb : b = 0
    · have hb' : (b != 0) = false := by simp [hb]
      have HB := Lib.hid hb
      clear hb
      go_wp2_with fail
      rw [rounds_succ]
      go_wp2_with fail
      go_ret
      exact ⟨ret_int (by rw [orI, HA.out, HB.out]; simp), rfl⟩
    · have hb' : (b != 0) = true := by simp [hb]
      clear hb
      go_wp2_with fail
      go_ret
      exact ⟨ret_int (by rw [orI, HA.out]; simp), rfl⟩
  · have ha' : (a != 0) = true := by simp [ha]
    have HA := Lib.hid ha
    clear ha
    go_wp2_with fail
    go_ret
    exact ⟨ret_int (by rw [orI, if_pos HA.out]), rfl⟩

set_option maxHeartbeats 1000000 in
theorem idCmp_any (t1 r1 t2 r2 : Int) (w : World) :
    Calls Tryz.prog 28 #[.agg #[.int .i64 t1, .int .i64 r1], .agg #[.int .i64 t2, .int .i64 r2]] w fun e w' => e = .returned (.int .i64 (idCmp t1 r1 t2 r2)) ∧ Ext w w' := by
  go_enter Tryz.func28, Tryz.ntmps28
  go_wp2_with fail
  go_region_held3 (fun w' => w'.cell? ⟨w.heap.size, 0, none⟩ = some (.int .i64 t1) ∧ w'.cell? ⟨w.heap.size, 1, none⟩ = some (.int .i64 r1) ∧ w'.cell? ⟨w.heap.size + 1, 0, none⟩ = some (.int .i64 t2) ∧ w'.cell? ⟨w.heap.size + 1, 1, none⟩ = some (.int .i64 r2))
    (go_keep)
    (first
      | (go_at_call 41; refine (cmp_any _ _ _).mono ?_; rintro e w' ⟨rfl, rfl⟩)
      | (go_at_call 40; refine (or_any (icmp t1 t2) (icmp r1 r2) _ _ _ (by exact cell_new_drew _ _ _ _ _ _ (by simp) rfl) (by exact cell_new_drew _ _ _ _ _ _ (by simp) rfl)).mono ?_; rintro e w' ⟨rfl, rfl⟩))
  all_goals (go_wp2_with fail)
  all_goals go_ret
  all_goals exact ⟨rfl, ((((Ext.refl _).alloc _).alloc _).alloc _).drew⟩

set_option maxHeartbeats 400000 in
theorem idRight_any (t r : Int) (w : World) :
    Calls Tryz.prog 44 #[.agg #[.int .i64 t, .int .i64 r]] w fun e w' => e = .returned (.bool (decide (okId t r))) ∧ Ext w w' := by
  go_enter Tryz.func44, Tryz.ntmps44
  by_cases h1 : 1 ≤ t
  · by_cases h2 : t ≤ 1099511627776
    · by_cases h3 : 0 ≤ r
      · by_cases h4 : r ≤ 200
        · go_wp2
          go_ret
          exact ⟨ret_bool (by simp [okId, h1, h2, h3, h4]), (Ext.refl _).alloc _⟩
        · go_wp2
          go_ret
          exact ⟨ret_bool (by rw [decide_eq_false (by unfold okId; omega)]), (Ext.refl _).alloc _⟩
      · go_wp2
        go_ret
        exact ⟨ret_bool (by rw [decide_eq_false (by unfold okId; omega)]), (Ext.refl _).alloc _⟩
    · go_wp2
      go_ret
      exact ⟨ret_bool (by rw [decide_eq_false (by unfold okId; omega)]), (Ext.refl _).alloc _⟩
  · go_wp2
    go_ret
    exact ⟨ret_bool (by rw [decide_eq_false (by unfold okId; omega)]), (Ext.refl _).alloc _⟩

end Go.Proofs.YtbahalckcenfmaaGreatDoor
