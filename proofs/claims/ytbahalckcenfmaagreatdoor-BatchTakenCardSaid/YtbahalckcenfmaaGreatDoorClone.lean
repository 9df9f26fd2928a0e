/-
  The contracts of slices.Clone at entries and at writes.
-/
import Derived.Test.YtbahalckcenfmaaGreatDoorJoin
namespace Go.Proofs.YtbahalckcenfmaaGreatDoor
open Go.RowKit

/-- An empty new row. -/
theorem own_empty (w : World) (e : TypeId) (size : Nat) : (w.alloc (.cells #[] e)).ownsRow w.heap.size e size (.slice (some ⟨w.heap.size, 0, none⟩) 0 0) 0 [] := by
  refine ⟨by simp, .inr ⟨w.heap.size, 0, #[], rfl, Nat.le_refl _, ?_, Nat.le_refl _, by unfold maxLen; omega, by simp, by simp⟩⟩
  exact heap_alloc_new _ _

/-- Cloned: nil stays nil; else a new row. -/
def CloneEPost (l : List Ent) (a : Option Addr) (w : World) (e : Ending) (w' : World) : Prop :=
  ∃ x, e = .returned x ∧ w'.ownsRow w.heap.size 45 2 x l.length (eCells l) ∧ (x = .slice none 0 0 ↔ a = none) ∧ Ext w w'

set_option maxRecDepth 100000 in
set_option maxHeartbeats 1000000 in
theorem CloneE_any (l : List Ent) (a : Option Addr) (c : Nat) (w : World) (hl : l.length < 1000000) (hc : l.length ≤ c) (hs : EntsAt w a l) (hn : a = none → c = 0) :
    Calls Tryz.prog 35 #[.slice a l.length c] w (CloneEPost l a w) := by
  obtain ⟨i0, hi0, hi1, hi2, hi3⟩ := info_parts info_Ent
  have q := fun (w : World) (a : Option Addr) (n c : Nat) => Lib.run_eql_slice_nil (P := Tryz.prog) w 22 45 a n c 0 0 Tryz.underlying22
  rcases a with _ | ad
  · have h0 := hs.row.none
    have hl0 : l = [] := by cases l with | nil => rfl | cons x l => simp [eCells] at h0
    subst hl0
    go_enter Tryz.func35, Tryz.ntmps35
    go_wp2_with fail
    go_ret
    exact ⟨_, rfl, World.ownsRow_nil _ _ _ _, by simp, Ext.refl _⟩
  · have hrow := hs.row
    have hnews : ∀ W, Ext w W → ∀ j u, (eCells l)[j]? = some u → W.cell? (ad.add j) = some u := by
      intro W hW j u hj
      rcases hrow with h | ⟨b, off, he, hb, h⟩
      · rw [h] at hj; cases hj
      · cases he
        have := hW.get (h j u hj)
        cases j with
        | zero => simpa [Addr.add] using this
        | succ j => simpa [Addr.add] using this
    have HN := Lib.hid hnews
    clear hnews hrow hs
    go_enter Tryz.func35, Tryz.ntmps35
    go_wp2_with (first
      | (at_builtin; refine wpList_append_own _ rfl _ _ 22 rfl w.heap.size 45 i0 _ 2 16 Tryz.underlying22 hi0 hi1 hi2 hi3 rfl (by decide) (.slice (some ⟨w.heap.size, 0, none⟩) 0 0) 0 [] rfl (own_empty w 45 2) ad l.length c (eCells l) rfl (eCells_length l) (HN.out _ ((Ext.refl _).alloc _)) (eCells_one l) (by unfold maxLen; omega) (by omega) (by simp) ?_; intro v' w1 hown hgrow hiff))
    go_ret
    exact ⟨_, rfl, by simpa using hown, by simp [hiff], ((Ext.refl _).alloc _).grown hgrow (by simp [Value.ownBlock])⟩

/-- Cloned: nil stays nil; else a new row. -/
def CloneWPost (l : List Wr) (a : Option Addr) (w : World) (e : Ending) (w' : World) : Prop :=
  ∃ x, e = .returned x ∧ w'.ownsRow w.heap.size 33 6 x l.length (wCells l) ∧ (x = .slice none 0 0 ↔ a = none) ∧ Ext w w'

set_option maxRecDepth 100000 in
set_option maxHeartbeats 1000000 in
theorem CloneW_any (l : List Wr) (a : Option Addr) (c : Nat) (w : World) (hl : l.length < 1000000) (hc : l.length ≤ c) (hs : WrsAt w a l) (hn : a = none → c = 0) :
    Calls Tryz.prog 31 #[.slice a l.length c] w (CloneWPost l a w) := by
  obtain ⟨i0, hi0, hi1, hi2, hi3⟩ := info_parts info_Wr
  have q := fun (w : World) (a : Option Addr) (n c : Nat) => Lib.run_eql_slice_nil (P := Tryz.prog) w 23 33 a n c 0 0 Tryz.underlying23
  rcases a with _ | ad
  · have h0 := hs.row.none
    have hl0 : l = [] := by cases l with | nil => rfl | cons x l => simp [wCells] at h0
    subst hl0
    go_enter Tryz.func31, Tryz.ntmps31
    go_wp2_with fail
    go_ret
    exact ⟨_, rfl, World.ownsRow_nil _ _ _ _, by simp, Ext.refl _⟩
  · have hrow := hs.row
    have hnews : ∀ W, Ext w W → ∀ j u, (wCells l)[j]? = some u → W.cell? (ad.add j) = some u := by
      intro W hW j u hj
      rcases hrow with h | ⟨b, off, he, hb, h⟩
      · rw [h] at hj; cases hj
      · cases he
        have := hW.get (h j u hj)
        cases j with
        | zero => simpa [Addr.add] using this
        | succ j => simpa [Addr.add] using this
    have HN := Lib.hid hnews
    clear hnews hrow hs
    go_enter Tryz.func31, Tryz.ntmps31
    go_wp2_with (first
      | (at_builtin; refine wpList_append_own _ rfl _ _ 23 rfl w.heap.size 33 i0 _ 6 64 Tryz.underlying23 hi0 hi1 hi2 hi3 rfl (by decide) (.slice (some ⟨w.heap.size, 0, none⟩) 0 0) 0 [] rfl (own_empty w 33 6) ad l.length c (wCells l) rfl (wCells_length l) (HN.out _ ((Ext.refl _).alloc _)) (wCells_one l) (by unfold maxLen; omega) (by omega) (by simp) ?_; intro v' w1 hown hgrow hiff))
    go_ret
    exact ⟨_, rfl, by simpa using hown, by simp [hiff], ((Ext.refl _).alloc _).grown hgrow (by simp [Value.ownBlock])⟩

end Go.Proofs.YtbahalckcenfmaaGreatDoor
