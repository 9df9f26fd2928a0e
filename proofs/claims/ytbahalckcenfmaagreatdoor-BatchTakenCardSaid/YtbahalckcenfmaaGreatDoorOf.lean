/-
  The contracts of store.Of and of (*log.Log).Cells, where all writes are right.
-/
import Derived.Test.YtbahalckcenfmaaGreatDoorCel
import Derived.Test.YtbahalckcenfmaaGreatDoorSin
import Derived.Test.YtbahalckcenfmaaGreatDoorStoN
namespace Go.Proofs.YtbahalckcenfmaaGreatDoor
open Go.RowKit Go.Maps
set_option linter.unusedSimpArgs false
set_option linter.unusedVariables false

/-- What writes come to, one behind the other. -/
def stAll (l : List Wr) : St := l.foldl stDo (fun _ => none)
theorem stAll_snoc (l : List Wr) (x : Wr) : stAll (l ++ [x]) = stDo (stAll l) x := by simp [stAll, List.foldl_append]
theorem stAll_take (l : List Wr) (k : Nat) (h : k < l.length) : stAll (l.take (k + 1)) = stDo (stAll (l.take k)) l[k] := by
  rw [List.take_succ_eq_append_getElem h, stAll_snoc]
theorem celDo_len (c : Cel) (x : Wr) : (celDo c x).list.length ≤ c.list.length + 1 := by
  unfold celDo
  split
  · simp
  split
  · simp
  split
  · simp only
    rw [insStr_length _ _ _ (by omega)]; omega
  · omega
theorem stDo_len {s : St} {x : Wr} {m : Nat} (ih : ∀ k c, s k = some c → c.list.length ≤ m) : ∀ k c, stDo s x k = some c → c.list.length ≤ m + 1 := by
  intro k c h
  unfold stDo at h
  split at h
  · by_cases hk : k = x.key
    · subst hk; rw [St.set_same] at h; cases h
    · rw [St.set_other _ _ hk] at h
      have := ih _ _ h; omega
  · by_cases hk : k = x.key
    · subst hk; rw [St.set_same] at h; cases h
      have h1 := celDo_len ((s x.key).getD (Cel.zero x.key)) x
      rcases hq : s x.key with _ | c0
      · rw [hq] at h1; simp [Cel.zero] at h1 ⊢; omega
      · rw [hq] at h1
        have := ih _ _ hq
        simp at h1 ⊢; omega
    · rw [St.set_other _ _ hk] at h
      have := ih _ _ h; omega
theorem stAll_len (l : List Wr) : ∀ m, m ≤ l.length → ∀ k c, stAll (l.take m) k = some c → c.list.length ≤ m
  | 0, _ => fun k c h => by simp [stAll] at h
  | m + 1, hm => by
    rw [stAll_take l m (by omega)]
    exact stDo_len (stAll_len l m (by omega))
theorem wRight_ok {x : Wr} (h : wRight x = .nil) : x.key.size ≤ 40 ∧ x.val.size ≤ 300 ∧ 1 ≤ x.kind ∧ x.kind ≤ 4 ∧ okId x.t x.r := by
  unfold wRight at h
  split at h
  · cases h
  split at h
  · cases h
  split at h
  · cases h
  rename_i h1 h2 h3
  exact ⟨by omega, by omega, by omega, by omega, by simpa using h2⟩

def OfPost (l : List Wr) (w : World) (e : Ending) (w' : World) : Prop :=
  ∃ v ps, e = .returned (.tuple #[v, .nilIface]) ∧ CelsAt w' w.heap.size v ps ∧ CelsOf (stAll l) (ps.map Prod.fst) ∧ Ext w w'

set_option maxRecDepth 100000 in
set_option maxHeartbeats 4000000 in
theorem StOf_any (l : List Wr) (a : Option Addr) (c : Nat) (w : World) (hl : l.length < 10000) (hs : WrsAt w a l) (hr : ∀ x ∈ l, wRight x = .nil) :
    Calls Tryz.prog 38 #[.slice a l.length c] w (OfPost l w) := by
  go_enter Tryz.func38, Tryz.ntmps38
  go_wp2_with fail
  refine (SNew_any _).mono ?_
  rintro e w1 ⟨rfl, hS1, hx1⟩
  go_wp2_with fail
  go_loopw [5, 6, 7, 11] (fun _ _ _ i wr => ∃ k at_ lv D, i = .int .i64 (k : Nat) ∧ k ≤ l.length ∧ StAt wr w.heap.size (w.heap.size + 1) w.heap.size k (stAll (l.take k)) at_ lv D ∧ Ext w wr) (fun _ _ _ i _ => l.length - (intOf i).toNat)
  case atStart => exact ⟨0, _, _, _, rfl, Nat.zero_le _, hS1, hx1⟩
  case round =>
    obtain ⟨k, at_, lv, D, rfl, hk, hS, hxr⟩ := hrel
    by_cases hlt : k < l.length
    · obtain ⟨x, xb, xo, rfl, hx1', hx2', hxb, d0, d1, d2, d3, d4, d5⟩ := (hs.ext hxr).at k hlt
      have hxr' : wRight x = .nil := hr x (by rw [← hx2']; exact List.getElem_mem hlt)
      obtain ⟨o1, o2, o3, o4, _⟩ := wRight_ok hxr'
      have hlen : ∀ key c, stAll (l.take k) key = some c → c.list.length < 50000 := fun key c hc => by
        have := stAll_len l k hk _ _ hc
        omega
      have hst := Lib.hid (stAll_take l k hlt)
      rw [hx2'] at hst
      have hk1 : IntKind.i64.wrap ((k : Int) + 1) = (k : Int) + 1 := IntWalk.i64_in _ (by omega)
      clear hx1' hx2'
      go_wp2_with fail
      refine (Do_any x _ _ _ _ _ _ _ _ _ (hS.ext ((Ext.refl _).alloc _)) hxr' o1 o2 o3 o4 (by omega) hlen).mono ?_
      rintro e w4 ⟨rfl, ⟨at', lv', D', hS'⟩, hch⟩
      go_wp2_with fail
      refine ⟨⟨k + 1, at', lv', D', by go_num, by omega, by rw [hst.out]; exact hS', Chg.ext (hxr.alloc _) hch (fun i hi => hi)⟩, by simp [intOf]; omega⟩
    · obtain rfl : k = l.length := by omega
      rw [List.take_length] at hS
      have hlen : ∀ key c, stAll l key = some c → c.list.length < 50000 := fun key c hc => by
        have := stAll_len l l.length (Nat.le_refl _) key c (by rw [List.take_length]; exact hc)
        omega
      go_wp2_with fail
      refine (Cells_any _ _ _ _ _ _ _ _ _ hS (by omega) hlen).mono ?_
      rintro e w5 ⟨v, ps, rfl, hcs, hof, hx5⟩
      go_wp2_with fail
      go_ret2
      exact ⟨v, ps, rfl, hcs.base hxr.size, hof, hxr.trans hx5⟩

def LCellsPost (L : LogS) (w : World) (e : Ending) (w' : World) : Prop :=
  ∃ v ps, e = .returned v ∧ CelsAt w' w.heap.size v ps ∧ CelsOf (stAll L.wrs) (ps.map Prod.fst) ∧ Ext w w'
theorem LCells_any (b : Nat) (hv wv : Value) (L : LogS) (w : World) (h : LogAt w b hv wv L) (hl : L.wrs.length < 10000) (hr : ∀ x ∈ L.wrs, wRight x = .nil) :
    Calls Tryz.prog 24 #[.pointer (some ⟨b, 0, none⟩)] w (LCellsPost L w) := by
  have q1 : w.cell? ⟨b, 2, none⟩ = some wv := cell_blk h.blk rfl
  obtain ⟨a, c, rfl, hc, hrow, hnil, _⟩ := own_row h.wown
  have hof := StOf_any L.wrs a c w hl hrow.wrs hr
  go_enter Tryz.func24, Tryz.ntmps24
  go_wp2_with fail
  refine hof.mono ?_
  rintro e w1 ⟨v, ps, rfl, hcs, ho, hx⟩
  go_wp2_with fail
  go_ret
  exact ⟨v, ps, rfl, hcs, ho, hx⟩

end Go.Proofs.YtbahalckcenfmaaGreatDoor
