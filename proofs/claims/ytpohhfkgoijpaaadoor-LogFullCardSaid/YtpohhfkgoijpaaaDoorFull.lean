/-
  The walk of LogFull: it is true.
-/
import Derived.Test.YtpohhfkgoijpaaaDoorPick
namespace Go.Proofs.YtpohhfkgoijpaaaDoor
open Go.RowKit
set_option linter.unusedSimpArgs false
set_option linter.unusedVariables false

/-- The i-th write of a log that drops and drops. -/
def fullW (i : Nat) : Wr := ⟨(i : Int) + 1, 0, 2, kk, ⟨#[]⟩, 0⟩
def fullH (m : Nat) : List Ent := if m = 0 then [] else [⟨0, m⟩]
/-- The log behind m writes. -/
def fullL (m : Nat) : LogS := ⟨0, fullH m, (List.range m).map fullW⟩
theorem fullH_max (m : Nat) : lMax (fullH m) = m := by
  unfold fullH
  split
  · rename_i h; subst h; rfl
  · simp [lMax]
theorem fullH_merge (m : Nat) : vMerge (fullH m) [⟨0, (m : Int) + 1⟩] = fullH (m + 1) := by
  unfold fullH
  rw [if_neg (by omega : ¬ m + 1 = 0)]
  split
  · rename_i h; subst h; rw [vMerge_nil_left]; rfl
  · rw [vMerge_eq (⟨0, m⟩ : Ent) ⟨0, (m : Int) + 1⟩ [] [] rfl, vMerge_nil_left]
    have : max (m : Int) ((m : Int) + 1) = ((m + 1 : Nat) : Int) := by omega
    rw [this]
theorem fullH_right (m : Nat) (h : m ≤ 1000) : vRight (fullH m) = .nil := by
  unfold fullH
  split
  · rfl
  · exact vr1 0 m (by omega) (by omega) (by omega) (by omega)
theorem full_id (m : Nat) : withId ⟨0, 0, 2, kk, ⟨#[]⟩, 0⟩ ((m : Int) + 1) 0 = fullW m := rfl
theorem full_right (m : Nat) (h : m ≤ 1000) : wRight (fullW m) = .nil := by
  have e1 : kk.size = 1 := by decide +kernel
  have e2 : (⟨#[]⟩ : ByteArray).size = 0 := by decide +kernel
  unfold wRight fullW
  rw [if_neg (by simp), if_neg (by simp [okId]; omega), if_neg (by simp only [e1, e2]; omega), if_neg (by simp), if_neg (by simp)]
theorem full_step (m : Nat) (h : m < 300) : logLocal (fullL m) ⟨0, 0, 2, kk, ⟨#[]⟩, 0⟩ = .inr (fullL (m + 1)) := by
  unfold logLocal fullL
  simp only [fullH_max, full_id, full_right m (by omega)]
  rw [if_neg (by omega), if_neg (by simp), if_neg (by simp; omega), vJoin_ok (fullH_right m (by omega)) (vr1 _ _ (by omega) (by omega) (by omega) (by omega)) (by rw [fullH_merge]; unfold fullH; simp), fullH_merge]
  simp [List.range_succ]
theorem full_end : logLocal (fullL 300) ⟨0, 0, 2, kk, ⟨#[]⟩, 0⟩ = .inl (.no 12) := by
  unfold logLocal fullL
  simp only [fullH_max, full_id, full_right 300 (by omega)]
  rw [if_neg (by omega), if_neg (by simp), if_pos (by simp)]

set_option maxRecDepth 100000 in
set_option maxHeartbeats 4000000 in
theorem LogFull_any (n : Int) (w : World) (hg : Good w) : Calls Tryd.prog 3 #[.int .i64 n] w fun e w' => e = .returned (.bool true) ∧ Ext w w' := by
  have hgb : 0 < w.heap.size := lt_of_cell hg
  obtain ⟨p, hp, hp5⟩ : ∃ p : Nat, pickV n 5 = p ∧ p < 5 := ⟨(pickV n 5).toNat, by have := pickV_lt n (k := 5) (by omega); omega, by have := pickV_lt n (k := 5) (by omega); omega⟩
  have hw1 : IntKind.i64.wrap (298 + (p : Int)) = 298 + p := IntWalk.i64_in _ (by omega)
  go_enter Tryd.func3, Tryd.ntmps3
  go_wp2_with fail
  refine (logged_any w hg).mono ?_
  rintro e w1 ⟨rfl, hx1⟩
  go_wp2_with fail
  refine (pick_any n 5 w1 (by omega) (by omega)).mono ?_
  rintro e w2 ⟨rfl, rfl⟩
  rw [hp]
  go_wp2_with fail
  refine (New_lgs 0 w2 (by omega) (by omega) (Lgs.nil w2 w2.heap.size) (Nat.le_refl _)).mono ?_
  rintro e w3 ⟨rfl, hx3, hl3⟩
  go_wp2_with fail
  have HZ := Lib.hid hx1.size
  go_loopw [24, 5, 6, 7] (fun i _ _ _ wr => ∃ (k : Nat) (g : Lg), i = .int .i64 k ∧ k ≤ 298 + p ∧ g.b = w2.heap.size ∧ g.L = fullL (min k 300) ∧ Lgs wr w2.heap.size [g] ∧ Ext w2 wr) (fun i _ _ _ _ => 298 + p - (intOf i).toNat)
  case atStart => exact ⟨0, _, rfl, by omega, rfl, rfl, hl3, hx3⟩
  case round =>
    obtain ⟨k, g, rfl, hk, hgbk, hgL, hlg, hxr⟩ := hrel
    have hgood : Good wr := (hg.ext hx1).ext hxr
    have hk1 : IntKind.i64.wrap ((k : Int) + 1) = (k : Int) + 1 := IntWalk.i64_in _ (by omega)
    by_cases hlt : k < 298 + p
    · have hlti : (k : Int) < 298 + (p : Int) := by omega
      have hloc := Local_lgs hlg (i := 0) (g := g) rfl hgood ⟨0, 0, 2, kk, ⟨#[]⟩, 0⟩ (by unfold wFits; decide +kernel)
      rw [hgbk] at hloc
      by_cases h300 : k < 300
      · have hmk : min k 300 = k := by omega
        rw [hmk] at hgL
        have hk3 : (k : Int) < 300 := by omega
        have hge : ¬ (300 : Int) ≤ (k : Int) := by omega
        go_wp2_with fail
        refine hloc.mono ?_
        rintro e w4 ⟨_, hok⟩
        obtain ⟨he, hc, g', hb', hL', hl'⟩ := hok _ (by rw [hgL]; exact full_step k h300)
        have he' : e = .returned (.tuple #[.agg #[.int .i64 ((k : Int) + 1), .int .i64 0], .nilIface]) := by rw [he, hgL]; simp [fullL, fullH_max]
        clear he
        subst he'
        change Lgs w4 w2.heap.size [g'] at hl'
        have hgeo : ∀ j, g.own j → w2.heap.size ≤ j := hlg.ge g (by simp)
        have hx4 : Ext w2 w4 := Chg.ext hxr hc hgeo
        have HL := Lib.hid hL'
        clear hok hgL hL' hmk
        go_wp2_with fail
        have hx4' := (Ext.refl w4).alloc (.cells #[.int .i64 ((k : Int) + 1), .int .i64 0] 30)
        refine ⟨⟨k + 1, g', by go_num, by omega, hb'.trans hgbk, by rw [HL.out, show min (k + 1) 300 = k + 1 from by omega], hl'.ext hx4', hx4.trans hx4'⟩, by simp [intOf]; omega⟩
      · have hmk : min k 300 = 300 := by omega
        rw [hmk] at hgL
        have hk3 : ¬ (k : Int) < 300 := by omega
        have hge : (300 : Int) ≤ (k : Int) := by omega
        go_wp2_with fail
        refine hloc.mono ?_
        rintro e w4 ⟨hbad, _⟩
        obtain ⟨_, hx4, v, rfl, hv⟩ := hbad _ (by rw [hgL]; exact full_end)
        obtain rfl : v = _ := hv
        have HL := Lib.hid hgL
        clear hbad hgL hmk hloc
        go_wp2_with fail
        have hx4' := (Ext.refl w4).alloc (.cells #[.int .i64 0, .int .i64 0] 30)
        refine (Tell_any _ (.no 12) _ rfl (((hgood.ext hx4)).ext hx4')).mono ?_
        rintro e w5 ⟨rfl, hx5⟩
        have hx5' : Ext wr w5 := (hx4.trans hx4').trans hx5
        simp only [Er.tell]
        go_wp2_with fail
        refine ⟨⟨k + 1, g, by go_num, by omega, hgbk, by rw [HL.out, show min (k + 1) 300 = 300 from by omega], hlg.ext hx5', hxr.trans hx5'⟩, by simp [intOf]; omega⟩
    · obtain rfl : k = 298 + p := by omega
      have hat := hlg.at_ g (by simp)
      have hwr := Writes_any g.b g.hv g.wv g.L wr hat (by have := (hlg.ok g (by simp)).len; omega)
      rw [hgbk] at hwr
      go_wp2_with fail
      refine hwr.mono ?_
      rintro e w4 ⟨v, rfl, ho, hx4⟩
      have hlen : g.L.wrs.length = min (298 + p) 300 := by rw [hgL]; simp [fullL]
      rw [hlen] at ho
      obtain ⟨a4, c4, rfl, -, -, -, -⟩ := own_row ho
      clear hgL hlen
      obtain ⟨M, hM⟩ : ∃ M, M = min (298 + p) 300 := ⟨_, rfl⟩
      rw [← hM]
      by_cases h300 : 300 < 298 + p
      · have h1 : (300 : Int) < 298 + (p : Int) := by omega
        obtain rfl : M = 300 := by omega
        clear hM ho
        go_wp2_with fail
        go_ret
        exact ⟨ret_bool (by simp; omega), hx1.trans (hxr.trans hx4)⟩
      · have h1 : ¬ (300 : Int) < 298 + (p : Int) := by omega
        obtain rfl : M = 298 + p := by omega
        clear hM ho
        go_wp2_with fail
        go_ret
        exact ⟨ret_bool (by simp; omega), hx1.trans (hxr.trans hx4)⟩

end Go.Proofs.YtpohhfkgoijpaaaDoor
