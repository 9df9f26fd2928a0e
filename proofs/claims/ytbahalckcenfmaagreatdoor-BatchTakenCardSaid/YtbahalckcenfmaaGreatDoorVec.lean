/-
  The contracts of package vector's Right, Of and Covers.
-/
import Derived.Test.YtbahalckcenfmaaGreatDoorSpec
import Derived.Test.YtbahalckcenfmaaGreatDoorTellC
namespace Go.Proofs.YtbahalckcenfmaaGreatDoor
open Go.RowKit

set_option maxHeartbeats 400000 in
theorem Of_any (l : List Ent) (rep : Int) (a : Option Addr) (cap : Nat) (w : World) (hl : l.length < 9223372036854775808) (hs : EntsAt w a l) :
    Calls Tryz.prog 27 #[.slice a l.length cap, .int .i64 rep] w fun e w' => e = .returned (.int .i64 (vOf l rep)) ∧ Ext w w' := by
  go_enter Tryz.func27, Tryz.ntmps27
  go_wp2
  go_loopw [9] (fun i wr => ∃ k : Nat, k ≤ l.length ∧ i = .int .i64 k ∧ Hid (vOf (l.drop k) rep = vOf l rep) ∧ Ext w wr) (fun i _ => l.length - (intOf i).toNat)
  case atStart => exact ⟨0, Nat.zero_le _, rfl, by simp [Hid], Ext.refl _⟩
  case round =>
    obtain ⟨k, hk, rfl, hrec, hbel⟩ := hrel
    by_cases hlt : k < l.length
    · obtain rfl | ⟨b, off, rfl, hb, hc⟩ := hs
      · simp at hlt
      obtain ⟨h0, h1⟩ := hc k hlt
      have g0 := (hbel.cell (p := ⟨b, off + k * 2, none⟩) hb).trans h0
      have g1 := (hbel.cell (p := ⟨b, off + k * 2 + 1, none⟩) hb).trans h1
      have hv := Lib.hid (vOf_drop l rep k hlt)
      clear h0 h1 hc
      go_wp2
      · go_ret
        have h : (l[k].r == rep) = true := by assumption
        exact ⟨ret_int (by rw [← hrec.out, hv.out, if_pos (by simpa using h)]), hbel.alloc _⟩
      · have h : (l[k].r == rep) = false := by assumption
        exact ⟨⟨k + 1, by omega, by go_num, by rw [← hrec.out, hv.out, if_neg (by simpa using h)]; simp [Hid], hbel.alloc _⟩, by simp [intOf]; omega⟩
    · go_wp2
      go_ret
      exact ⟨ret_int (by rw [← hrec.out, List.drop_eq_nil_of_le (by omega)]; rfl), hbel⟩

set_option maxHeartbeats 1000000 in
theorem Right_any (l : List Ent) (a : Option Addr) (cap : Nat) (w : World) (hl : l.length < 9223372036854775808) (hs : EntsAt w a l) :
    Calls Tryz.prog 30 #[.slice a l.length cap] w fun e w' => ∃ v, e = .returned v ∧ IsEr w' v (vRight l) ∧ Ext w w' := by
  go_enter Tryz.func30, Tryz.ntmps30
  by_cases h16 : 16 < l.length
  · go_wp2
    go_ret
    exact ⟨_, rfl, by simp [vRight, h16, IsEr], Ext.refl _⟩
  · go_wp2
    go_loopw [12] (fun i wr => ∃ k : Nat, k ≤ l.length ∧ i = .int .i64 k ∧ Hid (vRightGo k (prevR l k) (l.drop k) = vRight l) ∧ Ext w wr) (fun i _ => l.length - (intOf i).toNat)
    case atStart => exact ⟨0, Nat.zero_le _, rfl, by simp [Hid, vRight, h16, prevR], Ext.refl _⟩
    case round =>
      obtain ⟨k, hk, rfl, hrec, hbel⟩ := hrel
      by_cases hlt : k < l.length
      · obtain rfl | ⟨b, off, rfl, hb, hc⟩ := hs
        · simp at hlt
        obtain ⟨h0, h1⟩ := hc k hlt
        have g0 := (hbel.cell (p := ⟨b, off + k * 2, none⟩) hb).trans h0
        have g1 := (hbel.cell (p := ⟨b, off + k * 2 + 1, none⟩) hb).trans h1
        have hv := Lib.hid (vRightGo_drop l k hlt)
        by_cases hx : okEnt l[k]
        · have hx' := hx
          obtain ⟨x0, x1, x2, x3⟩ := hx'
          by_cases hk0 : 0 < k
          · have g2 := (hbel.cell (p := ⟨b, off + (k - 1) * 2, none⟩) hb).trans (hc (k - 1) (by omega)).1
            have hd : decide ((0 : Int) < (k : Int)) = true := by simp; omega
            have hbr : b < wr.heap.size := by have := hbel.size; omega
            have s2 : (0 : Int) ≤ (k : Int) - 1 := by omega
            have s3 : (1 : Int) ≤ (k : Int) := by omega
            have s4 : (k : Int) - 1 < (l.length : Int) := by omega
            have s5 : ((k : Int) - 1).toNat = k - 1 := by omega
            have s1 : IntKind.i64.wrap ((k : Int) - 1) = (k : Int) - 1 := IntWalk.i64_in _ (by omega)
            go_wp2
            go_quiet (fail)
            go_wp2
            · go_ret
              have hle : l[k].r ≤ l[k - 1].r := by assumption
              refine ⟨.iface 73 (.pointer (some ⟨wr.heap.size + 1, 0, none⟩)), rfl, ?_, ((hbel.alloc _).drewN _).alloc _⟩
              rw [← hrec.out, hv.out, if_pos hx, if_pos (by rw [prevR, if_neg (by omega), List.getElem?_eq_getElem (by omega)]; exact (badPrev_some _ _).2 hle)]
              exact er_new _ _ _ _ (by simp)
            · have hlt' : l[k - 1].r < l[k].r := by assumption
              refine ⟨⟨k + 1, by omega, by go_num, ?_, (hbel.alloc _).drewN _⟩, by simp [intOf]; omega⟩
              rw [← hrec.out, hv.out, if_pos hx, if_neg (by rw [prevR, if_neg (by omega), List.getElem?_eq_getElem (by omega)]; intro h; have := (badPrev_some _ _).1 h; omega)]; exact Lib.hid rfl
          · have hd : decide ((0 : Int) < (k : Int)) = false := by simp; omega
            go_wp2
            go_quiet (fail)
            go_wp2
            refine ⟨⟨k + 1, by omega, by go_num, ?_, (hbel.alloc _).drewN _⟩, by simp [intOf]; omega⟩
            rw [← hrec.out, hv.out, if_pos hx, if_neg (by rw [prevR, if_pos (by omega)]; exact badPrev_none _)]; exact Lib.hid rfl
        · have hbad : l[k].r < 0 ∨ 200 < l[k].r ∨ l[k].t < 1 ∨ 1099511627776 < l[k].t := by unfold okEnt at hx; omega
          have fin : vRight l = .plc 2 k := by rw [← hrec.out, hv.out, if_neg hx]
          have FIN := Lib.hid fin; clear fin
          rcases hbad with hb1 | hb1 | hb1 | hb1 <;> (go_wp2; all_goals (go_ret; exact ⟨.iface 73 (.pointer (some ⟨wr.heap.size + 1, 0, none⟩)), rfl, by rw [FIN.out]; exact er_new _ _ _ _ (by simp), (hbel.alloc _).alloc _⟩))
      · go_wp2
        go_ret
        exact ⟨_, rfl, by rw [← hrec.out, List.drop_eq_nil_of_le (by omega)]; rfl, hbel⟩

end Go.Proofs.YtbahalckcenfmaaGreatDoor
