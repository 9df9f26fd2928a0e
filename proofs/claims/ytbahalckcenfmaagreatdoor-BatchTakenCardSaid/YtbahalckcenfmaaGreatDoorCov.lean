/-
  The contract of vector.Covers.
-/
import Derived.Test.YtbahalckcenfmaaGreatDoorVec
import Derived.Deep.RegionWith
namespace Go.Proofs.YtbahalckcenfmaaGreatDoor
open Go.RowKit

set_option maxHeartbeats 1000000 in
theorem Covers_any (la lb : List Ent) (a b : Option Addr) (ca cb : Nat) (w : World) (hla : la.length < 9223372036854775808) (hlb : lb.length < 9223372036854775808) (hsa : EntsAt w a la) (hsb : EntsAt w b lb) :
    Calls Tryz.prog 10 #[.slice a la.length ca, .slice b lb.length cb] w fun e w' => e = .returned (.bool (vCovers la lb)) ∧ Ext w w' := by
  by_cases hra : vRight la = .nil
  · by_cases hrb : vRight lb = .nil
    · go_enter Tryz.func10, Tryz.ntmps10
      have HA := Lib.hid hra
      have HB := Lib.hid hrb
      clear hra hrb
      go_wp2_with fail
      refine (Right_any la a ca _ (by omega) hsa).mono ?_
      rintro e w1 ⟨v1, rfl, he1, hx1⟩
      rw [HA.out] at he1
      obtain rfl : v1 = _ := he1
      go_wp2_with fail
      refine (Right_any lb b cb _ (by omega) (hsb.ext hx1)).mono ?_
      rintro e w2 ⟨v2, rfl, he2, hx2⟩
      rw [HB.out] at he2
      obtain rfl : v2 = _ := he2
      go_wp2_with fail
      have hx02 : Ext w w2 := hx1.trans hx2
      go_loopw [17] (fun i wr => ∃ k : Nat, k ≤ lb.length ∧ i = .int .i64 k ∧ Hid ((lb.take k).all (fun x => decide (x.t ≤ vOf la x.r)) = true) ∧ Ext w wr) (fun i _ => lb.length - (intOf i).toNat)
      case atStart => exact ⟨0, Nat.zero_le _, rfl, by simp [Hid], hx02⟩
      case round =>
        obtain ⟨k, hk, rfl, hrec, hbel⟩ := hrel
        by_cases hlt : k < lb.length
        · obtain rfl | ⟨b, off, rfl, hb, hc⟩ := hsb
          · simp at hlt
          obtain ⟨h0, h1⟩ := hc k hlt
          have g0 := (hbel.cell (p := ⟨b, off + k * 2, none⟩) hb).trans h0
          have g1 := (hbel.cell (p := ⟨b, off + k * 2 + 1, none⟩) hb).trans h1
          have hsr := hsa.ext hbel
          clear h0 h1 hc
          go_wp2_with fail
          go_region_with (go_at_call 27; refine (Of_any la _ a ca _ (by omega) (hsr.ext (by exact ((Ext.refl _).alloc _).drew))).mono ?_; rintro e w3 ⟨rfl, hx3⟩; have q0 := hx3.cell (p := ⟨wr.heap.size, 0, none⟩) (by simp); have q1 := hx3.cell (p := ⟨wr.heap.size, 1, none⟩) (by simp))
          all_goals (go_wp2_with fail)
          all_goals first
            | (go_ret
               have hq : vOf la lb[k].r < lb[k].t := by assumption
               exact ⟨ret_bool (by rw [vCovers, HA.out, HB.out, all_false_of _ lb k hlt (by simp; omega)]; simp), ((hbel.alloc _).drew).trans (by assumption)⟩)
            | (have hq : lb[k].t ≤ vOf la lb[k].r := by omega
               exact ⟨⟨k + 1, by omega, by go_num, by rw [all_take_succ _ _ _ hlt, hrec.out]; simp [Hid, hq], ((hbel.alloc _).drew).trans (by assumption)⟩, by simp [intOf]; omega⟩)
        · go_wp2_with fail
          go_ret
          have h1 := hrec.out
          rw [List.take_of_length_le (by omega)] at h1
          exact ⟨ret_bool (by rw [vCovers, HA.out, HB.out, h1]; simp), hbel⟩
    · go_enter Tryz.func10, Tryz.ntmps10
      have HA := Lib.hid hra
      have HB := Lib.hid hrb
      clear hra hrb
      go_wp2_with fail
      refine (Right_any la a ca _ (by omega) hsa).mono ?_
      rintro e w1 ⟨v1, rfl, he1, hx1⟩
      rw [HA.out] at he1
      obtain rfl : v1 = _ := he1
      go_wp2_with fail
      refine (Right_any lb b cb _ (by omega) (hsb.ext hx1)).mono ?_
      rintro e w2 ⟨v2, rfl, he2, hx2⟩
      obtain ⟨t2, y2, rfl⟩ := he2.iface HB.out
      go_wp2_with fail
      go_ret
      exact ⟨ret_bool (vCovers_no _ _ (.inr HB.out)).symm, hx1.trans hx2⟩
  · go_enter Tryz.func10, Tryz.ntmps10
    have HA := Lib.hid hra
    clear hra
    go_wp2_with fail
    refine (Right_any la a ca _ (by omega) hsa).mono ?_
    rintro e w1 ⟨v1, rfl, he1, hx1⟩
    obtain ⟨t2, y2, rfl⟩ := he1.iface HA.out
    go_wp2_with fail
    go_ret
    exact ⟨ret_bool (vCovers_no _ _ (.inl HA.out)).symm, hx1⟩

end Go.Proofs.YtbahalckcenfmaaGreatDoor
