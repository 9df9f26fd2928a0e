/-
  The contracts of batch.Same, of the laws' one() and gathered().
-/
import Derived.Test.YtbahalckcenfmaaGreatDoorEqE
import Derived.Test.YtbahalckcenfmaaGreatDoorOneK
namespace Go.Proofs.YtbahalckcenfmaaGreatDoor
open Go.RowKit
set_option linter.unusedSimpArgs false
set_option linter.unusedVariables false

/-- A batch as a value. -/
def bVal (af ah aw : Option Addr) (nf nh nw cf ch cw : Nat) : Value := .agg #[.slice af nf cf, .slice ah nh ch, .slice aw nw cw]

set_option maxRecDepth 100000 in
set_option maxHeartbeats 4000000 in
theorem Same_any (f1 h1 f2 h2 : List Ent) (ws1 ws2 : List Wr) (af1 ah1 aw1 af2 ah2 aw2 : Option Addr) (cf1 ch1 cw1 cf2 ch2 cw2 : Nat) (w : World)
    (lf : f1.length < 9223372036854775808) (lh : h1.length < 9223372036854775808) (lw : ws1.length < 9223372036854775808)
    (hf1 : EntsAt w af1 f1) (hh1 : EntsAt w ah1 h1) (hw1 : WrsAt w aw1 ws1) (hf2 : EntsAt w af2 f2) (hh2 : EntsAt w ah2 h2) (hw2 : WrsAt w aw2 ws2) :
    Calls Tryz.prog 21 #[.agg #[.slice af1 f1.length cf1, .slice ah1 h1.length ch1, .slice aw1 ws1.length cw1], .agg #[.slice af2 f2.length cf2, .slice ah2 h2.length ch2, .slice aw2 ws2.length cw2]] w
      fun e w' => e = .returned (.bool (decide (f1 = f2) && (decide (h1 = h2) && decide (ws1 = ws2)))) ∧ Ext w w' := by
  go_enter Tryz.func21, Tryz.ntmps21
  go_wp2_with fail
  have hx0 : Ext w ((w.alloc (.cells #[.slice af1 f1.length cf1, .slice ah1 h1.length ch1, .slice aw1 ws1.length cw1] 25)).alloc (.cells #[.slice af2 f2.length cf2, .slice ah2 h2.length ch2, .slice aw2 ws2.length cw2] 25)) := ((Ext.refl _).alloc _).alloc _
  refine (EqE_any f1 f2 af1 af2 cf1 cf2 _ lf (hf1.ext hx0) (hf2.ext hx0)).mono ?_
  rintro e wa ⟨rfl, hxa⟩
  have c1 := hxa.get (p := ⟨w.heap.size, 1, none⟩) (v := .slice ah1 h1.length ch1) (by simp)
  have c2 := hxa.get (p := ⟨w.heap.size, 2, none⟩) (v := .slice aw1 ws1.length cw1) (by simp)
  have d1 := hxa.get (p := ⟨w.heap.size + 1, 1, none⟩) (v := .slice ah2 h2.length ch2) (by simp)
  have d2 := hxa.get (p := ⟨w.heap.size + 1, 2, none⟩) (v := .slice aw2 ws2.length cw2) (by simp)
  have hya := hx0.trans hxa
  clear hxa
  by_cases hf : f1 = f2
  · have HF := Lib.hid (decide_eq_true hf)
    rw [HF.out]
    clear hf
    go_wp2_with fail
    refine (EqE_any h1 h2 ah1 ah2 ch1 ch2 _ lh (hh1.ext hya) (hh2.ext hya)).mono ?_
    rintro e wb ⟨rfl, hxb⟩
    replace c2 := hxb.get c2
    replace d2 := hxb.get d2
    have hyb := hya.trans hxb
    clear hxb
    by_cases hh : h1 = h2
    · have HH := Lib.hid (decide_eq_true hh)
      rw [HH.out]
      clear hh
      go_wp2_with fail
      refine (EqW_any ws1 ws2 aw1 aw2 cw1 cw2 _ lw (hw1.ext hyb) (hw2.ext hyb)).mono ?_
      rintro e wc ⟨rfl, hxc⟩
      obtain ⟨p, hp⟩ : ∃ p, decide (ws1 = ws2) = p := ⟨_, rfl⟩
      rw [hp]
      have HP := Lib.hid hp
      clear hp
      go_wp2_with fail
      go_ret
      exact ⟨by rw [HF.out, HH.out, HP.out]; simp, hyb.trans hxc⟩
    · have HH := Lib.hid (decide_eq_false hh)
      rw [HH.out]
      clear hh
      go_wp2_with fail
      go_ret
      exact ⟨by rw [HF.out, HH.out]; simp, hyb⟩
  · have HF := Lib.hid (decide_eq_false hf)
    rw [HF.out]
    clear hf
    go_wp2_with fail
    go_ret
    exact ⟨by rw [HF.out]; simp, hya⟩


def oneW : Wr := ⟨7, 3, 1, ⟨#[107]⟩, ⟨#[118]⟩, 0⟩
theorem ga_r1 : bRight [] [⟨3, 7⟩] [oneW] = .nil := by decide +kernel
theorem ga_r2 : bRight [⟨3, 7⟩] [⟨3, 7⟩] [oneW] ≠ .nil ∧ (bRight [⟨3, 7⟩] [⟨3, 7⟩] [oneW]).tell = 6 := by decide +kernel
set_option maxRecDepth 100000 in
set_option maxHeartbeats 4000000 in
theorem gathered_any (w : World) (hg : Good w) : Calls Tryz.prog 4 #[] w fun e w' => e = .returned (.bool true) ∧ Ext w w' := by
  go_enter Tryz.func4, Tryz.ntmps4
  go_wp2_with fail
  refine (one_any w).mono ?_
  rintro e w1 ⟨bh1, bw1, rfl, hh1, hw1, hx1⟩
  go_wp2_with fail
  refine (one_any _).mono ?_
  rintro e w2 ⟨bh2, bw2, rfl, hh2, hw2, hx2⟩
  have a0 := hx2.get (p := ⟨w1.heap.size, 0, none⟩) (v := .slice none 0 0) (by simp)
  have a1 := hx2.get (p := ⟨w1.heap.size, 1, none⟩) (v := .slice (some ⟨bh1, 0, none⟩) 1 1) (by simp)
  have a2 := hx2.get (p := ⟨w1.heap.size, 2, none⟩) (v := .slice (some ⟨bw1, 0, none⟩) 1 1) (by simp)
  have hlt : w1.heap.size < w2.heap.size := lt_of_cell a0
  have hy2 : Ext w w2 := (hx1.alloc _).trans hx2
  replace hh1 := (hh1.ext ((Ext.refl _).alloc _)).ext hx2
  replace hw1 := (hw1.ext ((Ext.refl _).alloc _)).ext hx2
  clear hx1 hx2
  go_wp2_with fail
  have hxW : Ext w2 (w2.alloc (.cells #[.slice (some ⟨bh2, 0, none⟩) 1 1, .slice (some ⟨bh2, 0, none⟩) 1 1, .slice (some ⟨bw2, 0, none⟩) 1 1] 25)) := (Ext.refl _).alloc _
  have b0 : (w2.alloc (.cells #[.slice (some ⟨bh2, 0, none⟩) 1 1, .slice (some ⟨bh2, 0, none⟩) 1 1, .slice (some ⟨bw2, 0, none⟩) 1 1] 25)).cell? ⟨w2.heap.size, 0, none⟩ = some (.slice (some ⟨bh2, 0, none⟩) 1 1) := by simp
  have b1 : (w2.alloc (.cells #[.slice (some ⟨bh2, 0, none⟩) 1 1, .slice (some ⟨bh2, 0, none⟩) 1 1, .slice (some ⟨bw2, 0, none⟩) 1 1] 25)).cell? ⟨w2.heap.size, 1, none⟩ = some (.slice (some ⟨bh2, 0, none⟩) 1 1) := by simp
  have b2 : (w2.alloc (.cells #[.slice (some ⟨bh2, 0, none⟩) 1 1, .slice (some ⟨bh2, 0, none⟩) 1 1, .slice (some ⟨bw2, 0, none⟩) 1 1] 25)).cell? ⟨w2.heap.size, 2, none⟩ = some (.slice (some ⟨bw2, 0, none⟩) 1 1) := by simp
  generalize w2.alloc (.cells #[.slice (some ⟨bh2, 0, none⟩) 1 1, .slice (some ⟨bh2, 0, none⟩) 1 1, .slice (some ⟨bw2, 0, none⟩) 1 1] 25) = W0 at *
  replace a0 := hxW.get a0
  replace a1 := hxW.get a1
  replace a2 := hxW.get a2
  have hyW : Ext w W0.drew := (hy2.trans hxW).drew
  have hxW' : Ext w2 W0.drew := hxW.drew
  replace hh1 := hh1.ext hxW'
  replace hw1 := hw1.ext hxW'
  replace hh2 := hh2.ext hxW'
  replace hw2 := hw2.ext hxW'
  have hfit : ∀ x ∈ [oneW], wFits x := by unfold wFits; decide +kernel
  clear hxW hy2 hxW'
  refine wp_region_held_drew (S := fun w' => w'.cell? ⟨w1.heap.size, 0, none⟩ = some (.slice none 0 0) ∧ w'.cell? ⟨w1.heap.size, 1, none⟩ = some (.slice (some ⟨bh1, 0, none⟩) 1 1) ∧ w'.cell? ⟨w1.heap.size, 2, none⟩ = some (.slice (some ⟨bw1, 0, none⟩) 1 1) ∧ w'.cell? ⟨w2.heap.size, 0, none⟩ = some (.slice (some ⟨bh2, 0, none⟩) 1 1) ∧ w'.cell? ⟨w2.heap.size, 1, none⟩ = some (.slice (some ⟨bh2, 0, none⟩) 1 1) ∧ w'.cell? ⟨w2.heap.size, 2, none⟩ = some (.slice (some ⟨bw2, 0, none⟩) 1 1)) (by kernel_rfl) ⟨a0, a1, a2, b0, b1, b2⟩ (fun hS => ?_)
  refine wpAnyH_take (i := 0) (oi := ⟨_, _, _, _, _, _⟩) (v := ?_) rfl (by kernel_rfl) (by kernel_rfl) (by kernel_rfl) (fun _ _ _ h => h) (Or.inl ⟨by rfl, ?_⟩) (by assumption) ?_
  rotate_left
  · intro w hSw
    (try dsimp only at hSw)
    first | (go_simp; done) | (go_simp; with_reducible rfl)
  simp only [Act.put, List.setIfInBounds_toArray, List.set_cons_zero, List.set_cons_succ]
  refine wpAnyH_ready (rs := [1]) (by kernel_rfl) (by simp) ?_
  refine AllReadyH.cons (o := ⟨_, _, _, _, _, _⟩) rfl (fun K hK => ?_) AllReadyH.nil
  go_simp
  refine (BRight_any [] [⟨3, 7⟩] [oneW] none (some ⟨bh1, 0, none⟩) (some ⟨bw1, 0, none⟩) 0 1 1 _ (hg.ext hyW) (by simp) (by simp) (by simp) (.inl rfl) hh1 hw1 hfit).mono ?_
  rintro e wa ⟨v, rfl, he, hxa⟩
  rw [ga_r1] at he
  obtain rfl : v = _ := he
  replace hh1 := hh1.ext hxa
  replace hw1 := hw1.ext hxa
  replace hh2 := hh2.ext hxa
  replace hw2 := hw2.ext hxa
  have hya := hyW.trans hxa
  refine hK.out _ _ ?_ (fun hS2 => ?_)
  · exact ⟨hxa.get hS.1, hxa.get hS.2.1, hxa.get hS.2.2.1, hxa.get hS.2.2.2.1, hxa.get hS.2.2.2.2.1, hxa.get hS.2.2.2.2.2⟩
  clear hK K
  (try simp only [Act.put, List.setIfInBounds_toArray, List.set_cons_zero, List.set_cons_succ])
  refine wpAnyH_take (i := 2) (oi := ⟨_, _, _, _, _, _⟩) (v := ?_) rfl (by kernel_rfl) (by kernel_rfl) (by kernel_rfl) (fun _ _ _ h => h) (Or.inl ⟨by rfl, ?_⟩) (by assumption) ?_
  rotate_left
  · intro w hSw
    (try dsimp only at hSw)
    first | (go_simp; done) | (go_simp; with_reducible rfl)
  simp only [Act.put, List.setIfInBounds_toArray, List.set_cons_zero, List.set_cons_succ]
  refine wpAnyH_take (i := 3) (oi := ⟨_, _, _, _, _, _⟩) (v := ?_) rfl (by kernel_rfl) (by kernel_rfl) (by kernel_rfl) (fun _ _ _ h => h) (Or.inl ⟨by rfl, ?_⟩) (by assumption) ?_
  rotate_left
  · intro w hSw
    (try dsimp only at hSw)
    first | (go_simp; done) | (go_simp; with_reducible rfl)
  simp only [Act.put, List.setIfInBounds_toArray, List.set_cons_zero, List.set_cons_succ]
  refine wpAnyH_take (i := 4) (oi := ⟨_, _, _, _, _, _⟩) (v := ?_) rfl (by kernel_rfl) (by kernel_rfl) (by kernel_rfl) (fun _ _ _ h => h) (Or.inl ⟨by rfl, ?_⟩) (by assumption) ?_
  rotate_left
  · intro w hSw
    (try dsimp only at hSw)
    first | (go_simp; done) | (go_simp; with_reducible rfl)
  simp only [Act.put, List.setIfInBounds_toArray, List.set_cons_zero, List.set_cons_succ]
  refine wpAnyH_ready (rs := [5]) (by kernel_rfl) (by simp) ?_
  refine AllReadyH.cons (o := ⟨_, _, _, _, _, _⟩) rfl (fun K hK => ?_) AllReadyH.nil
  go_simp
  refine (BRight_any [⟨3, 7⟩] [⟨3, 7⟩] [oneW] (some ⟨bh2, 0, none⟩) (some ⟨bh2, 0, none⟩) (some ⟨bw2, 0, none⟩) 1 1 1 _ (hg.ext hya) (by simp) (by simp) (by simp) hh2 hh2 hw2 hfit).mono ?_
  rintro e wb ⟨v, rfl, he, hxb⟩
  replace hh1 := hh1.ext hxb
  replace hw1 := hw1.ext hxb
  replace hh2 := hh2.ext hxb
  replace hw2 := hw2.ext hxb
  have hyb := hya.trans hxb
  refine hK.out _ _ ?_ (fun hS2 => ?_)
  · exact ⟨hxb.get hS2.1, hxb.get hS2.2.1, hxb.get hS2.2.2.1, hxb.get hS2.2.2.2.1, hxb.get hS2.2.2.2.2.1, hxb.get hS2.2.2.2.2.2⟩
  clear hK K
  (try simp only [Act.put, List.setIfInBounds_toArray, List.set_cons_zero, List.set_cons_succ])
  refine wpAnyH_ready (rs := [6]) (by kernel_rfl) (by simp) ?_
  refine AllReadyH.cons (o := ⟨_, _, _, _, _, _⟩) rfl (fun K hK => ?_) AllReadyH.nil
  go_simp
  refine (Tell_any _ _ _ he (hg.ext hyb)).mono ?_
  rintro e wc ⟨rfl, hxc⟩
  change Ext wb wc at hxc
  rw [ga_r2.2]
  replace hh1 := hh1.ext hxc
  replace hw1 := hw1.ext hxc
  replace hh2 := hh2.ext hxc
  replace hw2 := hw2.ext hxc
  have hyc := hyb.trans hxc
  refine hK.out _ _ ?_ (fun hS2 => ?_)
  · exact ⟨hxc.get hS2.1, hxc.get hS2.2.1, hxc.get hS2.2.2.1, hxc.get hS2.2.2.2.1, hxc.get hS2.2.2.2.2.1, hxc.get hS2.2.2.2.2.2⟩
  clear hK K
  (try simp only [Act.put, List.setIfInBounds_toArray, List.set_cons_zero, List.set_cons_succ])
  refine wpAnyH_take (i := 7) (oi := ⟨_, _, _, _, _, _⟩) (v := ?_) rfl (by kernel_rfl) (by kernel_rfl) (by kernel_rfl) (fun _ _ _ h => h) (Or.inl ⟨by rfl, ?_⟩) (by assumption) ?_
  rotate_left
  · intro w hSw
    (try dsimp only at hSw)
    first | (go_simp; done) | (go_simp; with_reducible rfl)
  simp only [Act.put, List.setIfInBounds_toArray, List.set_cons_zero, List.set_cons_succ]
  refine wpAnyH_take (i := 8) (oi := ⟨_, _, _, _, _, _⟩) (v := ?_) rfl (by kernel_rfl) (by kernel_rfl) (by kernel_rfl) (fun _ _ _ h => h) (Or.inl ⟨by rfl, ?_⟩) (by assumption) ?_
  rotate_left
  · intro w hSw
    (try dsimp only at hSw)
    first | (go_simp; done) | (go_simp; with_reducible rfl)
  simp only [Act.put, List.setIfInBounds_toArray, List.set_cons_zero, List.set_cons_succ]
  refine wpAnyH_take (i := 9) (oi := ⟨_, _, _, _, _, _⟩) (v := ?_) rfl (by kernel_rfl) (by kernel_rfl) (by kernel_rfl) (fun _ _ _ h => h) (Or.inl ⟨by rfl, ?_⟩) (by assumption) ?_
  rotate_left
  · intro w hSw
    (try dsimp only at hSw)
    first | (go_simp; done) | (go_simp; with_reducible rfl)
  simp only [Act.put, List.setIfInBounds_toArray, List.set_cons_zero, List.set_cons_succ]
  refine wpAnyH_take (i := 10) (oi := ⟨_, _, _, _, _, _⟩) (v := ?_) rfl (by kernel_rfl) (by kernel_rfl) (by kernel_rfl) (fun _ _ _ h => h) (Or.inl ⟨by rfl, ?_⟩) (by assumption) ?_
  rotate_left
  · intro w hSw
    (try dsimp only at hSw)
    first | (go_simp; done) | (go_simp; with_reducible rfl)
  simp only [Act.put, List.setIfInBounds_toArray, List.set_cons_zero, List.set_cons_succ]
  refine wpAnyH_ready (rs := [11]) (by kernel_rfl) (by simp) ?_
  refine AllReadyH.cons (o := ⟨_, _, _, _, _, _⟩) rfl (fun K hK => ?_) AllReadyH.nil
  go_simp
  refine (one_any _).mono ?_
  rintro e wd ⟨bh3, bw3, rfl, hh3, hw3, hxd⟩
  replace hh1 := hh1.ext hxd
  replace hw1 := hw1.ext hxd
  replace hh2 := hh2.ext hxd
  replace hw2 := hw2.ext hxd
  have hyd := hyc.trans hxd
  refine hK.out _ _ ?_ (fun hS2 => ?_)
  · exact ⟨hxd.get hS2.1, hxd.get hS2.2.1, hxd.get hS2.2.2.1, hxd.get hS2.2.2.2.1, hxd.get hS2.2.2.2.2.1, hxd.get hS2.2.2.2.2.2⟩
  clear hK K
  (try simp only [Act.put, List.setIfInBounds_toArray, List.set_cons_zero, List.set_cons_succ])
  refine wpAnyH_ready (rs := [12]) (by kernel_rfl) (by simp) ?_
  refine AllReadyH.cons (o := ⟨_, _, _, _, _, _⟩) rfl (fun K hK => ?_) AllReadyH.nil
  go_simp
  refine (Same_any [] [⟨3, 7⟩] [] [⟨3, 7⟩] [oneW] [oneW] none (some ⟨bh1, 0, none⟩) (some ⟨bw1, 0, none⟩) none (some ⟨bh3, 0, none⟩) (some ⟨bw3, 0, none⟩) 0 1 1 0 1 1 _ (by simp) (by simp) (by simp) (.inl rfl) hh1 hw1 (.inl rfl) hh3 hw3).mono ?_
  rintro e we ⟨rfl, hxe⟩
  rw [show (decide (([] : List Ent) = []) && (decide ([(⟨3, 7⟩ : Ent)] = [⟨3, 7⟩]) && decide ([oneW] = [oneW]))) = true by simp]
  replace hh1 := hh1.ext hxe
  replace hw1 := hw1.ext hxe
  replace hh2 := hh2.ext hxe
  replace hw2 := hw2.ext hxe
  have hye := hyd.trans hxe
  refine hK.out _ _ ?_ (fun hS2 => ?_)
  · exact ⟨hxe.get hS2.1, hxe.get hS2.2.1, hxe.get hS2.2.2.1, hxe.get hS2.2.2.2.1, hxe.get hS2.2.2.2.2.1, hxe.get hS2.2.2.2.2.2⟩
  clear hK K
  (try simp only [Act.put, List.setIfInBounds_toArray, List.set_cons_zero, List.set_cons_succ])
  refine wpAnyH_take (i := 13) (oi := ⟨_, _, _, _, _, _⟩) (v := ?_) rfl (by kernel_rfl) (by kernel_rfl) (by kernel_rfl) (fun _ _ _ h => h) (Or.inl ⟨by rfl, ?_⟩) (by assumption) ?_
  rotate_left
  · intro w hSw
    (try dsimp only at hSw)
    first | (go_simp; done) | (go_simp; with_reducible rfl)
  simp only [Act.put, List.setIfInBounds_toArray, List.set_cons_zero, List.set_cons_succ]
  refine wpAnyH_take (i := 14) (oi := ⟨_, _, _, _, _, _⟩) (v := ?_) rfl (by kernel_rfl) (by kernel_rfl) (by kernel_rfl) (fun _ _ _ h => h) (Or.inl ⟨by rfl, ?_⟩) (by assumption) ?_
  rotate_left
  · intro w hSw
    (try dsimp only at hSw)
    first | (go_simp; done) | (go_simp; with_reducible rfl)
  simp only [Act.put, List.setIfInBounds_toArray, List.set_cons_zero, List.set_cons_succ]
  refine wpAnyH_take (i := 15) (oi := ⟨_, _, _, _, _, _⟩) (v := ?_) rfl (by kernel_rfl) (by kernel_rfl) (by kernel_rfl) (fun _ _ _ h => h) (Or.inl ⟨by rfl, ?_⟩) (by assumption) ?_
  rotate_left
  · intro w hSw
    (try dsimp only at hSw)
    first | (go_simp; done) | (go_simp; with_reducible rfl)
  simp only [Act.put, List.setIfInBounds_toArray, List.set_cons_zero, List.set_cons_succ]
  refine wpAnyH_take (i := 16) (oi := ⟨_, _, _, _, _, _⟩) (v := ?_) rfl (by kernel_rfl) (by kernel_rfl) (by kernel_rfl) (fun _ _ _ h => h) (Or.inl ⟨by rfl, ?_⟩) (by assumption) ?_
  rotate_left
  · intro w hSw
    (try dsimp only at hSw)
    first | (go_simp; done) | (go_simp; with_reducible rfl)
  simp only [Act.put, List.setIfInBounds_toArray, List.set_cons_zero, List.set_cons_succ]
  refine wpAnyH_ready (rs := [17]) (by kernel_rfl) (by simp) ?_
  refine AllReadyH.cons (o := ⟨_, _, _, _, _, _⟩) rfl (fun K hK => ?_) AllReadyH.nil
  go_simp
  refine (Same_any [] [⟨3, 7⟩] [⟨3, 7⟩] [⟨3, 7⟩] [oneW] [oneW] none (some ⟨bh1, 0, none⟩) (some ⟨bw1, 0, none⟩) (some ⟨bh2, 0, none⟩) (some ⟨bh2, 0, none⟩) (some ⟨bw2, 0, none⟩) 0 1 1 1 1 1 _ (by simp) (by simp) (by simp) (.inl rfl) hh1 hw1 hh2 hh2 hw2).mono ?_
  rintro e wf ⟨rfl, hxf⟩
  rw [show (decide (([] : List Ent) = [⟨3, 7⟩]) && (decide ([(⟨3, 7⟩ : Ent)] = [⟨3, 7⟩]) && decide ([oneW] = [oneW]))) = false by simp]
  have hyF := hye.trans hxf
  refine hK.out _ _ ?_ (fun hS2 => ?_)
  · exact ⟨hxf.get hS2.1, hxf.get hS2.2.1, hxf.get hS2.2.2.1, hxf.get hS2.2.2.2.1, hxf.get hS2.2.2.2.2.1, hxf.get hS2.2.2.2.2.2⟩
  clear hK K
  (try simp only [Act.put, List.setIfInBounds_toArray, List.set_cons_zero, List.set_cons_succ])
  refine wpAnyH_take (i := 18) (oi := ⟨_, _, _, _, _, _⟩) (v := ?_) rfl (by kernel_rfl) (by kernel_rfl) (by kernel_rfl) (fun _ _ _ h => h) (Or.inl ⟨by rfl, ?_⟩) (by assumption) ?_
  rotate_left
  · intro w hSw
    (try dsimp only at hSw)
    first | (go_simp; done) | (go_simp; with_reducible rfl)
  simp only [Act.put, List.setIfInBounds_toArray, List.set_cons_zero, List.set_cons_succ]
  refine wpAnyH_take (i := 19) (oi := ⟨_, _, _, _, _, _⟩) (v := ?_) rfl (by kernel_rfl) (by kernel_rfl) (by kernel_rfl) (fun _ _ _ h => h) (Or.inl ⟨by rfl, ?_⟩) (by assumption) ?_
  rotate_left
  · intro w hSw
    (try dsimp only at hSw)
    first | (go_simp; done) | (go_simp; with_reducible rfl)
  simp only [Act.put, List.setIfInBounds_toArray, List.set_cons_zero, List.set_cons_succ]
  refine wpAnyH_take (i := 20) (oi := ⟨_, _, _, _, _, _⟩) (v := ?_) rfl (by kernel_rfl) (by kernel_rfl) (by kernel_rfl) (fun _ _ _ h => h) (Or.inl ⟨by rfl, ?_⟩) (by assumption) ?_
  rotate_left
  · intro w hSw
    (try dsimp only at hSw)
    first | (go_simp; done) | (go_simp; with_reducible rfl)
  simp only [Act.put, List.setIfInBounds_toArray, List.set_cons_zero, List.set_cons_succ]
  refine wpAnyH_done (by kernel_rfl) ?_ _
  go_wp2_with fail
  go_ret
  exact ⟨rfl, hyF⟩

end Go.Proofs.YtbahalckcenfmaaGreatDoor
