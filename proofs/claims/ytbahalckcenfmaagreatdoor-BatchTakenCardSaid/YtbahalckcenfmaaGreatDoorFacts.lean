/-
  The laws' facts ordered(), and big(), held(), few().
-/
import Derived.Test.YtbahalckcenfmaaGreatDoorBatch
namespace Go.Proofs.YtbahalckcenfmaaGreatDoor
open Go.RowKit
set_option linter.unusedSimpArgs false
set_option linter.unusedVariables false

set_option maxRecDepth 100000 in
set_option maxHeartbeats 4000000 in
theorem ordered_any (w : World) : Calls Tryz.prog 7 #[] w fun e w' => e = .returned (.bool true) ∧ Ext w w' := by
  go_enter Tryz.func7, Tryz.ntmps7
  go_wp2_with fail
  refine (idCmp_any 2 1 1 9 _).mono ?_
  rintro e w1 ⟨rfl, hx1⟩
  rw [show idCmp 2 1 1 9 = 1 by decide]
  have p0 := hx1.get (p := ⟨w.heap.size, 0, none⟩) (v := .int .i64 2) (by simp)
  have p1 := hx1.get (p := ⟨w.heap.size, 1, none⟩) (v := .int .i64 1) (by simp)
  have p2 := hx1.get (p := ⟨w.heap.size + 1, 0, none⟩) (v := .int .i64 1) (by simp)
  have p3 := hx1.get (p := ⟨w.heap.size + 1, 1, none⟩) (v := .int .i64 9) (by simp)
  have hy1 : Ext w w1 := (((Ext.refl _).alloc _).alloc _).trans hx1
  clear hx1
  go_wp2_with fail
  refine (idCmp_any 1 9 2 1 _).mono ?_
  rintro e w2 ⟨rfl, hx2⟩
  rw [show idCmp 1 9 2 1 = -1 by decide]
  replace p0 := hx2.get p0
  replace p1 := hx2.get p1
  replace hy1 := hy1.trans hx2
  clear hx2 p2 p3
  go_wp2_with fail
  refine (idCmp_any 2 1 2 1 _).mono ?_
  rintro e w3 ⟨rfl, hx3⟩
  rw [show idCmp 2 1 2 1 = 0 by decide]
  replace p0 := hx3.get p0
  replace p1 := hx3.get p1
  replace hy1 := hy1.trans hx3
  clear hx3
  go_wp2_with fail
  refine (Within_any 2 1 [] [⟨1, 2⟩] none (some ⟨w3.heap.size, 0, none⟩) 0 1 _ (by simp) (by simp) (.inl rfl) (ents_one w3 _ ⟨1, 2⟩ rfl)).mono ?_
  rintro e w4 ⟨rfl, hx4⟩
  rw [show idWithin 2 1 [] [⟨1, 2⟩] = true by decide]
  replace hx4 := (((Ext.refl w3).alloc _).trans hx4)
  replace p0 := hx4.get p0
  replace p1 := hx4.get p1
  replace hy1 := hy1.trans hx4
  clear hx4
  go_wp2_with fail
  refine (Within_any 2 1 [⟨1, 2⟩] [] (some ⟨w4.heap.size, 0, none⟩) none 1 0 _ (by simp) (by simp) (ents_one w4 _ ⟨1, 2⟩ rfl) (.inl rfl)).mono ?_
  rintro e w5 ⟨rfl, hx5⟩
  rw [show idWithin 2 1 [⟨1, 2⟩] [] = false by decide]
  go_wp2_with fail
  go_ret
  exact ⟨rfl, (hy1.alloc _).trans hx5⟩

set_option maxRecDepth 100000 in
set_option maxHeartbeats 4000000 in
theorem big_any (f h : List Ent) (ws : List Wr) (af ah aw : Option Addr) (cf ch cw : Nat) (w : World) (hf : f.length < 9223372036854775808) (hh : h.length < 9223372036854775808) (hw : ws.length < 9223372036854775808) (hsw : WrsAt w aw ws) :
    Calls Tryz.prog 29 #[.agg #[.slice af f.length cf, .slice ah h.length ch, .slice aw ws.length cw]] w fun e w' => (∃ b, e = .returned (.bool b)) ∧ Ext w w' := by
  go_enter Tryz.func29, Tryz.ntmps29
  go_wp2_with fail
  go_loopw [3, 20] (fun nv iv wr => ∃ (z : Int) (k : Nat), nv = .int .i64 z ∧ iv = .int .i64 (k : Int) ∧ k ≤ ws.length ∧ Ext w wr) (fun _ iv _ => ws.length - (intOf iv).toNat)
  case atStart => exact ⟨_, 0, rfl, rfl, Nat.zero_le _, (Ext.refl _).alloc _⟩
  case round =>
    obtain ⟨z, k, rfl, rfl, hk, hx⟩ := hrel
    by_cases hlt : k < ws.length
    · obtain rfl | ⟨b, off, rfl, hb, hc⟩ := hsw
      · simp at hlt
      obtain ⟨h0, h1, h2, h3, h4, h5⟩ := hc k hlt
      have g0 := (hx.cell (p := ⟨b, off + k * 6, none⟩) hb).trans h0
      have g1 := (hx.cell (p := ⟨b, off + k * 6 + 1, none⟩) hb).trans h1
      have g2 := (hx.cell (p := ⟨b, off + k * 6 + 2, none⟩) hb).trans h2
      have g3 := (hx.cell (p := ⟨b, off + k * 6 + 3, none⟩) hb).trans h3
      have g4 := (hx.cell (p := ⟨b, off + k * 6 + 4, none⟩) hb).trans h4
      have g5 := (hx.cell (p := ⟨b, off + k * 6 + 5, none⟩) hb).trans h5
      clear h0 h1 h2 h3 h4 h5 hc
      go_wp2_with fail
      exact ⟨⟨_, k + 1, rfl, rfl, by omega, hx.alloc _⟩, by simp [intOf]; omega⟩
    · go_wp2_with fail
      go_ret
      exact ⟨⟨_, rfl⟩, hx⟩

set_option maxRecDepth 100000 in
set_option maxHeartbeats 4000000 in
theorem held_any (f h : List Ent) (ws : List Wr) (af ah aw : Option Addr) (cf ch cw : Nat) (w : World) (hg : Good w) (hf : f.length < 9223372036854775808) (hh : h.length < 9223372036854775808) (hw : ws.length < 9223372036854775808)
    (hsf : EntsAt w af f) (hsh : EntsAt w ah h) (hsw : WrsAt w aw ws) (hfit : ∀ x ∈ ws, wFits x) :
    Calls Tryz.prog 8 #[.agg #[.slice af f.length cf, .slice ah h.length ch, .slice aw ws.length cw]] w fun e w' => (∃ b, e = .returned (.bool b) ∧ (b = true → bRight f h ws = .nil)) ∧ Ext w w' := by
  go_enter Tryz.func8, Tryz.ntmps8
  go_wp2_with fail
  have hx0 : Ext w (w.alloc (.cells #[.slice af f.length cf, .slice ah h.length ch, .slice aw ws.length cw] 25)) := (Ext.refl _).alloc _
  refine (big_any f h ws af ah aw cf ch cw _ hf hh hw (hsw.ext hx0)).mono ?_
  rintro e w1 ⟨⟨b, rfl⟩, hx1⟩
  have c0 := hx1.get (p := ⟨w.heap.size, 0, none⟩) (v := .slice af f.length cf) (by simp)
  have c1 := hx1.get (p := ⟨w.heap.size, 1, none⟩) (v := .slice ah h.length ch) (by simp)
  have c2 := hx1.get (p := ⟨w.heap.size, 2, none⟩) (v := .slice aw ws.length cw) (by simp)
  have hy1 := hx0.trans hx1
  clear hx0 hx1
  cases b with
  | true =>
    go_wp2_with fail
    go_ret
    exact ⟨⟨_, rfl, by simp⟩, hy1⟩
  | false =>
    go_wp2_with fail
    refine (BRight_any f h ws af ah aw cf ch cw _ (hg.ext hy1) hf hh hw (hsf.ext hy1) (hsh.ext hy1) (hsw.ext hy1) hfit).mono ?_
    rintro e w2 ⟨v, rfl, he, hx2⟩
    by_cases hb : bRight f h ws = .nil
    · have HB := Lib.hid hb
      rw [hb] at he
      obtain rfl : v = _ := he
      clear hb
      go_wp2_with fail
      go_ret
      exact ⟨⟨_, rfl, fun _ => HB.out⟩, hy1.trans hx2⟩
    · obtain ⟨t2, y2, rfl⟩ := he.iface hb
      go_wp2_with fail
      go_ret
      exact ⟨⟨_, rfl, by simp⟩, hy1.trans hx2⟩

set_option maxRecDepth 100000 in
set_option maxHeartbeats 4000000 in
theorem few_any (m : List Ent) (am : Option Addr) (cm : Nat) (bb : Nat) (w : World) (hm : m.length < 9223372036854775808) (hsm : EntsAt w am m) (hc : w.cell? ⟨bb, 0, none⟩ = some (.slice am m.length cm)) :
    Calls Tryz.prog 9 #[.slice (some ⟨bb, 0, none⟩) 1 1] w fun e w' => e = .returned (.bool (decide (vRight m = .nil))) ∧ Ext w w' := by
  have hbb := lt_of_cell hc
  by_cases h16 : 16 < m.length
  · have hne := Lib.hid (show ¬ vRight m = .nil by simp [vRight, h16])
    go_enter Tryz.func9, Tryz.ntmps9
    go_wp2_with fail
    refine wp_loop_rounds 3 ?_
    rw [rounds_succ]
    go_wp2_with fail
    go_ret
    exact ⟨by rw [decide_eq_false hne.out]; rfl, Ext.refl _⟩
  · go_enter Tryz.func9, Tryz.ntmps9
    go_wp2_with fail
    refine wp_loop_rounds 3 ?_
    rw [rounds_succ]
    go_wp2_with fail
    refine (Right_any m am cm _ hm hsm).mono ?_
    rintro e w1 ⟨v1, rfl, he1, hx1⟩
    by_cases hr : vRight m = .nil
    · have HR := Lib.hid hr
      rw [hr] at he1
      obtain rfl : v1 = _ := he1
      clear hr
      go_wp2_with fail
      rw [rounds_succ]
      go_wp2_with fail
      go_ret
      exact ⟨by rw [decide_eq_true HR.out]; rfl, hx1⟩
    · obtain ⟨t2, y2, rfl⟩ := he1.iface hr
      have HR := Lib.hid hr
      clear hr
      go_wp2_with fail
      go_ret
      exact ⟨by rw [decide_eq_false HR.out]; rfl, hx1⟩

end Go.Proofs.YtbahalckcenfmaaGreatDoor
