/-
  The contract of batch.Right.
-/
import Derived.Test.YtbahalckcenfmaaGreatDoorLogA
import Derived.Test.YtbahalckcenfmaaGreatDoorWRight
namespace Go.Proofs.YtbahalckcenfmaaGreatDoor
set_option linter.unusedSimpArgs false
open Go.RowKit

def BRPost (f h : List Ent) (ws : List Wr) (w : World) (e : Ending) (w' : World) : Prop := ∃ v, e = .returned v ∧ IsEr w' v (bRight f h ws) ∧ Ext w w'
theorem BRPost.no {f h : List Ent} {ws : List Wr} {w w' : World} {k : Int} (hh : bRight f h ws = .no k) (hx : Ext w w') : BRPost f h ws w (.returned (.iface 50 (.int .i64 k))) w' := ⟨_, rfl, by rw [hh]; rfl, hx⟩
theorem BRPost.nil {f h : List Ent} {ws : List Wr} {w w' : World} (hh : bRight f h ws = .nil) (hx : Ext w w') : BRPost f h ws w (.returned .nilIface) w' := ⟨_, rfl, by rw [hh]; rfl, hx⟩
theorem BRPost.plc {f h : List Ent} {ws : List Wr} {w w' : World} {k p : Int} {b : Nat} (hh : bRight f h ws = .plc k p) (hb : b = w'.heap.size) (hx : Ext w w') :
    BRPost f h ws w (.returned (.iface 73 (.pointer (some ⟨b, 0, none⟩)))) (w'.alloc (.cells #[.int .i64 k, .int .i64 p] 75)) := ⟨_, rfl, by rw [hh]; exact er_new _ _ _ _ hb, hx.alloc _⟩

set_option maxRecDepth 100000 in
set_option maxHeartbeats 4000000 in
theorem BRight_any (f h : List Ent) (ws : List Wr) (af ah aw : Option Addr) (cf ch cw : Nat) (w : World) (hg : Good w) (hf : f.length < 9223372036854775808) (hh : h.length < 9223372036854775808) (hw : ws.length < 9223372036854775808)
    (hsf : EntsAt w af f) (hsh : EntsAt w ah h) (hsw : WrsAt w aw ws) (hfit : ∀ x ∈ ws, wFits x) :
    Calls Tryz.prog 19 #[.agg #[.slice af f.length cf, .slice ah h.length ch, .slice aw ws.length cw]] w (BRPost f h ws w) := by
  have ar0 := arr2_0
  have ar1 := arr2_1
  by_cases hrf : vRight f = .nil
  · have HF := Lib.hid hrf
    clear hrf
    by_cases hrh : vRight h = .nil
    · have HH := Lib.hid hrh
      clear hrh
      have hd := Lib.hid (show bRight f h ws = if vCovers h f = false then .no 13 else if 60 < ws.length then .no 4 else bRightGo f h 0 none ws by rw [bRight, HF.out, HH.out]; simp)
      go_enter Tryz.func19, Tryz.ntmps19
      go_wp2_with fail
      refine wp_loop_rounds 3 ?_
      rw [rounds_succ]
      go_wp2_with fail
      refine (Right_any f af cf _ (by omega) (hsf.ext ((Ext.refl _).alloc _))).mono ?_
      rintro e w1 ⟨v1, rfl, he1, hx1⟩
      rw [HF.out] at he1
      obtain rfl : v1 = _ := he1
      have hy1 : Ext w w1 := Ext.trans ((Ext.refl _).alloc _) hx1
      have c0 := hx1.get (p := ⟨w.heap.size, 0, none⟩) (v := .slice af f.length cf) (by simp)
      have c1 := hx1.get (p := ⟨w.heap.size, 1, none⟩) (v := .slice ah h.length ch) (by simp)
      have c2 := hx1.get (p := ⟨w.heap.size, 2, none⟩) (v := .slice aw ws.length cw) (by simp)
      go_wp2_with fail
      rw [rounds_succ]
      go_wp2_with fail
      refine (Right_any h ah ch _ (by omega) (hsh.ext hy1)).mono ?_
      rintro e w2 ⟨v2, rfl, he2, hx2⟩
      rw [HH.out] at he2
      obtain rfl : v2 = _ := he2
      have hy2 : Ext w w2 := hy1.trans hx2
      replace c0 := hx2.get c0
      replace c1 := hx2.get c1
      replace c2 := hx2.get c2
      go_wp2_with fail
      rw [rounds_succ]
      go_wp2_with fail
      refine (Covers_any h f ah af ch cf _ (by omega) (by omega) (hsh.ext hy2) (hsf.ext hy2)).mono ?_
      rintro e w3 ⟨rfl, hx3⟩
      have hy3 : Ext w w3 := hy2.trans hx3
      replace c0 := hx3.get c0
      replace c1 := hx3.get c1
      replace c2 := hx3.get c2
      cases hcv : vCovers h f with
      | false =>
        have HD := Lib.hid (show bRight f h ws = .no 13 by rw [hd.out, if_pos hcv])
        go_wp2_with fail
        go_ret
        exact BRPost.no HD.out hy3
      | true =>
        have hd2 := Lib.hid (show bRight f h ws = if 60 < ws.length then .no 4 else bRightGo f h 0 none ws by rw [hd.out, hcv]; simp)
        clear hcv
        by_cases h60 : 60 < ws.length
        · go_wp2_with fail
          go_ret
          exact BRPost.no (by rw [hd2.out, if_pos h60]) hy3
        · have hd3 := Lib.hid (show bRight f h ws = bRightGo f h 0 none ws by rw [hd2.out, if_neg h60])
          have lw := lt_of_cell c2
          simp only at lw
          go_wp2_with fail
          go_loopw [42] (fun i wr => ∃ k : Nat, k ≤ ws.length ∧ i = .int .i64 k ∧ Hid (bRightGo f h k (prevW ws k) (ws.drop k) = bRight f h ws) ∧ Ext w3 wr) (fun i _ => ws.length - (intOf i).toNat)
          case atStart => exact ⟨0, Nat.zero_le _, rfl, by rw [hd3.out]; exact Lib.hid rfl, Ext.refl _⟩
          case round =>
            obtain ⟨k, hk, rfl, hrec, hbel⟩ := hrel
            have hy4 : Ext w wr := hy3.trans hbel
            have d0 := hbel.get c0
            have d1 := hbel.get c1
            have d2 := hbel.get c2
            by_cases hlt : k < ws.length
            · obtain rfl | ⟨b, off, rfl, hb, hc⟩ := hsw
              · simp at hlt
              obtain ⟨h0, h1, h2, h3, h4, h5⟩ := hc k hlt
              have g0 := hy4.get h0
              have g1 := hy4.get h1
              have g2 := hy4.get h2
              have g3 := hy4.get h3
              have g4 := hy4.get h4
              have g5 := hy4.get h5
              have hv := Lib.hid (bRightGo_drop f h ws k hlt)
              obtain ⟨y1, y2, y3, y4⟩ := hfit ws[k] (List.getElem_mem hlt)
              have HC := Lib.hid hc
              clear h0 h1 h2 h3 h4 h5 hc c0 c1 c2
              have hbr : b < wr.heap.size := by have := hy4.size; omega
              go_wp2_with fail
              refine (wRight_any ws[k] _ y1 y2 y3 y4).mono ?_
              rintro e w5 ⟨v5, rfl, he5, hx5⟩
              clear y1 y2 y3 y4
              have hy5 : Ext w w5 := hy4.trans (Ext.trans ((Ext.refl _).alloc _) hx5)
              go_wp2_with fail
              refine (Tell_any _ _ _ he5 (hg.ext hy5)).mono ?_
              rintro e w6 ⟨rfl, hx6⟩
              have hy6 : Ext w w6 := hy5.trans hx6
              have hx56 := hx5.trans hx6
              have x0 := hx56.get (p := ⟨wr.heap.size, 0, none⟩) (v := .int .i64 ws[k].t) (by simp)
              have x1 := hx56.get (p := ⟨wr.heap.size, 1, none⟩) (v := .int .i64 ws[k].r) (by simp)
              have d0' := hx56.get (p := ⟨w.heap.size, 0, none⟩) (v := .slice af f.length cf) (((Ext.refl _).alloc _).get d0)
              have d1' := hx56.get (p := ⟨w.heap.size, 1, none⟩) (v := .slice ah h.length ch) (((Ext.refl _).alloc _).get d1)
              have d2' := hx56.get (p := ⟨w.heap.size, 2, none⟩) (v := .slice (some ⟨b, off, none⟩) ws.length cw) (((Ext.refl _).alloc _).get d2)
              have hx3w : Ext w3 w6 := hbel.trans (Ext.trans ((Ext.refl _).alloc _) hx56)
              by_cases he : (wRight ws[k]).tell = 0
              · have HE := Lib.hid he
                have he' : ((wRight ws[k]).tell != 0) = false := by simp [he]
                clear he
                by_cases hk0 : 0 < k
                · have hp := (HC.out (k - 1) (by omega))
                  have p0 := hy6.get hp.1
                  have p1 := hy6.get hp.2.1
                  have hdk : decide ((0 : Int) < (k : Int)) = true := by simp; omega
                  have s2 : (0 : Int) ≤ (k : Int) - 1 := by omega
                  have s3 : (1 : Int) ≤ (k : Int) := by omega
                  have s4 : (k : Int) - 1 < (ws.length : Int) := by omega
                  have s5 : ((k : Int) - 1).toNat = k - 1 := by omega
                  have s1 : IntKind.i64.wrap ((k : Int) - 1) = (k : Int) - 1 := IntWalk.i64_in _ (by omega)
                  have hpw := Lib.hid (show prevW ws k = some ws[k - 1] by rw [prevW, if_neg (by omega), List.getElem?_eq_getElem (by omega)])
                  clear hp
                  go_wp2_with fail
                  refine wp_region_held_drew (S := (fun w' => w'.cell? ⟨w.heap.size, 2, none⟩ = some (.slice (some ⟨b, off, none⟩) ws.length cw) ∧ w'.cell? ⟨b, off + (k - 1) * 6, none⟩ = some (.int .i64 ws[k - 1].t) ∧ w'.cell? ⟨b, off + (k - 1) * 6 + 1, none⟩ = some (.int .i64 ws[k - 1].r) ∧ w'.cell? ⟨wr.heap.size, 0, none⟩ = some (.int .i64 ws[k].t) ∧ w'.cell? ⟨wr.heap.size, 1, none⟩ = some (.int .i64 ws[k].r))) (by kernel_rfl) ⟨d2', p0, p1, x0, x1⟩ (fun hS => ?_)
                  refine wpAnyH_take (i := 0) (oi := ⟨_, _, _, _, _, _⟩) (v := ?_) rfl (by kernel_rfl) (by kernel_rfl) (by kernel_rfl) (fun _ _ _ h => h) (Or.inl ⟨by rfl, ?_⟩) (by assumption) ?_
                  rotate_left
                  · intro w hSw
                    (try dsimp only at hSw)
                    first | (go_simp; done) | (go_simp; with_reducible rfl)
                  simp only [Act.put, List.setIfInBounds_toArray, List.set_cons_zero, List.set_cons_succ]
                  refine wpAnyH_take (i := 1) (oi := ⟨_, _, _, _, _, _⟩) (v := ?_) rfl (by kernel_rfl) (by kernel_rfl) (by kernel_rfl) (fun _ _ _ h => h) (Or.inl ⟨by rfl, ?_⟩) (by assumption) ?_
                  rotate_left
                  · intro w hSw
                    (try dsimp only at hSw)
                    first | (go_simp; done) | (go_simp; with_reducible rfl)
                  simp only [Act.put, List.setIfInBounds_toArray, List.set_cons_zero, List.set_cons_succ]
                  refine wpAnyH_take (i := 2) (oi := ⟨_, _, _, _, _, _⟩) (v := ?_) rfl (by kernel_rfl) (by kernel_rfl) (by kernel_rfl) (fun _ _ _ h => h) (Or.inl ⟨by rfl, ?_⟩) (by assumption) ?_
                  rotate_left
                  · intro w hSw
                    (try dsimp only at hSw)
                    first | (go_simp; done) | (go_simp; with_reducible rfl)
                  simp only [Act.put, List.setIfInBounds_toArray, List.set_cons_zero, List.set_cons_succ]
                  refine wpAnyH_take (i := 3) (oi := ⟨_, _, _, _, _, _⟩) (v := ?_) rfl (by kernel_rfl) (by kernel_rfl) (by kernel_rfl) (fun _ _ _ h => h) (Or.inl ⟨by rfl, ?_⟩) (by assumption) ?_
                  rotate_left
                  · intro w hSw
                    (try dsimp only at hSw)
                    first | (go_simp; done) | (go_simp; with_reducible rfl)
                  simp only [Act.put, List.setIfInBounds_toArray, List.set_cons_zero, List.set_cons_succ]
                  refine wpAnyH_take (i := 4) (oi := ⟨_, _, _, _, _, _⟩) (v := ?_) rfl (by kernel_rfl) (by kernel_rfl) (by kernel_rfl) (fun _ _ _ h => h) (Or.inl ⟨by rfl, ?_⟩) (by assumption) ?_
                  rotate_left
                  · intro w hSw
                    (try dsimp only at hSw)
                    first | (go_simp; done) | (go_simp; with_reducible rfl)
                  simp only [Act.put, List.setIfInBounds_toArray, List.set_cons_zero, List.set_cons_succ]
                  refine wpAnyH_take (i := 5) (oi := ⟨_, _, _, _, _, _⟩) (v := ?_) rfl (by kernel_rfl) (by kernel_rfl) (by kernel_rfl) (fun _ _ _ h => h) (Or.inl ⟨by rfl, ?_⟩) (by assumption) ?_
                  rotate_left
                  · intro w hSw
                    (try dsimp only at hSw)
                    first | (go_simp; done) | (go_simp; with_reducible rfl)
                  simp only [Act.put, List.setIfInBounds_toArray, List.set_cons_zero, List.set_cons_succ]
                  refine wpAnyH_take (i := 6) (oi := ⟨_, _, _, _, _, _⟩) (v := ?_) rfl (by kernel_rfl) (by kernel_rfl) (by kernel_rfl) (fun _ _ _ h => h) (Or.inl ⟨by rfl, ?_⟩) (by assumption) ?_
                  rotate_left
                  · intro w hSw
                    (try dsimp only at hSw)
                    first | (go_simp; done) | (go_simp; with_reducible rfl)
                  simp only [Act.put, List.setIfInBounds_toArray, List.set_cons_zero, List.set_cons_succ]
                  refine wpAnyH_take (i := 7) (oi := ⟨_, _, _, _, _, _⟩) (v := ?_) rfl (by kernel_rfl) (by kernel_rfl) (by kernel_rfl) (fun _ _ _ h => h) (Or.inl ⟨by rfl, ?_⟩) (by assumption) ?_
                  rotate_left
                  · intro w hSw
                    (try dsimp only at hSw)
                    first | (go_simp; done) | (go_simp; with_reducible rfl)
                  simp only [Act.put, List.setIfInBounds_toArray, List.set_cons_zero, List.set_cons_succ]
                  refine wpAnyH_take (i := 8) (oi := ⟨_, _, _, _, _, _⟩) (v := ?_) rfl (by kernel_rfl) (by kernel_rfl) (by kernel_rfl) (fun _ _ _ h => h) (Or.inl ⟨by rfl, ?_⟩) (by assumption) ?_
                  rotate_left
                  · intro w hSw
                    (try dsimp only at hSw)
                    first | (go_simp; done) | (go_simp; with_reducible rfl)
                  simp only [Act.put, List.setIfInBounds_toArray, List.set_cons_zero, List.set_cons_succ]
                  refine wpAnyH_take (i := 9) (oi := ⟨_, _, _, _, _, _⟩) (v := ?_) rfl (by kernel_rfl) (by kernel_rfl) (by kernel_rfl) (fun _ _ _ h => h) (Or.inl ⟨by rfl, ?_⟩) (by assumption) ?_
                  rotate_left
                  · intro w hSw
                    (try dsimp only at hSw)
                    first | (go_simp; done) | (go_simp; with_reducible rfl)
                  simp only [Act.put, List.setIfInBounds_toArray, List.set_cons_zero, List.set_cons_succ]
                  refine wpAnyH_take (i := 10) (oi := ⟨_, _, _, _, _, _⟩) (v := ?_) rfl (by kernel_rfl) (by kernel_rfl) (by kernel_rfl) (fun _ _ _ h => h) (Or.inl ⟨by rfl, ?_⟩) (by assumption) ?_
                  rotate_left
                  · intro w hSw
                    (try dsimp only at hSw)
                    first | (go_simp; done) | (go_simp; with_reducible rfl)
                  simp only [Act.put, List.setIfInBounds_toArray, List.set_cons_zero, List.set_cons_succ]
                  refine wpAnyH_take (i := 11) (oi := ⟨_, _, _, _, _, _⟩) (v := ?_) rfl (by kernel_rfl) (by kernel_rfl) (by kernel_rfl) (fun _ _ _ h => h) (Or.inl ⟨by rfl, ?_⟩) (by assumption) ?_
                  rotate_left
                  · intro w hSw
                    (try dsimp only at hSw)
                    first | (go_simp; done) | (go_simp; with_reducible rfl)
                  simp only [Act.put, List.setIfInBounds_toArray, List.set_cons_zero, List.set_cons_succ]
                  refine wpAnyH_ready (rs := [12]) (by kernel_rfl) (by simp) ?_
                  refine AllReadyH.cons (o := ⟨_, _, _, _, _, _⟩) rfl (fun K hK => ?_) AllReadyH.nil
                  go_simp
                  refine (idCmp_any _ _ _ _ _).mono ?_
                  rintro e w7 ⟨rfl, hx7⟩
                  refine hK.out _ _ ?_ (fun hS2 => ?_)
                  · exact ⟨hx7.get hS.1, hx7.get hS.2.1, hx7.get hS.2.2.1, hx7.get hS.2.2.2.1, hx7.get hS.2.2.2.2⟩
                  clear hK K
                  (try simp only [Act.put, List.setIfInBounds_toArray, List.set_cons_zero, List.set_cons_succ])
                  refine wpAnyH_take (i := 13) (oi := ⟨_, _, _, _, _, _⟩) (v := ?_) rfl (by kernel_rfl) (by kernel_rfl) (by kernel_rfl) (fun _ _ _ h => h) (Or.inl ⟨by rfl, ?_⟩) (by assumption) ?_
                  rotate_left
                  · intro w hSw
                    (try dsimp only at hSw)
                    first | (go_simp; done) | (go_simp; with_reducible rfl)
                  simp only [Act.put, List.setIfInBounds_toArray, List.set_cons_zero, List.set_cons_succ]
                  refine wpAnyH_take (i := 14) (oi := ⟨_, _, _, _, _, _⟩) (v := ?_) rfl (by kernel_rfl) (by kernel_rfl) (by kernel_rfl) (fun _ _ _ h => h) (Or.inl ⟨by rfl, ?_⟩) (by assumption) ?_
                  rotate_left
                  · intro w hSw
                    (try dsimp only at hSw)
                    first | (go_simp; done) | (go_simp; with_reducible rfl)
                  simp only [Act.put, List.setIfInBounds_toArray, List.set_cons_zero, List.set_cons_succ]
                  refine wpAnyH_take (i := 15) (oi := ⟨_, _, _, _, _, _⟩) (v := ?_) rfl (by kernel_rfl) (by kernel_rfl) (by kernel_rfl) (fun _ _ _ h => h) (Or.inl ⟨by rfl, ?_⟩) (by assumption) ?_
                  rotate_left
                  · intro w hSw
                    (try dsimp only at hSw)
                    first | (go_simp; done) | (go_simp; with_reducible rfl)
                  simp only [Act.put, List.setIfInBounds_toArray, List.set_cons_zero, List.set_cons_succ]
                  refine wpAnyH_done (by kernel_rfl) ?_ _
                  have hy7 : Ext w w7 := Ext.trans hy6.drew hx7
                  have hz7 : Ext w3 w7 := Ext.trans hx3w.drew hx7
                  have f0 := hx7.get (show w6.drew.cell? ⟨w.heap.size, 0, none⟩ = some (.slice af f.length cf) from d0')
                  have f1 := hx7.get (show w6.drew.cell? ⟨w.heap.size, 1, none⟩ = some (.slice ah h.length ch) from d1')
                  have f2 := hx7.get (show w6.drew.cell? ⟨wr.heap.size, 0, none⟩ = some (.int .i64 ws[k].t) from x0)
                  have f3 := hx7.get (show w6.drew.cell? ⟨wr.heap.size, 1, none⟩ = some (.int .i64 ws[k].r) from x1)
                  by_cases hbo : 0 ≤ idCmp ws[k - 1].t ws[k - 1].r ws[k].t ws[k].r
                  · have HR := Lib.hid (show bRight f h ws = .plc 10 k by rw [← hrec.out, hv.out, if_neg (by rw [HE.out]; decide), if_pos (by rw [hpw.out]; exact (badOrd_some _ _).2 hbo)])
                    go_wp2_with fail
                    go_ret
                    exact BRPost.plc HR.out (by simp) hy7
                  · have hnb := Lib.hid (show ¬ badOrd (prevW ws k) ws[k] by rw [hpw.out]; exact fun hh => hbo ((badOrd_some _ _).1 hh))
                    go_wp2_with fail
                    refine (Within_any ws[k].t ws[k].r f h af ah cf ch _ (by omega) (by omega) (hsf.ext hy7) (hsh.ext hy7)).mono ?_
                    rintro e w8 ⟨rfl, hx8⟩
                    have hy8 : Ext w w8 := Ext.trans hy7 hx8
                    cases hwi : idWithin ws[k].t ws[k].r f h with
                    | false =>
                      have HR := Lib.hid (show bRight f h ws = .plc 6 k by rw [← hrec.out, hv.out, if_neg (by rw [HE.out]; decide), if_neg hnb.out, if_pos hwi])
                      clear hwi
                      go_wp2_with fail
                      go_ret
                      exact BRPost.plc HR.out (by simp) hy8
                    | true =>
                      have HR := Lib.hid (show bRightGo f h (k + 1) (prevW ws (k + 1)) (ws.drop (k + 1)) = bRight f h ws by rw [← hrec.out, hv.out, if_neg (by rw [HE.out]; decide), if_neg hnb.out, if_neg (by rw [hwi]; decide)])
                      clear hwi
                      go_wp2_with fail
                      exact ⟨⟨k + 1, by omega, by go_num, HR, Ext.trans hz7 hx8⟩, by simp [intOf]; omega⟩
                · have hdk : decide ((0 : Int) < (k : Int)) = false := by simp; omega
                  have hpw := Lib.hid (show prevW ws k = none by rw [prevW, if_pos (by omega)])
                  go_wp2_with fail
                  refine wp_region_held_drew (S := fun w' => True) (by kernel_rfl) trivial (fun hS => ?_)
                  refine wpAnyH_take (i := 0) (oi := ⟨_, _, _, _, _, _⟩) (v := ?_) rfl (by kernel_rfl) (by kernel_rfl) (by kernel_rfl) (fun _ _ _ h => h) (Or.inl ⟨by rfl, ?_⟩) (by assumption) ?_
                  rotate_left
                  · intro w hSw
                    (try dsimp only at hSw)
                    first | (go_simp; done) | (go_simp; with_reducible rfl)
                  simp only [Act.put, List.setIfInBounds_toArray, List.set_cons_zero, List.set_cons_succ]
                  refine wpAnyH_take (i := 1) (oi := ⟨_, _, _, _, _, _⟩) (v := ?_) rfl (by kernel_rfl) (by kernel_rfl) (by kernel_rfl) (fun _ _ _ h => h) (Or.inl ⟨by rfl, ?_⟩) (by assumption) ?_
                  rotate_left
                  · intro w hSw
                    (try dsimp only at hSw)
                    first | (go_simp; done) | (go_simp; with_reducible rfl)
                  simp only [Act.put, List.setIfInBounds_toArray, List.set_cons_zero, List.set_cons_succ]
                  refine wpAnyH_take (i := 2) (oi := ⟨_, _, _, _, _, _⟩) (v := ?_) rfl (by kernel_rfl) (by kernel_rfl) (by kernel_rfl) (fun _ _ _ h => h) (Or.inl ⟨by rfl, ?_⟩) (by assumption) ?_
                  rotate_left
                  · intro w hSw
                    (try dsimp only at hSw)
                    first | (go_simp; done) | (go_simp; with_reducible rfl)
                  simp only [Act.put, List.setIfInBounds_toArray, List.set_cons_zero, List.set_cons_succ]
                  refine wpAnyH_take (i := 3) (oi := ⟨_, _, _, _, _, _⟩) (v := undef) rfl (by kernel_rfl) (by kernel_rfl) (by kernel_rfl) (fun _ _ _ h => h) (Or.inr ⟨by rfl, rfl⟩) (by assumption) ?_
                  simp only [Act.put, List.setIfInBounds_toArray, List.set_cons_zero, List.set_cons_succ]
                  refine wpAnyH_take (i := 4) (oi := ⟨_, _, _, _, _, _⟩) (v := undef) rfl (by kernel_rfl) (by kernel_rfl) (by kernel_rfl) (fun _ _ _ h => h) (Or.inr ⟨by rfl, rfl⟩) (by assumption) ?_
                  simp only [Act.put, List.setIfInBounds_toArray, List.set_cons_zero, List.set_cons_succ]
                  refine wpAnyH_take (i := 5) (oi := ⟨_, _, _, _, _, _⟩) (v := undef) rfl (by kernel_rfl) (by kernel_rfl) (by kernel_rfl) (fun _ _ _ h => h) (Or.inr ⟨by rfl, rfl⟩) (by assumption) ?_
                  simp only [Act.put, List.setIfInBounds_toArray, List.set_cons_zero, List.set_cons_succ]
                  refine wpAnyH_take (i := 6) (oi := ⟨_, _, _, _, _, _⟩) (v := undef) rfl (by kernel_rfl) (by kernel_rfl) (by kernel_rfl) (fun _ _ _ h => h) (Or.inr ⟨by rfl, rfl⟩) (by assumption) ?_
                  simp only [Act.put, List.setIfInBounds_toArray, List.set_cons_zero, List.set_cons_succ]
                  refine wpAnyH_take (i := 7) (oi := ⟨_, _, _, _, _, _⟩) (v := undef) rfl (by kernel_rfl) (by kernel_rfl) (by kernel_rfl) (fun _ _ _ h => h) (Or.inr ⟨by rfl, rfl⟩) (by assumption) ?_
                  simp only [Act.put, List.setIfInBounds_toArray, List.set_cons_zero, List.set_cons_succ]
                  refine wpAnyH_take (i := 8) (oi := ⟨_, _, _, _, _, _⟩) (v := undef) rfl (by kernel_rfl) (by kernel_rfl) (by kernel_rfl) (fun _ _ _ h => h) (Or.inr ⟨by rfl, rfl⟩) (by assumption) ?_
                  simp only [Act.put, List.setIfInBounds_toArray, List.set_cons_zero, List.set_cons_succ]
                  refine wpAnyH_take (i := 9) (oi := ⟨_, _, _, _, _, _⟩) (v := undef) rfl (by kernel_rfl) (by kernel_rfl) (by kernel_rfl) (fun _ _ _ h => h) (Or.inr ⟨by rfl, rfl⟩) (by assumption) ?_
                  simp only [Act.put, List.setIfInBounds_toArray, List.set_cons_zero, List.set_cons_succ]
                  refine wpAnyH_take (i := 10) (oi := ⟨_, _, _, _, _, _⟩) (v := undef) rfl (by kernel_rfl) (by kernel_rfl) (by kernel_rfl) (fun _ _ _ h => h) (Or.inr ⟨by rfl, rfl⟩) (by assumption) ?_
                  simp only [Act.put, List.setIfInBounds_toArray, List.set_cons_zero, List.set_cons_succ]
                  refine wpAnyH_take (i := 11) (oi := ⟨_, _, _, _, _, _⟩) (v := undef) rfl (by kernel_rfl) (by kernel_rfl) (by kernel_rfl) (fun _ _ _ h => h) (Or.inr ⟨by rfl, rfl⟩) (by assumption) ?_
                  simp only [Act.put, List.setIfInBounds_toArray, List.set_cons_zero, List.set_cons_succ]
                  refine wpAnyH_ready (rs := [12]) (by kernel_rfl) (by simp) ?_
                  refine AllReadyH.cons (o := ⟨_, _, _, _, _, _⟩) rfl (fun K hK => ?_) AllReadyH.nil
                  go_simp
                  refine hK.out _ _ (by assumption) (fun _ => ?_)
                  clear hK K
                  (try simp only [Act.put, List.setIfInBounds_toArray, List.set_cons_zero, List.set_cons_succ])
                  refine wpAnyH_take (i := 13) (oi := ⟨_, _, _, _, _, _⟩) (v := undef) rfl (by kernel_rfl) (by kernel_rfl) (by kernel_rfl) (fun _ _ _ h => h) (Or.inr ⟨by rfl, rfl⟩) (by assumption) ?_
                  simp only [Act.put, List.setIfInBounds_toArray, List.set_cons_zero, List.set_cons_succ]
                  refine wpAnyH_take (i := 14) (oi := ⟨_, _, _, _, _, _⟩) (v := ?_) rfl (by kernel_rfl) (by kernel_rfl) (by kernel_rfl) (fun _ _ _ h => h) (Or.inl ⟨by rfl, ?_⟩) (by assumption) ?_
                  rotate_left
                  · intro w hSw
                    (try dsimp only at hSw)
                    first | (go_simp; done) | (go_simp; with_reducible rfl)
                  simp only [Act.put, List.setIfInBounds_toArray, List.set_cons_zero, List.set_cons_succ]
                  refine wpAnyH_take (i := 15) (oi := ⟨_, _, _, _, _, _⟩) (v := ?_) rfl (by kernel_rfl) (by kernel_rfl) (by kernel_rfl) (fun _ _ _ h => h) (Or.inl ⟨by rfl, ?_⟩) (by assumption) ?_
                  rotate_left
                  · intro w hSw
                    (try dsimp only at hSw)
                    first | (go_simp; done) | (go_simp; with_reducible rfl)
                  simp only [Act.put, List.setIfInBounds_toArray, List.set_cons_zero, List.set_cons_succ]
                  refine wpAnyH_done (by kernel_rfl) ?_ _
                  have hnb := Lib.hid (show ¬ badOrd (prevW ws k) ws[k] by rw [hpw.out]; exact badOrd_none _)
                  go_wp2_with fail
                  refine (Within_any ws[k].t ws[k].r f h af ah cf ch _ (by omega) (by omega) (hsf.ext hy6.drew) (hsh.ext hy6.drew)).mono ?_
                  rintro e w8 ⟨rfl, hx8⟩
                  have hy8 : Ext w w8 := Ext.trans hy6.drew hx8
                  cases hwi : idWithin ws[k].t ws[k].r f h with
                  | false =>
                    have HR := Lib.hid (show bRight f h ws = .plc 6 k by rw [← hrec.out, hv.out, if_neg (by rw [HE.out]; decide), if_neg hnb.out, if_pos hwi])
                    clear hwi
                    go_wp2_with fail
                    go_ret
                    exact BRPost.plc HR.out (by simp) hy8
                  | true =>
                    have HR := Lib.hid (show bRightGo f h (k + 1) (prevW ws (k + 1)) (ws.drop (k + 1)) = bRight f h ws by rw [← hrec.out, hv.out, if_neg (by rw [HE.out]; decide), if_neg hnb.out, if_neg (by rw [hwi]; decide)])
                    clear hwi
                    go_wp2_with fail
                    exact ⟨⟨k + 1, by omega, by go_num, HR, Ext.trans hx3w.drew hx8⟩, by simp [intOf]; omega⟩
              · have he' : ((wRight ws[k]).tell != 0) = true := by simp [he]
                have HE := Lib.hid (show bRight f h ws = .plc (wRight ws[k]).tell k by rw [← hrec.out, hv.out, if_pos he])
                clear he
                go_wp2_with fail
                go_ret
                exact BRPost.plc HE.out (by simp) hy6
            · go_wp2_with fail
              go_ret
              exact BRPost.nil (by rw [← hrec.out, List.drop_eq_nil_of_le (by omega)]; rfl) hy4
    · go_enter Tryz.func19, Tryz.ntmps19
      have HH := Lib.hid hrh
      clear hrh
      go_wp2_with fail
      refine wp_loop_rounds 2 ?_
      rw [rounds_succ]
      go_wp2_with fail
      refine (Right_any f af cf _ (by omega) (hsf.ext ((Ext.refl _).alloc _))).mono ?_
      rintro e w1 ⟨v1, rfl, he1, hx1⟩
      rw [HF.out] at he1
      obtain rfl : v1 = _ := he1
      have hy1 : Ext w w1 := Ext.trans ((Ext.refl _).alloc _) hx1
      go_wp2_with fail
      rw [rounds_succ]
      go_wp2_with fail
      refine (Right_any h ah ch _ (by omega) (hsh.ext hy1)).mono ?_
      rintro e w2 ⟨v2, rfl, he2, hx2⟩
      obtain ⟨t2, y2, rfl⟩ := he2.iface HH.out
      go_wp2_with fail
      refine (Tell_any _ _ _ he2 (hg.ext (hy1.trans hx2))).mono ?_
      rintro e w3 ⟨rfl, hx3⟩
      go_wp2_with fail
      go_ret
      exact BRPost.no (by rw [bRight, HF.out]; simp [HH.out]) ((hy1.trans hx2).trans hx3)
  · go_enter Tryz.func19, Tryz.ntmps19
    have HF := Lib.hid hrf
    clear hrf
    go_wp2_with fail
    refine wp_loop_rounds 1 ?_
    rw [rounds_succ]
    go_wp2_with fail
    refine (Right_any f af cf _ (by omega) (hsf.ext ((Ext.refl _).alloc _))).mono ?_
    rintro e w1 ⟨v1, rfl, he1, hx1⟩
    have hy1 : Ext w w1 := Ext.trans ((Ext.refl _).alloc _) hx1
    obtain ⟨t2, y2, rfl⟩ := he1.iface HF.out
    go_wp2_with fail
    refine (Tell_any _ _ _ he1 (hg.ext hy1)).mono ?_
    rintro e w3 ⟨rfl, hx3⟩
    go_wp2_with fail
    go_ret
    exact BRPost.no (by rw [bRight]; simp [HF.out]) (hy1.trans hx3)

end Go.Proofs.YtbahalckcenfmaaGreatDoor
