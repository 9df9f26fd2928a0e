/-
  BatchTaken's walk.
-/
import Derived.Test.YtbahalckcenfmaaGreatDoorGath
import Derived.Test.YtbahalckcenfmaaGreatDoorKnown
import Derived.Test.YtbahalckcenfmaaGreatDoorFacts
import Derived.Test.YtbahalckcenfmaaGreatDoorTkP
import Derived.Test.YtbahalckcenfmaaGreatDoorTkS
import Derived.Test.YtbahalckcenfmaaGreatDoorLogd
import Derived.Deep.CutBlock
import Derived.Deep.CutRange
import Derived.Deep.AppendLies
import Derived.Deep.RegionWith
namespace Go.Proofs.YtbahalckcenfmaaGreatDoor
open Go.RowKit
set_option linter.unusedSimpArgs false
set_option linter.unusedVariables false

theorem take_filter (ws : List Wr) (p : Wr → Bool) (k : Nat) (h : k < ws.length) {x : Wr} (hx : ws[k] = x) : (ws.take (k + 1)).filter p = (ws.take k).filter p ++ (if p x = true then [x] else []) := by
  rw [List.take_succ_eq_append_getElem h, List.filter_append, hx]
  simp only [List.filter_cons, List.filter_nil]
set_option maxRecDepth 100000 in
set_option maxHeartbeats 8000000 in
theorem BatchTaken_any (f h : List Ent) (ws : List Wr) (af ah aw : Option Addr) (cf ch cw : Nat) (m : List Ent) (am : Option Addr) (cm : Nat) (w : World) (hg : Good w)
    (lf : f.length < 9223372036854775808) (lh : h.length < 9223372036854775808) (lw : ws.length < 9223372036854775808) (lm : m.length < 9223372036854775808)
    (kf : f.length ≤ cf) (kh : h.length ≤ ch) (kw : ws.length ≤ cw) (km : m.length ≤ cm)
    (hsf : EntsAt w af f) (hsh : EntsAt w ah h) (hsw : WrsAt w aw ws) (hsm : EntsAt w am m) (hfit : ∀ x ∈ ws, wFits x) :
    Calls Tryz.prog 3 #[.agg #[.slice af f.length cf, .slice ah h.length ch, .slice aw ws.length cw], .slice am m.length cm] w fun e w' => e = .returned (.bool true) ∧ Ext w w' := by
  go_enter Tryz.func3, Tryz.ntmps3
  go_wp2_with fail
  have hx0 : Ext w (w.alloc (.cells #[.slice af f.length cf, .slice ah h.length ch, .slice aw ws.length cw] 25)) := (Ext.refl _).alloc _
  have hblk : (w.alloc (.cells #[.slice af f.length cf, .slice ah h.length ch, .slice aw ws.length cw] 25)).heap[w.heap.size]? = some (.cells #[.slice af f.length cf, .slice ah h.length ch, .slice aw ws.length cw] 25 (0, 0)) := heap_alloc_new _ _
  generalize w.alloc (.cells #[.slice af f.length cf, .slice ah h.length ch, .slice aw ws.length cw] 25) = w0 at *
  refine (gathered_any _ (hg.ext hx0)).mono ?_
  rintro e w1 ⟨rfl, hx1⟩
  have hy1 := hx0.trans hx1
  go_wp2_with fail
  refine (logged_any _ (hg.ext hy1)).mono ?_
  rintro e w2 ⟨rfl, hx2⟩
  have hy2 := hy1.trans hx2
  go_wp2_with fail
  refine (known_any _ (hg.ext hy2)).mono ?_
  rintro e w3 ⟨rfl, hx3⟩
  have hy3 := hy2.trans hx3
  go_wp2_with fail
  refine (ordered_any _).mono ?_
  rintro e w4 ⟨rfl, hx4⟩
  have hy4 := hy3.trans hx4
  have hx04 : Ext w0 w4 := ((hx1.trans hx2).trans hx3).trans hx4
  have hblk4 : w4.heap[w.heap.size]? = some (.cells #[.slice af f.length cf, .slice ah h.length ch, .slice aw ws.length cw] 25 (0, 0)) := by rw [hx04.block _ (lt_blk hblk)]; exact hblk
  have B0 := Lib.hid hblk4
  have a0 := cell_blk hblk4 (i := 0) rfl
  have a1 := cell_blk hblk4 (i := 1) rfl
  have a2 := cell_blk hblk4 (i := 2) rfl
  clear hx0 hx1 hx2 hx3 hx4 hy1 hy2 hy3 hx04 hblk hblk4
  go_wp2_with fail
  refine (held_any f h ws af ah aw cf ch cw _ (hg.ext hy4) lf lh lw (hsf.ext hy4) (hsh.ext hy4) (hsw.ext hy4) hfit).mono ?_
  rintro e w5 ⟨⟨b, rfl, hb⟩, hx5⟩
  have a0' := hx5.get a0
  have a1' := hx5.get a1
  have a2' := hx5.get a2
  have B5 : Hid (w5.heap[w.heap.size]? = some (.cells #[.slice af f.length cf, .slice ah h.length ch, .slice aw ws.length cw] 25 (0, 0))) := Lib.hid (by rw [hx5.block _ (lt_blk B0.out)]; exact B0.out)
  have hy5 := hy4.trans hx5
  clear a0 a1 a2 B0 hx5 hy4
  cases b with
  | false =>
    go_wp2_with fail
    go_ret
    exact ⟨rfl, hy5⟩
  | true =>
    have HB := Lib.hid (hb rfl)
    clear hb
    go_wp2_with fail
    refine (few_any m am cm w5.heap.size _ lm ((hsm.ext hy5).ext ((Ext.refl _).alloc _)) (by simp)).mono ?_
    rintro e w6 ⟨rfl, hx6⟩
    have hx56 : Ext w5 w6 := ((Ext.refl _).alloc _).trans hx6
    have c0 := hx56.get a0'
    have c1 := hx56.get a1'
    have c2 := hx56.get a2'
    have B6 : Hid (w6.heap[w.heap.size]? = some (.cells #[.slice af f.length cf, .slice ah h.length ch, .slice aw ws.length cw] 25 (0, 0))) := Lib.hid (by rw [hx56.block _ (lt_blk B5.out)]; exact B5.out)
    have hy6 := hy5.trans hx56
    clear a0' a1' a2' B5 hx56 hx6 hy5
    by_cases hrm : vRight m = .nil
    · have HM := Lib.hid hrm
      rw [decide_eq_true hrm]
      clear hrm
      by_cases hf0 : f.length = 0
      · obtain rfl : f = [] := List.eq_nil_of_length_eq_zero hf0
        clear hf0
        simp only [List.length_nil] at *
        go_wp2_with fail
        refine (Covers_any h m ah am ch cm _ lh lm (hsh.ext hy6) (hsm.ext hy6)).mono ?_
        rintro e w7 ⟨rfl, hx7⟩
        have c0' := hx7.get c0
        have c1' := hx7.get c1
        have c2' := hx7.get c2
        have B7 : Hid (w7.heap[w.heap.size]? = some (.cells #[.slice af 0 cf, .slice ah h.length ch, .slice aw ws.length cw] 25 (0, 0))) := Lib.hid (by rw [hx7.block _ (lt_blk B6.out)]; exact B6.out)
        have hy7 := hy6.trans hx7
        clear c0 c1 c2 B6 hx7 hy6
        cases hcv : vCovers h m with
        | false =>
          go_wp2_with fail
          go_ret
          exact ⟨rfl, hy7⟩
        | true =>
          have HC := Lib.hid hcv
          clear hcv
          go_upto_region 5 with fail
          go_cut [5, 6] from 55 to 60 (fun s5 s6 wx => ∃ B5 B6 : Nat, s5 = .pointer (some ⟨B5, 0, none⟩) ∧ s6 = .pointer (some ⟨B6, 0, none⟩) ∧ B5 ≠ B6 ∧ w7.heap.size ≤ B5 ∧ w7.heap.size ≤ B6 ∧
            wx.heap[B5]? = some (.cells #[.slice none 0 0, .slice am m.length cm, .slice none 0 0] 25 (0, 0)) ∧
            wx.heap[B6]? = some (.cells #[.slice am m.length cm, .slice ah h.length ch, .slice none 0 0] 25 (0, 0)) ∧ Ext w7 wx)
          case first =>
            clear c0' c2'
            have n0 : w.heap.size < w7.heap.size := lt_of_cell c1'
            have n1 : ¬ w.heap.size = w7.heap.size := by omega
            have n2 : ¬ w.heap.size = w7.heap.size + 1 := by omega
            have n3 : ¬ w7.heap.size = w.heap.size := by omega
            have n4 : ¬ w7.heap.size + 1 = w.heap.size := by omega
            have q1 : ∀ o, (w7.alloc o).cell? ⟨w.heap.size, 1, none⟩ = some (.slice ah h.length ch) := fun o => ((Ext.refl _).alloc o).get c1'
            have q2 : ∀ o o', ((w7.alloc o).alloc o').cell? ⟨w.heap.size, 1, none⟩ = some (.slice ah h.length ch) := fun o o' => (((Ext.refl _).alloc o).alloc o').get c1'
            go_region_with (fail)
            all_goals (go_wp2_with fail)
            all_goals go_meet
            all_goals first
              | exact ⟨w7.heap.size, w7.heap.size + 1, rfl, rfl, by omega, by omega, by omega, (two_blks _ _ _).1, (two_blks _ _ _).2, (((Ext.refl _).alloc _).alloc _).drew⟩
              | exact ⟨w7.heap.size + 1, w7.heap.size, rfl, rfl, by omega, by omega, by omega, (two_blks _ _ _).2, (two_blks _ _ _).1, (((Ext.refl _).alloc _).alloc _).drew⟩
          case rest =>
            obtain ⟨B5, B6, rfl, rfl, h56, hb5, hb6, k5, k6, hx8⟩ := hcut
            have hP0 : PartAt w7 wc B5 B6 (.slice am m.length cm) (.slice ah h.length ch) [] [] (.slice none 0 0) (.slice none 0 0) := ⟨k5, k6, World.ownsRow_nil _ _ _ _, World.ownsRow_nil _ _ _ _, fun k hk => (by cases hk), hx8⟩
            have d2 := hx8.get c2'
            have hy8 := hy7.trans hx8
            have hsm7 := hsm.ext hy7
            have B8 : Hid (wc.heap[w.heap.size]? = some (.cells #[.slice af 0 cf, .slice ah h.length ch, .slice aw ws.length cw] 25 (0, 0))) := Lib.hid (by rw [hx8.block _ (lt_blk B7.out)]; exact B7.out)
            have hwl60 : ws.length ≤ 60 := ((bRight_iff _ _ _).1 HB.out).2.1
            have B7' := B7
            clear k5 k6 c0' c1' c2' B7
            go_wp2_with fail
            obtain ⟨i0, hi0, hi1, hi2, hi3⟩ := info_parts info_Wr
            go_loopw [64] (fun iv wr => ∃ (k : Nat) (va vb : Value), iv = .int .i64 (k : Int) ∧ k ≤ ws.length ∧ PartAt w7 wr B5 B6 (.slice am m.length cm) (.slice ah h.length ch) ((ws.take k).filter (inM m)) ((ws.take k).filter fun x => !inM m x) va vb) (fun iv _ => ws.length - (intOf iv).toNat)
            case atStart => exact ⟨0, _, _, rfl, Nat.zero_le _, hP0⟩
            case round =>
              obtain ⟨k, va, vb, rfl, hk, hP⟩ := hrel
              by_cases hlt : k < ws.length
              · have hyr := hy7.trans hP.ext
                have hwr := hsw.ext hyr
                obtain ⟨x, xb, xo, rfl, hx1, hx2, hxb, g0, g1, g2, g3, g4, g5⟩ := hwr.at k hlt
                have HX := Lib.hid hx2
                clear hx1 hx2
                go_wp2_with fail
                refine (Within_any x.t x.r [] m none am 0 cm _ (by simp) lm (.inl rfl) ((hsm7.ext hP.ext).ext ((Ext.refl _).alloc _))).mono ?_
                rintro e w9 ⟨rfl, hx9⟩
                have hP9 := hP.more (((Ext.refl _).alloc _).trans hx9)
                have l1 : ((ws.take k).filter (inM m)).length ≤ ws.length := Nat.le_trans (List.length_filter_le _ _) (by simp; omega)
                have l2 : ((ws.take k).filter fun x => !inM m x).length ≤ ws.length := Nat.le_trans (List.length_filter_le _ _) (by simp; omega)
                obtain ⟨xs, hxs⟩ : ∃ xs, (ws.take k).filter (inM m) = xs := ⟨_, rfl⟩
                obtain ⟨ys, hys⟩ : ∃ ys, ((ws.take k).filter fun x => !inM m x) = ys := ⟨_, rfl⟩
                rw [hxs, hys] at hP9
                rw [hxs] at l1
                rw [hys] at l2
                have xsl := Lib.hid l1
                have ysl := Lib.hid l2
                have xsE := Lib.hid hxs
                have ysE := Lib.hid hys
                have e0 := hx9.get (p := ⟨wr.heap.size, 0, none⟩) (v := .int .i64 x.t) (by simp)
                have e1 := hx9.get (p := ⟨wr.heap.size, 1, none⟩) (v := .int .i64 x.r) (by simp)
                have e2 := hx9.get (p := ⟨wr.heap.size, 2, none⟩) (v := .int .i64 x.kind) (by simp)
                have e3 := hx9.get (p := ⟨wr.heap.size, 3, none⟩) (v := .string x.key) (by simp)
                have e4 := hx9.get (p := ⟨wr.heap.size, 4, none⟩) (v := .string x.val) (by simp)
                have e5 := hx9.get (p := ⟨wr.heap.size, 5, none⟩) (v := .int .i64 x.n) (by simp)
                clear hxs hys l1 l2 hP hyr hwr g0 g1 g2 g3 g4 g5 hx9
                cases hin : idWithin x.t x.r [] m with
                | true =>
                  have lxs : xs.length ≤ 60 := by have := xsl.out; omega
                  obtain ⟨oa, oc, rfl, -, -, -, -⟩ := own_row hP9.oa
                  have u2 : w9.cell? ⟨B5, 2, none⟩ = some (.slice oa xs.length oc) := cell_blk hP9.b5 rfl
                  have f2 : w9.frozen? ⟨B5, 2, none⟩ = false := free_blk hP9.b5
                  have hbB : B5 < w9.heap.size := lt_blk hP9.b5
                  have hvB : some B5 ≠ (Value.slice oa xs.length oc).ownBlock := Ne.symm (own_ne hP9.oa hP9.b5 (by decide))
                  go_wp2_with (at_builtin; refine wpList_append_lies _ rfl _ _ _ rfl w7.heap.size 33 i0 _ 6 64 Tryz.underlying23 hi0 hi1 hi2 hi3 rfl (by omega) (.slice oa xs.length oc) xs.length (wCells xs) rfl (own_ext hP9.oa ((Ext.refl _).alloc _)) ⟨w9.heap.size, 0, none⟩ 1 1 (wCells1 x) rfl rfl (World.news_of_block (cs := (wCells1 x).toArray) (t := 33) (fr := (0, 0)) (by exact blk_new _ _ _ rfl)) (by simp [wCells1, Value.oneCell']) (by omega) (by unfold maxLen; omega) (by omega) (by have := hP9.ext.size; simp; omega) _ rfl ?_; intro g cap w10 hown10 hgrow hat hlt10; have s2 := grown_get hgrow (p := ⟨B5, 2, none⟩) (v := .slice oa xs.length oc) hvB (((Ext.refl _).alloc _).get u2); have s3 := grown_free hgrow (p := ⟨B5, 2, none⟩) (by simp; omega) hvB ((((Ext.refl w9).alloc _).frozen (p := ⟨B5, 2, none⟩) hbB).trans f2))
                  have hin' : inM m x = true := hin
                  have hPn := (hP9.more ((Ext.refl _).alloc _)).putA h56 hb5 (x := x) hown10 rfl hgrow rfl hat
                  refine ⟨⟨k + 1, .slice (some ⟨g, 0, none⟩) (xs.length + 1) cap, vb, rfl, by omega, ?_⟩, by simp [intOf]; omega⟩
                  rw [take_filter ws _ k hlt HX.out, take_filter ws _ k hlt HX.out, xsE.out, ysE.out, hin']
                  simpa using hPn
                | false =>
                  have lxs : ys.length ≤ 60 := by have := ysl.out; omega
                  obtain ⟨oa, oc, rfl, -, -, -, -⟩ := own_row hP9.ob
                  have u2 : w9.cell? ⟨B6, 2, none⟩ = some (.slice oa ys.length oc) := cell_blk hP9.b6 rfl
                  have f2 : w9.frozen? ⟨B6, 2, none⟩ = false := free_blk hP9.b6
                  have hbB : B6 < w9.heap.size := lt_blk hP9.b6
                  have hvB : some B6 ≠ (Value.slice oa ys.length oc).ownBlock := Ne.symm (own_ne hP9.ob hP9.b6 (by decide))
                  go_wp2_with (at_builtin; refine wpList_append_lies _ rfl _ _ _ rfl w7.heap.size 33 i0 _ 6 64 Tryz.underlying23 hi0 hi1 hi2 hi3 rfl (by omega) (.slice oa ys.length oc) ys.length (wCells ys) rfl (own_ext hP9.ob ((Ext.refl _).alloc _)) ⟨w9.heap.size, 0, none⟩ 1 1 (wCells1 x) rfl rfl (World.news_of_block (cs := (wCells1 x).toArray) (t := 33) (fr := (0, 0)) (by exact blk_new _ _ _ rfl)) (by simp [wCells1, Value.oneCell']) (by omega) (by unfold maxLen; omega) (by omega) (by have := hP9.ext.size; simp; omega) _ rfl ?_; intro g cap w10 hown10 hgrow hat hlt10; have s2 := grown_get hgrow (p := ⟨B6, 2, none⟩) (v := .slice oa ys.length oc) hvB (((Ext.refl _).alloc _).get u2); have s3 := grown_free hgrow (p := ⟨B6, 2, none⟩) (by simp; omega) hvB ((((Ext.refl w9).alloc _).frozen (p := ⟨B6, 2, none⟩) hbB).trans f2))
                  have hin' : inM m x = false := hin
                  have hPn := (hP9.more ((Ext.refl _).alloc _)).putB h56 hb6 (x := x) hown10 rfl hgrow rfl hat
                  refine ⟨⟨k + 1, va, .slice (some ⟨g, 0, none⟩) (ys.length + 1) cap, rfl, by omega, ?_⟩, by simp [intOf]; omega⟩
                  rw [take_filter ws _ k hlt HX.out, take_filter ws _ k hlt HX.out, xsE.out, ysE.out, hin']
                  simpa using hPn
              · obtain rfl : k = ws.length := by omega
                rw [List.take_length] at hP
                obtain ⟨tk1, tk2, tk3, tk4⟩ := taken HB.out HM.out HC.out
                have l1 : (ws.filter (inM m)).length ≤ ws.length := List.length_filter_le _ _
                have l2 : (ws.filter fun x => !inM m x).length ≤ ws.length := List.length_filter_le _ _
                have fx : ∀ x ∈ ws.filter (inM m), wFits x := fun x hx => hfit x (List.mem_filter.1 hx).1
                have fy : ∀ x ∈ (ws.filter fun x => !inM m x), wFits x := fun x hx => hfit x (List.mem_filter.1 hx).1
                obtain ⟨xs, hxs⟩ : ∃ xs, ws.filter (inM m) = xs := ⟨_, rfl⟩
                obtain ⟨ys, hys⟩ : ∃ ys, (ws.filter fun x => !inM m x) = ys := ⟨_, rfl⟩
                rw [hxs] at tk2 tk3 tk4 l1 fx hP
                rw [hys] at tk3 tk4 l2 fy hP
                clear hxs hys
                have TK1 := Lib.hid tk1
                have TK2 := Lib.hid tk2
                have TK3 := Lib.hid tk3
                have TK4 := Lib.hid tk4
                have FX := Lib.hid fx
                have FY := Lib.hid fy
                have FW := Lib.hid hfit
                have xl : xs.length ≤ 60 := Nat.le_trans l1 hwl60
                have yl : ys.length ≤ 60 := Nat.le_trans l2 hwl60
                clear tk1 tk2 tk3 tk4 l1 l2 fx fy hfit hP0 d2 hx8 hy8 B8 hwl60
                have hyr : Ext w wr := hy7.trans hP.ext
                have hb7 : 0 < w.heap.size := lt_of_cell hg
                have hbr : 0 < wr.heap.size := by have := hyr.size; omega
                have hgr : Good wr := hg.ext hyr
                have B8 : Hid (wr.heap[w.heap.size]? = some (.cells #[.slice af 0 cf, .slice ah h.length ch, .slice aw ws.length cw] 25 (0, 0))) := Lib.hid (by rw [hP.ext.block _ (lt_blk B7'.out)]; exact B7'.out)
                clear B7'
                obtain ⟨oa, oc, rfl, hoc, hra, -, -⟩ := own_row hP.oa
                obtain ⟨ob, od, rfl, hod, hrb, -, -⟩ := own_row hP.ob
                have wx := hra.wrs
                have wy := hrb.wrs
                have K5 := Lib.hid hP.b5
                have K6 := Lib.hid hP.b6
                have EM := (hsm7.ext hP.ext)
                have EH := hsh.ext hyr
                have EW := hsw.ext hyr
                clear hra hrb hP hi0 hi1 hi2 hi3
                go_wp2_with fail
                refine (New_lgs 0 wr (by omega) (by omega) (Lgs.nil wr wr.heap.size) (Nat.le_refl _)).mono ?_
                rintro e wA ⟨rfl, hxA, hlA⟩
                have HXA := Lib.hid hxA.size
                go_wp2_with fail
                refine (New_lgs 0 wA (by omega) (by omega) hlA HXA.out).mono ?_
                rintro e wB ⟨rfl, hxB, hlB⟩
                have hyB : Ext wr wB := hxA.trans hxB
                obtain ⟨ga, hga⟩ : ∃ ga : Lg, ga = ⟨wr.heap.size, .slice none 0 0, .slice none 0 0, ⟨0, [], []⟩⟩ := ⟨_, rfl⟩
                obtain ⟨gb, hgb'⟩ : ∃ gb : Lg, gb = ⟨wA.heap.size, .slice none 0 0, .slice none 0 0, ⟨0, [], []⟩⟩ := ⟨_, rfl⟩
                rw [List.nil_append, ← hga, ← hgb', List.singleton_append] at hlB
                have hab : wr.heap.size = ga.b := by rw [hga]
                have hbb : wA.heap.size = gb.b := by rw [hgb']
                have hLa : ga.L = ⟨0, [], []⟩ := by rw [hga]
                have hLb : gb.L = ⟨0, [], []⟩ := by rw [hgb']
                clear hga hgb'
                rw [hab, hbb]
                have blkB : ∀ {k : Nat} {o : Obj}, wr.heap[k]? = some o → wB.heap[k]? = some o := fun hk => (hyB.block _ (lt_blk hk)).trans hk
                have a0 := cell_blk (blkB B8.out) (i := 0) rfl
                have a1 := cell_blk (blkB B8.out) (i := 1) rfl
                have a2 := cell_blk (blkB B8.out) (i := 2) rfl
                clear hlA hxA hxB
                go_wp2_with fail
                have hacc := Accept_lgs hlB (i := 0) (g := ga) rfl (hgr.ext hyB) [] h ws af ah aw cf ch cw (by simp) lh lw kf kh (.inl rfl) (EH.ext hyB) (EW.ext hyB) FW.out
                refine hacc.mono ?_
                rintro e wC ⟨_, hokC⟩
                obtain ⟨rfl, hcC, ga3, hb3, hL3, hlC⟩ := hokC _ _ (by rw [hLa]; exact TK1.out)
                change Lgs wC wr.heap.size [ga3, gb] at hlC
                have hgeA : ∀ k, ga.own k → wr.heap.size ≤ k := hlB.ge ga (by simp)
                have hyC : Ext wr wC := Chg.ext hyB hcC (fun i hi => hgeA i hi)
                have blkC : ∀ {k : Nat} {o : Obj}, wr.heap[k]? = some o → wC.heap[k]? = some o := fun hk => (hyC.block _ (lt_blk hk)).trans hk
                have b0 := cell_blk (blkC K5.out) (i := 0) rfl
                have b1 := cell_blk (blkC K5.out) (i := 1) rfl
                have b2 := cell_blk (blkC K5.out) (i := 2) rfl
                clear hacc hokC a0 a1 a2 hlB hcC
                go_wp2_with fail
                have hacc := Accept_lgs hlC (i := 1) (g := gb) rfl (hgr.ext hyC) [] m xs none am oa 0 cm oc (by simp) lm (by omega) (by simp) km (.inl rfl) (EM.ext hyC) (wx.ext hyC) FX.out
                refine hacc.mono ?_
                rintro e wD ⟨_, hokD⟩
                obtain ⟨rfl, hcD, gb3, hb3', hL3', hlD⟩ := hokD _ _ (by rw [hLb]; exact TK2.out)
                change Lgs wD wr.heap.size [ga3, gb3] at hlD
                have hgeB : ∀ k, gb.own k → wr.heap.size ≤ k := hlC.ge gb (by simp)
                have hyD : Ext wr wD := Chg.ext hyC hcD (fun i hi => hgeB i hi)
                have blkD : ∀ {k : Nat} {o : Obj}, wr.heap[k]? = some o → wD.heap[k]? = some o := fun hk => (hyD.block _ (lt_blk hk)).trans hk
                have c0 := cell_blk (blkD K6.out) (i := 0) rfl
                have c1 := cell_blk (blkD K6.out) (i := 1) rfl
                have c2 := cell_blk (blkD K6.out) (i := 2) rfl
                clear hacc hokD b0 b1 b2 hlC hcD
                go_wp2_with fail
                have hacc := Accept_lgs hlD (i := 1) (g := gb3) rfl (hgr.ext hyD) m h ys am ah ob cm ch od lm lh (by omega) km kh (EM.ext hyD) (EH.ext hyD) (wy.ext hyD) FY.out
                rw [hb3'] at hacc
                refine hacc.mono ?_
                rintro e wE ⟨_, hokE⟩
                obtain ⟨rfl, hcE, gb4, hb4, hL4, hlE⟩ := hokE _ _ (by rw [hL3']; exact TK3.out)
                change Lgs wE wr.heap.size [ga3, gb4] at hlE
                have hgeB4 : ∀ k, gb3.own k → wr.heap.size ≤ k := hlD.ge gb3 (by simp)
                have hyE : Ext wr wE := Chg.ext hyD hcE (fun i hi => hgeB4 i hi)
                have blkE : ∀ {k : Nat} {o : Obj}, wr.heap[k]? = some o → wE.heap[k]? = some o := fun hk => (hyE.block _ (lt_blk hk)).trans hk
                have d2 := cell_blk (blkE B8.out) (i := 2) rfl
                clear hacc hokE c0 c1 c2 hlD hcE
                go_wp2_with fail
                have hlD := hlE.ext ((Ext.refl wE).drew)
                have hyD := hyE.drew
                have hbb4 : gb4.b = gb.b := hb4.trans hb3'
                have hsi : IntKind.i64.wrap ((xs.length : Int) + (ys.length : Int)) = (xs.length : Int) + (ys.length : Int) := IntWalk.i64_in _ (by omega)
                have hsb : ((ws.length : Int) == (xs.length : Int) + (ys.length : Int)) = true := by have := TK4.out; simp; omega
                have hsd : decide ((ws.length : Int) = (xs.length : Int) + (ys.length : Int)) = true := by have := TK4.out; simp; omega
                refine wp_region_held_drew (S := fun w' => w'.cell? ⟨w.heap.size, 2, none⟩ = some (.slice aw ws.length cw)) (by kernel_rfl) d2 (fun hS => ?_)
                refine wpAnyH_take (i := 0) (oi := ⟨_, _, _, _, _, _⟩) (v := ?_) rfl (by kernel_rfl) (by kernel_rfl) (by kernel_rfl) (fun _ _ _ h => h) (Or.inl ⟨by rfl, ?_⟩) (by assumption) ?_
                rotate_left
                · intro w hSw
                  (try dsimp only at hSw)
                  first | (go_simp; done) | (go_simp; with_reducible rfl)
                simp only [Act.put, List.setIfInBounds_toArray, List.set_cons_zero, List.set_cons_succ]
                refine wpAnyH_take (i := 1) (oi := ⟨_, _, _, _, _, _⟩) (v := ?_) rfl (by kernel_rfl) (by kernel_rfl) (by kernel_rfl) (fun _ _ _ h => h) (Or.inl ⟨by rfl, ?_⟩) (by assumption) ?_
                rotate_left
                · intro w hSw
                  (try dsimp only at hSw)
                  first | (go_simp; done) | (go_simp; with_reducible rfl)
                simp only [Act.put, List.setIfInBounds_toArray, List.set_cons_zero, List.set_cons_succ]
                refine wpAnyH_take (i := 2) (oi := ⟨_, _, _, _, _, _⟩) (v := ?_) rfl (by kernel_rfl) (by kernel_rfl) (by kernel_rfl) (fun _ _ _ h => h) (Or.inl ⟨by rfl, ?_⟩) (by assumption) ?_
                rotate_left
                · intro w hSw
                  (try dsimp only at hSw)
                  first | (go_simp; done) | (go_simp; with_reducible rfl)
                simp only [Act.put, List.setIfInBounds_toArray, List.set_cons_zero, List.set_cons_succ]
                refine wpAnyH_take (i := 3) (oi := ⟨_, _, _, _, _, _⟩) (v := ?_) rfl (by kernel_rfl) (by kernel_rfl) (by kernel_rfl) (fun _ _ _ h => h) (Or.inl ⟨by rfl, ?_⟩) (by assumption) ?_
                rotate_left
                · intro w hSw
                  (try dsimp only at hSw)
                  first | (go_simp; done) | (go_simp; with_reducible rfl)
                simp only [Act.put, List.setIfInBounds_toArray, List.set_cons_zero, List.set_cons_succ]
                refine wpAnyH_take (i := 4) (oi := ⟨_, _, _, _, _, _⟩) (v := ?_) rfl (by kernel_rfl) (by kernel_rfl) (by kernel_rfl) (fun _ _ _ h => h) (Or.inl ⟨by rfl, ?_⟩) (by assumption) ?_
                rotate_left
                · intro w hSw
                  (try dsimp only at hSw)
                  first | (go_simp; done) | (go_simp; with_reducible rfl)
                simp only [Act.put, List.setIfInBounds_toArray, List.set_cons_zero, List.set_cons_succ]
                refine wpAnyH_take (i := 5) (oi := ⟨_, _, _, _, _, _⟩) (v := ?_) rfl (by kernel_rfl) (by kernel_rfl) (by kernel_rfl) (fun _ _ _ h => h) (Or.inl ⟨by rfl, ?_⟩) (by assumption) ?_
                rotate_left
                · intro w hSw
                  (try dsimp only at hSw)
                  first | (go_simp; done) | (go_simp; with_reducible rfl)
                simp only [Act.put, List.setIfInBounds_toArray, List.set_cons_zero, List.set_cons_succ]
                refine wpAnyH_take (i := 6) (oi := ⟨_, _, _, _, _, _⟩) (v := ?_) rfl (by kernel_rfl) (by kernel_rfl) (by kernel_rfl) (fun _ _ _ h => h) (Or.inl ⟨by rfl, ?_⟩) (by assumption) ?_
                rotate_left
                · intro w hSw
                  (try dsimp only at hSw)
                  first | (go_simp; done) | (go_simp; with_reducible rfl)
                simp only [Act.put, List.setIfInBounds_toArray, List.set_cons_zero, List.set_cons_succ]
                refine wpAnyH_take (i := 7) (oi := ⟨_, _, _, _, _, _⟩) (v := ?_) rfl (by kernel_rfl) (by kernel_rfl) (by kernel_rfl) (fun _ _ _ h => h) (Or.inl ⟨by rfl, ?_⟩) (by assumption) ?_
                rotate_left
                · intro w hSw
                  (try dsimp only at hSw)
                  first | (go_simp; done) | (go_simp; with_reducible rfl)
                simp only [Act.put, List.setIfInBounds_toArray, List.set_cons_zero, List.set_cons_succ]
                refine wpAnyH_take (i := 8) (oi := ⟨_, _, _, _, _, _⟩) (v := ?_) rfl (by kernel_rfl) (by kernel_rfl) (by kernel_rfl) (fun _ _ _ h => h) (Or.inl ⟨by rfl, ?_⟩) (by assumption) ?_
                rotate_left
                · intro w hSw
                  (try dsimp only at hSw)
                  first | (go_simp; done) | (go_simp; with_reducible rfl)
                simp only [Act.put, List.setIfInBounds_toArray, List.set_cons_zero, List.set_cons_succ]
                refine wpAnyH_take (i := 9) (oi := ⟨_, _, _, _, _, _⟩) (v := ?_) rfl (by kernel_rfl) (by kernel_rfl) (by kernel_rfl) (fun _ _ _ h => h) (Or.inl ⟨by rfl, ?_⟩) (by assumption) ?_
                rotate_left
                · intro w hSw
                  (try dsimp only at hSw)
                  first | (go_simp; done) | (go_simp; with_reducible rfl)
                simp only [Act.put, List.setIfInBounds_toArray, List.set_cons_zero, List.set_cons_succ]
                refine wpAnyH_take (i := 10) (oi := ⟨_, _, _, _, _, _⟩) (v := ?_) rfl (by kernel_rfl) (by kernel_rfl) (by kernel_rfl) (fun _ _ _ h => h) (Or.inl ⟨by rfl, ?_⟩) (by assumption) ?_
                rotate_left
                · intro w hSw
                  (try dsimp only at hSw)
                  first | (go_simp; done) | (go_simp; with_reducible rfl)
                simp only [Act.put, List.setIfInBounds_toArray, List.set_cons_zero, List.set_cons_succ]
                refine wpAnyH_take (i := 11) (oi := ⟨_, _, _, _, _, _⟩) (v := ?_) rfl (by kernel_rfl) (by kernel_rfl) (by kernel_rfl) (fun _ _ _ h => h) (Or.inl ⟨by rfl, ?_⟩) (by assumption) ?_
                rotate_left
                · intro w hSw
                  (try dsimp only at hSw)
                  first | (go_simp; done) | (go_simp; with_reducible rfl)
                simp only [Act.put, List.setIfInBounds_toArray, List.set_cons_zero, List.set_cons_succ]
                refine wpAnyH_take (i := 12) (oi := ⟨_, _, _, _, _, _⟩) (v := ?_) rfl (by kernel_rfl) (by kernel_rfl) (by kernel_rfl) (fun _ _ _ h => h) (Or.inl ⟨by rfl, ?_⟩) (by assumption) ?_
                rotate_left
                · intro w hSw
                  (try dsimp only at hSw)
                  first | (go_simp; done) | (go_simp; with_reducible rfl)
                simp only [Act.put, List.setIfInBounds_toArray, List.set_cons_zero, List.set_cons_succ]
                refine wpAnyH_take (i := 13) (oi := ⟨_, _, _, _, _, _⟩) (v := ?_) rfl (by kernel_rfl) (by kernel_rfl) (by kernel_rfl) (fun _ _ _ h => h) (Or.inl ⟨by rfl, ?_⟩) (by assumption) ?_
                rotate_left
                · intro w hSw
                  (try dsimp only at hSw)
                  first | (go_simp; done) | (go_simp; with_reducible rfl)
                simp only [Act.put, List.setIfInBounds_toArray, List.set_cons_zero, List.set_cons_succ]
                refine wpAnyH_take (i := 14) (oi := ⟨_, _, _, _, _, _⟩) (v := ?_) rfl (by kernel_rfl) (by kernel_rfl) (by kernel_rfl) (fun _ _ _ h => h) (Or.inl ⟨by rfl, ?_⟩) (by assumption) ?_
                rotate_left
                · intro w hSw
                  (try dsimp only at hSw)
                  first | (go_simp; done) | (go_simp; with_reducible rfl)
                simp only [Act.put, List.setIfInBounds_toArray, List.set_cons_zero, List.set_cons_succ]
                refine wpAnyH_take (i := 15) (oi := ⟨_, _, _, _, _, _⟩) (v := ?_) rfl (by kernel_rfl) (by kernel_rfl) (by kernel_rfl) (fun _ _ _ h => h) (Or.inl ⟨by rfl, ?_⟩) (by assumption) ?_
                rotate_left
                · intro w hSw
                  (try dsimp only at hSw)
                  first | (go_simp; done) | (go_simp; with_reducible rfl)
                simp only [Act.put, List.setIfInBounds_toArray, List.set_cons_zero, List.set_cons_succ]
                refine wpAnyH_take (i := 16) (oi := ⟨_, _, _, _, _, _⟩) (v := ?_) rfl (by kernel_rfl) (by kernel_rfl) (by kernel_rfl) (fun _ _ _ h => h) (Or.inl ⟨by rfl, ?_⟩) (by assumption) ?_
                rotate_left
                · intro w hSw
                  (try dsimp only at hSw)
                  first | (go_simp; done) | (go_simp; with_reducible rfl)
                simp only [Act.put, List.setIfInBounds_toArray, List.set_cons_zero, List.set_cons_succ]
                refine wpAnyH_take (i := 17) (oi := ⟨_, _, _, _, _, _⟩) (v := ?_) rfl (by kernel_rfl) (by kernel_rfl) (by kernel_rfl) (fun _ _ _ h => h) (Or.inl ⟨by rfl, ?_⟩) (by assumption) ?_
                rotate_left
                · intro w hSw
                  (try dsimp only at hSw)
                  first | (go_simp; done) | (go_simp; with_reducible rfl)
                simp only [Act.put, List.setIfInBounds_toArray, List.set_cons_zero, List.set_cons_succ]
                refine wpAnyH_take (i := 18) (oi := ⟨_, _, _, _, _, _⟩) (v := ?_) rfl (by kernel_rfl) (by kernel_rfl) (by kernel_rfl) (fun _ _ _ h => h) (Or.inl ⟨by rfl, ?_⟩) (by assumption) ?_
                rotate_left
                · intro w hSw
                  (try dsimp only at hSw)
                  first | (go_simp; done) | (go_simp; with_reducible rfl)
                simp only [Act.put, List.setIfInBounds_toArray, List.set_cons_zero, List.set_cons_succ]
                refine wpAnyH_take (i := 20) (oi := ⟨_, _, _, _, _, _⟩) (v := ?_) rfl (by kernel_rfl) (by kernel_rfl) (by kernel_rfl) (fun _ _ _ h => h) (Or.inl ⟨by rfl, ?_⟩) (by assumption) ?_
                rotate_left
                · intro w hSw
                  (try dsimp only at hSw)
                  first | (go_simp; done) | (go_simp; with_reducible rfl)
                simp only [Act.put, List.setIfInBounds_toArray, List.set_cons_zero, List.set_cons_succ]
                refine wpAnyH_ready (rs := [19]) (by kernel_rfl) (by simp) ?_
                refine AllReadyH.cons (o := ⟨_, _, _, _, _, _⟩) rfl (fun K hK => ?_) AllReadyH.nil
                go_simp
                have hw_wF := Writes_any ga3.b ga3.hv ga3.wv ga3.L _ (hlD.at_ ga3 (by simp)) (by rw [hL3]; show ws.length < 1000000; have := TK4.out; omega)
                rw [hb3] at hw_wF
                refine hw_wF.mono ?_
                rintro e wF ⟨v_wF, rfl, o_wF, hx_wF⟩
                rw [hL3] at o_wF
                simp only at o_wF
                obtain ⟨fa, fc, rfl, -, rF, -, -⟩ := own_row o_wF
                have hl_wF := hlD.ext hx_wF
                refine hK.out _ _ ?_ (fun hS2 => ?_)
                · exact hx_wF.get hS
                clear hK K
                (try simp only [Act.put, List.setIfInBounds_toArray, List.set_cons_zero, List.set_cons_succ])
                refine wpAnyH_ready (rs := [21]) (by kernel_rfl) (by simp) ?_
                refine AllReadyH.cons (o := ⟨_, _, _, _, _, _⟩) rfl (fun K hK => ?_) AllReadyH.nil
                go_simp
                have hw_wG := Writes_any gb4.b gb4.hv gb4.wv gb4.L _ (hl_wF.at_ gb4 (by simp)) (by rw [hL4]; show ws.length < 1000000; have := TK4.out; omega)
                rw [hbb4] at hw_wG
                refine hw_wG.mono ?_
                rintro e wG ⟨v_wG, rfl, o_wG, hx_wG⟩
                rw [hL4] at o_wG
                simp only at o_wG
                obtain ⟨gga, ggc, rfl, -, rG, -, -⟩ := own_row o_wG
                have hl_wG := hl_wF.ext hx_wG
                refine hK.out _ _ ?_ (fun hS2 => ?_)
                · exact hx_wG.get hS2
                clear hK K
                (try simp only [Act.put, List.setIfInBounds_toArray, List.set_cons_zero, List.set_cons_succ])
                refine wpAnyH_ready (rs := [22]) (by kernel_rfl) (by simp) ?_
                refine AllReadyH.cons (o := ⟨_, _, _, _, _, _⟩) rfl (fun K hK => ?_) AllReadyH.nil
                go_simp
                refine (EqW_any ws ws fa gga fc ggc _ lw (rF.wrs.ext hx_wG) rG.wrs).mono ?_
                rintro e wH ⟨rfl, hx_wH⟩
                rw [decide_eq_true rfl]
                have hl_wH := hl_wG.ext hx_wH
                refine hK.out _ _ ?_ (fun hS2 => ?_)
                · exact hx_wH.get hS2
                clear hK K
                (try simp only [Act.put, List.setIfInBounds_toArray, List.set_cons_zero, List.set_cons_succ])
                refine wpAnyH_take (i := 23) (oi := ⟨_, _, _, _, _, _⟩) (v := ?_) rfl (by kernel_rfl) (by kernel_rfl) (by kernel_rfl) (fun _ _ _ h => h) (Or.inl ⟨by rfl, ?_⟩) (by assumption) ?_
                rotate_left
                · intro w hSw
                  (try dsimp only at hSw)
                  first | (go_simp; done) | (go_simp; with_reducible rfl)
                simp only [Act.put, List.setIfInBounds_toArray, List.set_cons_zero, List.set_cons_succ]
                refine wpAnyH_take (i := 24) (oi := ⟨_, _, _, _, _, _⟩) (v := ?_) rfl (by kernel_rfl) (by kernel_rfl) (by kernel_rfl) (fun _ _ _ h => h) (Or.inl ⟨by rfl, ?_⟩) (by assumption) ?_
                rotate_left
                · intro w hSw
                  (try dsimp only at hSw)
                  first | (go_simp; done) | (go_simp; with_reducible rfl)
                simp only [Act.put, List.setIfInBounds_toArray, List.set_cons_zero, List.set_cons_succ]
                refine wpAnyH_take (i := 25) (oi := ⟨_, _, _, _, _, _⟩) (v := ?_) rfl (by kernel_rfl) (by kernel_rfl) (by kernel_rfl) (fun _ _ _ h => h) (Or.inl ⟨by rfl, ?_⟩) (by assumption) ?_
                rotate_left
                · intro w hSw
                  (try dsimp only at hSw)
                  first | (go_simp; done) | (go_simp; with_reducible rfl)
                simp only [Act.put, List.setIfInBounds_toArray, List.set_cons_zero, List.set_cons_succ]
                refine wpAnyH_take (i := 27) (oi := ⟨_, _, _, _, _, _⟩) (v := ?_) rfl (by kernel_rfl) (by kernel_rfl) (by kernel_rfl) (fun _ _ _ h => h) (Or.inl ⟨by rfl, ?_⟩) (by assumption) ?_
                rotate_left
                · intro w hSw
                  (try dsimp only at hSw)
                  first | (go_simp; done) | (go_simp; with_reducible rfl)
                simp only [Act.put, List.setIfInBounds_toArray, List.set_cons_zero, List.set_cons_succ]
                refine wpAnyH_ready (rs := [26]) (by kernel_rfl) (by simp) ?_
                refine AllReadyH.cons (o := ⟨_, _, _, _, _, _⟩) rfl (fun K hK => ?_) AllReadyH.nil
                go_simp
                have hw_wI := Have_any ga3.b ga3.hv ga3.wv ga3.L _ (hl_wH.at_ ga3 (by simp)) (by have := (hl_wH.ok ga3 (by simp)).hlen; omega)
                rw [hb3] at hw_wI
                refine hw_wI.mono ?_
                rintro e wI ⟨v_wI, rfl, o_wI, hx_wI⟩
                rw [hL3] at o_wI
                simp only at o_wI
                obtain ⟨ia, ic, rfl, -, rI, -, -⟩ := own_row o_wI
                have hl_wI := hl_wH.ext hx_wI
                refine hK.out _ _ ?_ (fun hS2 => ?_)
                · exact hx_wI.get hS2
                clear hK K
                (try simp only [Act.put, List.setIfInBounds_toArray, List.set_cons_zero, List.set_cons_succ])
                refine wpAnyH_ready (rs := [28]) (by kernel_rfl) (by simp) ?_
                refine AllReadyH.cons (o := ⟨_, _, _, _, _, _⟩) rfl (fun K hK => ?_) AllReadyH.nil
                go_simp
                have hw_wJ := Have_any gb4.b gb4.hv gb4.wv gb4.L _ (hl_wI.at_ gb4 (by simp)) (by have := (hl_wI.ok gb4 (by simp)).hlen; omega)
                rw [hbb4] at hw_wJ
                refine hw_wJ.mono ?_
                rintro e wJ ⟨v_wJ, rfl, o_wJ, hx_wJ⟩
                rw [hL4] at o_wJ
                simp only at o_wJ
                obtain ⟨ja, jc, rfl, -, rJ, -, -⟩ := own_row o_wJ
                have hl_wJ := hl_wI.ext hx_wJ
                refine hK.out _ _ ?_ (fun hS2 => ?_)
                · exact hx_wJ.get hS2
                clear hK K
                (try simp only [Act.put, List.setIfInBounds_toArray, List.set_cons_zero, List.set_cons_succ])
                refine wpAnyH_ready (rs := [29]) (by kernel_rfl) (by simp) ?_
                refine AllReadyH.cons (o := ⟨_, _, _, _, _, _⟩) rfl (fun K hK => ?_) AllReadyH.nil
                go_simp
                refine (EqE_any h h ia ja ic jc _ lh (rI.ents.ext hx_wJ) rJ.ents).mono ?_
                rintro e wK ⟨rfl, hx_wK⟩
                rw [decide_eq_true rfl]
                have hl_wK := hl_wJ.ext hx_wK
                refine hK.out _ _ ?_ (fun hS2 => ?_)
                · exact hx_wK.get hS2
                clear hK K
                (try simp only [Act.put, List.setIfInBounds_toArray, List.set_cons_zero, List.set_cons_succ])
                refine wpAnyH_take (i := 30) (oi := ⟨_, _, _, _, _, _⟩) (v := ?_) rfl (by kernel_rfl) (by kernel_rfl) (by kernel_rfl) (fun _ _ _ h => h) (Or.inl ⟨by rfl, ?_⟩) (by assumption) ?_
                rotate_left
                · intro w hSw
                  (try dsimp only at hSw)
                  first | (go_simp; done) | (go_simp; with_reducible rfl)
                simp only [Act.put, List.setIfInBounds_toArray, List.set_cons_zero, List.set_cons_succ]
                refine wpAnyH_take (i := 31) (oi := ⟨_, _, _, _, _, _⟩) (v := ?_) rfl (by kernel_rfl) (by kernel_rfl) (by kernel_rfl) (fun _ _ _ h => h) (Or.inl ⟨by rfl, ?_⟩) (by assumption) ?_
                rotate_left
                · intro w hSw
                  (try dsimp only at hSw)
                  first | (go_simp; done) | (go_simp; with_reducible rfl)
                simp only [Act.put, List.setIfInBounds_toArray, List.set_cons_zero, List.set_cons_succ]
                refine wpAnyH_take (i := 32) (oi := ⟨_, _, _, _, _, _⟩) (v := ?_) rfl (by kernel_rfl) (by kernel_rfl) (by kernel_rfl) (fun _ _ _ h => h) (Or.inl ⟨by rfl, ?_⟩) (by assumption) ?_
                rotate_left
                · intro w hSw
                  (try dsimp only at hSw)
                  first | (go_simp; done) | (go_simp; with_reducible rfl)
                simp only [Act.put, List.setIfInBounds_toArray, List.set_cons_zero, List.set_cons_succ]
                refine wpAnyH_take (i := 34) (oi := ⟨_, _, _, _, _, _⟩) (v := ?_) rfl (by kernel_rfl) (by kernel_rfl) (by kernel_rfl) (fun _ _ _ h => h) (Or.inl ⟨by rfl, ?_⟩) (by assumption) ?_
                rotate_left
                · intro w hSw
                  (try dsimp only at hSw)
                  first | (go_simp; done) | (go_simp; with_reducible rfl)
                simp only [Act.put, List.setIfInBounds_toArray, List.set_cons_zero, List.set_cons_succ]
                refine wpAnyH_take (i := 35) (oi := ⟨_, _, _, _, _, _⟩) (v := ?_) rfl (by kernel_rfl) (by kernel_rfl) (by kernel_rfl) (fun _ _ _ h => h) (Or.inl ⟨by rfl, ?_⟩) (by assumption) ?_
                rotate_left
                · intro w hSw
                  (try dsimp only at hSw)
                  first | (go_simp; done) | (go_simp; with_reducible rfl)
                simp only [Act.put, List.setIfInBounds_toArray, List.set_cons_zero, List.set_cons_succ]
                refine wpAnyH_ready (rs := [33]) (by kernel_rfl) (by simp) ?_
                refine AllReadyH.cons (o := ⟨_, _, _, _, _, _⟩) rfl (fun K hK => ?_) AllReadyH.nil
                go_simp
                have hw_wL := Writes_any ga3.b ga3.hv ga3.wv ga3.L _ (hl_wK.at_ ga3 (by simp)) (by rw [hL3]; show ws.length < 1000000; have := TK4.out; omega)
                rw [hb3] at hw_wL
                refine hw_wL.mono ?_
                rintro e wL ⟨v_wL, rfl, o_wL, hx_wL⟩
                rw [hL3] at o_wL
                simp only at o_wL
                obtain ⟨la, lc, rfl, -, rL, -, -⟩ := own_row o_wL
                have hl_wL := hl_wK.ext hx_wL
                refine hK.out _ _ ?_ (fun hS2 => ?_)
                · exact hx_wL.get hS2
                clear hK K
                (try simp only [Act.put, List.setIfInBounds_toArray, List.set_cons_zero, List.set_cons_succ])
                have hyL := (((((((hyD.trans hx_wF).trans hx_wG).trans hx_wH).trans hx_wI).trans hx_wJ).trans hx_wK).trans hx_wL)
                refine wpAnyH_ready (rs := [36]) (by kernel_rfl) (by simp) ?_
                refine AllReadyH.cons (o := ⟨_, _, _, _, _, _⟩) rfl (fun K hK => ?_) AllReadyH.nil
                go_simp
                refine (EqW_any ws ws la aw lc cw _ lw rL.wrs (EW.ext hyL)).mono ?_
                rintro e wM ⟨rfl, hx_wM⟩
                rw [decide_eq_true rfl]
                refine hK.out _ _ ?_ (fun hS2 => ?_)
                · exact hx_wM.get hS2
                clear hK K
                (try simp only [Act.put, List.setIfInBounds_toArray, List.set_cons_zero, List.set_cons_succ])
                refine wpAnyH_take (i := 37) (oi := ⟨_, _, _, _, _, _⟩) (v := ?_) rfl (by kernel_rfl) (by kernel_rfl) (by kernel_rfl) (fun _ _ _ h => h) (Or.inl ⟨by rfl, ?_⟩) (by assumption) ?_
                rotate_left
                · intro w hSw
                  (try dsimp only at hSw)
                  first | (go_simp; done) | (go_simp; with_reducible rfl)
                simp only [Act.put, List.setIfInBounds_toArray, List.set_cons_zero, List.set_cons_succ]
                refine wpAnyH_take (i := 38) (oi := ⟨_, _, _, _, _, _⟩) (v := ?_) rfl (by kernel_rfl) (by kernel_rfl) (by kernel_rfl) (fun _ _ _ h => h) (Or.inl ⟨by rfl, ?_⟩) (by assumption) ?_
                rotate_left
                · intro w hSw
                  (try dsimp only at hSw)
                  first | (go_simp; done) | (go_simp; with_reducible rfl)
                simp only [Act.put, List.setIfInBounds_toArray, List.set_cons_zero, List.set_cons_succ]
                refine wpAnyH_done (by kernel_rfl) ?_ _
                go_wp2_with fail
                go_ret
                exact ⟨rfl, hyr.trans (hyL.trans hx_wM)⟩
      · have hfp : (0 : Int) < (f.length : Int) := by omega
        go_wp2_with fail
        go_ret
        exact ⟨rfl, hy6⟩
    · rw [decide_eq_false hrm]
      go_wp2_with fail
      go_ret
      exact ⟨rfl, hy6⟩

end Go.Proofs.YtbahalckcenfmaaGreatDoor
