/-
  The walk of LogTwo: it is true.
-/
import Derived.Test.YtpohhfkgoijpaaaDoorPick
namespace Go.Proofs.YtpohhfkgoijpaaaDoor
open Go.RowKit
set_option linter.unusedSimpArgs false
set_option linter.unusedVariables false

/-- A write under another key. -/
def wKey (x : Wr) (key : ByteArray) : Wr := { x with key := key }
theorem wKey_right {x : Wr} {key : ByteArray} (h : wRight x = .nil) (hk : key.size ≤ 40) : wRight (wKey x key) = .nil := by
  unfold wRight at h ⊢
  split at h; · cases h
  split at h; · cases h
  split at h; · cases h
  split at h; · cases h
  split at h; · cases h
  rename_i h1 h2 h3 h4 h5
  have h3' : ¬ (40 < key.size ∨ 300 < x.val.size) := by omega
  exact (if_neg h1).trans ((if_neg h2).trans ((if_neg h3').trans ((if_neg h4).trans (if_neg h5))))
theorem fit1 {x : Wr} (h : wFits x) : ∀ y ∈ [x], wFits y := fun y hy => by rw [List.mem_singleton.1 hy]; exact h
theorem two_v {x : Wr} (h : wRight x = .nil) : vRight [(⟨x.r, x.t⟩ : Ent)] = .nil := by
  obtain ⟨_, _, _, _, h5⟩ := wRight_ok h
  unfold okId at h5
  exact vr1 _ _ (by omega) (by omega) (by omega) (by omega)
theorem two_b {x : Wr} (h : wRight x = .nil) : bRight [] [⟨x.r, x.t⟩] [x] = .nil := by
  obtain ⟨_, _, _, _, h5⟩ := wRight_ok h
  unfold okId at h5
  refine (bRight_iff _ _ _).2 ⟨(vCovers_iff _ _).2 ⟨two_v h, rfl, fun r => ?_⟩, by simp, fun y hy => ?_, by simp [Srt]⟩
  · exact (vOf_ge ((vRight_iff _).1 (two_v h)).2 r).1
  · obtain rfl : y = x := by simpa using hy
    refine ⟨h, ?_⟩
    have e1 : vOf [(⟨y.r, y.t⟩ : Ent)] y.r = y.t := by simp [vOf]
    have e2 : vOf [] y.r = 0 := rfl
    unfold idWithin
    rw [e1, e2, decide_eq_true (show 0 < y.t by omega), decide_eq_true (Int.le_refl y.t)]
    rfl
theorem two_1 {x : Wr} (h : wRight x = .nil) : logAccept ⟨0, [], []⟩ [] [⟨x.r, x.t⟩] [x] = .inr (1, ⟨0, [⟨x.r, x.t⟩], [x]⟩) := by
  unfold logAccept
  rw [if_neg (by rw [two_b h]; simp), if_neg (by decide +kernel), vJoin_ok rfl (two_v h) (by rw [mg1]; simp), mg1]
  have h2 : accGo 0 [x] [] 0 = .inr ([x], 1) := by simp [accGo, hasAt, posW, insAt]
  simp only [accJoin, h2, accFin]
  rfl
theorem two_2 {x : Wr} {key : ByteArray} (h : wRight x = .nil) (hk : key.size ≤ 40) (hne : key ≠ x.key) : logAccept ⟨0, [⟨x.r, x.t⟩], [x]⟩ [] [⟨x.r, x.t⟩] [wKey x key] = .inl (.plc 9 0) := by
  have hw := wKey_right h hk
  have hb : bRight [] [⟨x.r, x.t⟩] [wKey x key] = .nil := two_b (x := wKey x key) hw
  have hm : vMerge [(⟨x.r, x.t⟩ : Ent)] [⟨x.r, x.t⟩] = [⟨x.r, x.t⟩] := by
    rw [vMerge_eq (⟨x.r, x.t⟩ : Ent) ⟨x.r, x.t⟩ [] [] rfl, vMerge_nil_left]
    simp
  have hc : vCovers [(⟨x.r, x.t⟩ : Ent)] [] = true := (vCovers_iff _ _).2 ⟨two_v h, rfl, fun r => (vOf_ge ((vRight_iff _).1 (two_v h)).2 r).1⟩
  unfold logAccept
  rw [if_neg (by rw [hb]; simp), if_neg (by rw [hc]; simp), vJoin_ok (two_v h) (two_v h) (by rw [hm]; simp), hm]
  have hid : idCmp x.t x.r x.t x.r = 0 := (idCmp_zero _ _ _ _).2 ⟨rfl, rfl⟩
  have hp : posW [x] (wKey x key) = 0 := by
    simp only [posW]; rw [if_neg]; unfold ltW; simp [wKey, hid]
  have h2 : accGo 0 [wKey x key] [x] 0 = .inl (.plc 9 0) := by
    simp only [accGo, hp]
    rw [if_pos (by simp [hasAt, wKey, hid]), if_neg]
    · simp
    · intro e
      simp only [List.getElem?_cons_zero, Option.some.injEq] at e
      exact hne (congrArg Wr.key e).symm
  simp only [accJoin, h2, accFin]

set_option maxRecDepth 100000 in
set_option maxHeartbeats 4000000 in
theorem LogTwo_any (x : Wr) (key : ByteArray) (w : World) (hg : Good w) (hf : wFits x) (hks : key.size < 9223372036854775808) :
    Calls Tryd.prog 5 #[.agg #[.int .i64 x.t, .int .i64 x.r, .int .i64 x.kind, .string x.key, .string x.val, .int .i64 x.n], .string key] w fun e w' => e = .returned (.bool true) ∧ Ext w w' := by
  have hgb : 0 < w.heap.size := lt_of_cell hg
  have hx0 : Ext w (w.alloc (.cells #[.int .i64 x.t, .int .i64 x.r, .int .i64 x.kind, .string x.key, .string x.val, .int .i64 x.n] 34)) := (Ext.refl _).alloc _
  go_enter Tryd.func5, Tryd.ntmps5
  go_wp2_with fail
  refine (logged_any _ (hg.ext hx0)).mono ?_
  rintro e w1 ⟨rfl, hx1⟩
  have hy1 : Ext w w1 := hx0.trans hx1
  have hwb : w1.heap[w.heap.size]? = some (.cells (wCells1 x).toArray 34 (0, 0)) := by rw [hx1.block _ (by simp)]; exact heap_alloc_new _ _
  have b0 : w1.cell? ⟨w.heap.size, 0, none⟩ = some (.int .i64 x.t) := cell_blk hwb rfl
  have b1 : w1.cell? ⟨w.heap.size, 1, none⟩ = some (.int .i64 x.r) := cell_blk hwb rfl
  have b2 : w1.cell? ⟨w.heap.size, 2, none⟩ = some (.int .i64 x.kind) := cell_blk hwb rfl
  have b3 : w1.cell? ⟨w.heap.size, 3, none⟩ = some (.string x.key) := cell_blk hwb rfl
  have b4 : w1.cell? ⟨w.heap.size, 4, none⟩ = some (.string x.val) := cell_blk hwb rfl
  have b5 : w1.cell? ⟨w.heap.size, 5, none⟩ = some (.int .i64 x.n) := cell_blk hwb rfl
  go_wp2_with fail
  refine (wRight_any x w1 hf.1 hf.2.1 hf.2.2.1 hf.2.2.2).mono ?_
  rintro e w2 ⟨v2, rfl, hv2, hx2⟩
  have hy2 : Ext w w2 := hy1.trans hx2
  by_cases hr : wRight x = .nil
  · rw [hr] at hv2
    obtain rfl : v2 = _ := hv2
    by_cases hk40 : (40 : Int) < (key.size : Int)
    · go_wp2_with fail
      go_ret
      exact ⟨rfl, hy2⟩
    · have c3 := hx2.get b3
      by_cases hkk : key = x.key
      · have hkb : (key.toList == x.key.toList) = true := by simp [hkk]
        have HK := Lib.hid hkk
        clear hkk
        go_wp2_with fail
        go_ret
        exact ⟨rfl, hy2⟩
      · have hkb : (key.toList == x.key.toList) = false := by simp [str_inj, hkk]
        have HK := Lib.hid hkk
        have HR := Lib.hid hr
        have hks40 : key.size ≤ 40 := by omega
        clear hkk hr
        go_wp2_with fail
        refine (New_lgs 0 w2 (by omega) (by omega) (Lgs.nil w2 w2.heap.size) (Nat.le_refl _)).mono ?_
        rintro e w3 ⟨rfl, hx3, hl3⟩
        have hy3 : Ext w w3 := hy2.trans hx3
        obtain ⟨g, hgeq⟩ : ∃ g : Lg, g = ⟨w2.heap.size, .slice none 0 0, .slice none 0 0, ⟨0, [], []⟩⟩ := ⟨_, rfl⟩
        rw [List.nil_append, ← hgeq] at hl3
        have hgB : w2.heap.size = g.b := by rw [hgeq]
        have hgL : g.L = ⟨0, [], []⟩ := by rw [hgeq]
        have hgo : ∀ k, g.own k → k = g.b := by
          rw [hgeq]; rintro k (hk | hk | hk)
          · exact hk
          · cases hk
          · cases hk
        clear hgeq
        rw [hgB]
        have hx13 : Ext w1 w3 := hx2.trans hx3
        have d0 := hx13.get b0
        have d1 := hx13.get b1
        have d0' : ∀ o, (w3.alloc o).cell? ⟨w.heap.size, 0, none⟩ = some (.int .i64 x.t) := fun o => ((Ext.refl w3).alloc o).get d0
        have d1' : ∀ o, (w3.alloc o).cell? ⟨w.heap.size, 1, none⟩ = some (.int .i64 x.r) := fun o => ((Ext.refl w3).alloc o).get d1
        have d2' : ∀ o, (w3.alloc o).cell? ⟨w.heap.size, 2, none⟩ = some (.int .i64 x.kind) := fun o => ((Ext.refl w3).alloc o).get (hx13.get b2)
        have d3' : ∀ o, (w3.alloc o).cell? ⟨w.heap.size, 3, none⟩ = some (.string x.key) := fun o => ((Ext.refl w3).alloc o).get (hx13.get b3)
        have d4' : ∀ o, (w3.alloc o).cell? ⟨w.heap.size, 4, none⟩ = some (.string x.val) := fun o => ((Ext.refl w3).alloc o).get (hx13.get b4)
        have d5' : ∀ o, (w3.alloc o).cell? ⟨w.heap.size, 5, none⟩ = some (.int .i64 x.n) := fun o => ((Ext.refl w3).alloc o).get (hx13.get b5)
        go_wp2_with fail
        obtain ⟨W4, hW4⟩ : ∃ W4, W4 = ((((w3.alloc (.cells #[.int .i64 x.r, .int .i64 x.t] 58)).alloc (.cells (wCells1 x).toArray 34)).alloc (.cells #[.slice none 0 0, .slice (some ⟨w3.heap.size, 0, none⟩) 1 1, .slice (some ⟨w3.heap.size + 1, 0, none⟩) 1 1] 44)).alloc (.cells #[.slice none 0 0, .slice (some ⟨w3.heap.size, 0, none⟩) 1 1, .slice (some ⟨w3.heap.size + 1, 0, none⟩) 1 1] 44)) := ⟨_, rfl⟩
        have hx34 : Ext w3 W4 := by rw [hW4]; exact ((((Ext.refl w3).alloc _).alloc _).alloc _).alloc _
        have hE : W4.heap[w3.heap.size]? = some (.cells #[.int .i64 x.r, .int .i64 x.t] 58 (0, 0)) := by
          rw [hW4, ((((Ext.refl _).alloc _).alloc _).alloc _).block _ (by simp)]; exact heap_alloc_new _ _
        have hWr : W4.heap[w3.heap.size + 1]? = some (.cells (wCells1 x).toArray 34 (0, 0)) := by
          rw [hW4, (((Ext.refl _).alloc _).alloc _).block _ (by simp)]; exact blk_new _ _ _ (by simp)
        have hB7 : W4.heap[w3.heap.size + 1 + 1]? = some (.cells #[.slice none 0 0, .slice (some ⟨w3.heap.size, 0, none⟩) 1 1, .slice (some ⟨w3.heap.size + 1, 0, none⟩) 1 1] 44 (0, 0)) := by
          rw [hW4, ((Ext.refl _).alloc _).block _ (by simp)]; exact blk_new _ _ _ (by simp)
        have hB8 : W4.heap[w3.heap.size + 1 + 1 + 1]? = some (.cells #[.slice none 0 0, .slice (some ⟨w3.heap.size, 0, none⟩) 1 1, .slice (some ⟨w3.heap.size + 1, 0, none⟩) 1 1] 44 (0, 0)) := by
          rw [hW4]; exact blk_new _ _ _ (by simp)
        have hEn : EntsAt W4 (some ⟨w3.heap.size, 0, none⟩) [⟨x.r, x.t⟩] := by
          refine .inr ⟨_, 0, rfl, lt_blk hE, fun k hk => ?_⟩
          have : k = 0 := by simpa using hk
          subst this
          exact ⟨cell_blk hE rfl, cell_blk hE rfl⟩
        have hWn : WrsAt W4 (some ⟨w3.heap.size + 1, 0, none⟩) [x] := by
          refine .inr ⟨_, 0, rfl, lt_blk hWr, fun k hk => ?_⟩
          have : k = 0 := by simpa using hk
          subst this
          exact ⟨cell_blk hWr rfl, cell_blk hWr rfl, cell_blk hWr rfl, cell_blk hWr rfl, cell_blk hWr rfl, cell_blk hWr rfl⟩
        have hcl := CloneW_any [x] (some ⟨w3.heap.size + 1, 0, none⟩) 1 W4 (by simp) (by simp) hWn (fun h => by cases h)
        change Calls _ _ _ ((((w3.alloc (.cells #[.int .i64 x.r, .int .i64 x.t] 58)).alloc (.cells (wCells1 x).toArray 34)).alloc (.cells #[.slice none 0 0, .slice (some ⟨w3.heap.size, 0, none⟩) 1 1, .slice (some ⟨w3.heap.size + 1, 0, none⟩) 1 1] 44)).alloc (.cells #[.slice none 0 0, .slice (some ⟨w3.heap.size, 0, none⟩) 1 1, .slice (some ⟨w3.heap.size + 1, 0, none⟩) 1 1] 44)) _
        rw [← hW4]
        refine hcl.mono ?_
        rintro e w5 ⟨cv, rfl, hco, hcn, hx5⟩
        have c80 : w5.cell? ⟨w3.heap.size + 1 + 1 + 1, 0, none⟩ = some (.slice none 0 0) := hx5.get (cell_blk hB8 rfl)
        have c81 : w5.cell? ⟨w3.heap.size + 1 + 1 + 1, 1, none⟩ = some (.slice (some ⟨w3.heap.size, 0, none⟩) 1 1) := hx5.get (cell_blk hB8 rfl)
        have c82 : w5.cell? ⟨w3.heap.size + 1 + 1 + 1, 2, none⟩ = some (.slice (some ⟨w3.heap.size + 1, 0, none⟩) 1 1) := hx5.get (cell_blk hB8 rfl)
        have f82 : w5.frozen? ⟨w3.heap.size + 1 + 1 + 1, 2, none⟩ = false := hx5.free (cell_blk (i := 2) hB8 rfl) (free_blk hB8)
        have c70 : w5.cell? ⟨w3.heap.size + 1 + 1, 0, none⟩ = some (.slice none 0 0) := hx5.get (cell_blk hB7 rfl)
        have c71 : w5.cell? ⟨w3.heap.size + 1 + 1, 1, none⟩ = some (.slice (some ⟨w3.heap.size, 0, none⟩) 1 1) := hx5.get (cell_blk hB7 rfl)
        have c72 : w5.cell? ⟨w3.heap.size + 1 + 1, 2, none⟩ = some (.slice (some ⟨w3.heap.size + 1, 0, none⟩) 1 1) := hx5.get (cell_blk hB7 rfl)
        rcases hco.2 with ⟨_, h0⟩ | ⟨G, cap, cur, hcv, hgG, hG5, hcap1, hcap2, hcs, htk⟩
        · simp at h0
        · subst hcv
          have hGlt := lt_blk hG5
          have hcur : ∀ (i : Nat) (v : Value), (wCells1 x)[i]? = some v → cur[i]? = some v := fun i v hv => by
            have h1 : (cur.toList.take (1 * 6))[i]? = some v := by
              have : cur.toList.take ([x].length * 6) = wCells1 x := htk
              rw [show [x].length = 1 from rfl] at this
              rw [this]; exact hv
            rw [List.getElem?_take] at h1
            split at h1
            · simpa using h1
            · cases h1
          have hGc : ∀ (i : Nat) (v : Value), (wCells1 x)[i]? = some v → w5.cell? ⟨G, i, none⟩ = some v := fun i v hv => by simp [World.cell?, hG5, hcur i v hv]
          have g3 : w5.cell? ⟨G, 3, none⟩ = some (.string x.key) := hGc 3 _ rfl
          have gf : w5.frozen? ⟨G, 3, none⟩ = false := by simp [World.frozen?, hG5]
          have hGne : G ≠ w3.heap.size + 1 + 1 + 1 := by have := lt_blk hB8; omega
          have hGne7 : G ≠ w3.heap.size + 1 + 1 := by have := lt_blk hB7; omega
          rw [show [x].length = 1 from rfl]
          go_wp2_with fail
          obtain ⟨W6, hW6⟩ : ∃ W6, W6 = ((w5.setCell ⟨w3.heap.size + 1 + 1 + 1, 2, none⟩ (.slice (some ⟨G, 0, none⟩) 1 cap)).setCell ⟨G, 3, none⟩ (.string key)) := ⟨_, rfl⟩
          rw [← hW6]
          have hx35 : Ext w3 w5 := hx34.trans hx5
          have hx36 : Ext w3 W6 := by rw [hW6]; exact (hx35.set (a := w3) (by show w3.heap.size ≤ w3.heap.size + 1 + 1 + 1; omega) _).set (by have := hx34.size; show w3.heap.size ≤ G; omega) _
          have hfar : ∀ b o, W4.heap[b]? = some o → b ≠ w3.heap.size + 1 + 1 + 1 → W6.heap[b]? = some o := fun b o hb hne => by
            have := lt_blk hb
            rw [hW6, set_far _ _ _ _ (by show b ≠ G; omega), set_far _ _ _ _ hne, hx5.block _ this]; exact hb
          have hE6 := hfar _ _ hE (by omega)
          have hWr6 := hfar _ _ hWr (by omega)
          have hB76 := hfar _ _ hB7 (by omega)
          have hB86 : W6.heap[w3.heap.size + 1 + 1 + 1]? = some (.cells #[.slice none 0 0, .slice (some ⟨w3.heap.size, 0, none⟩) 1 1, .slice (some ⟨G, 0, none⟩) 1 cap] 44 (0, 0)) := by
            rw [hW6, set_far _ _ _ _ (Ne.symm hGne)]
            have h5 := (hx5.block _ (lt_blk hB8)).trans hB8
            simpa using set_blk h5 (i := 2) (.slice (some ⟨G, 0, none⟩) 1 cap)
          have hG6 : ∀ (i : Nat) (v : Value), (wCells1 (wKey x key))[i]? = some v → W6.cell? ⟨G, i, none⟩ = some v := fun i v hv => by
            by_cases h3 : i = 3
            · subst h3
              obtain rfl : v = .string key := by simpa [wCells1, wKey] using hv.symm
              rw [hW6, World.cell?_setCell_same' _ _ _ (by rw [set_get (a := ⟨w3.heap.size + 1 + 1 + 1, 2, none⟩) (p := ⟨G, 3, none⟩) hGne g3]; rfl)]
            · have hv' : (wCells1 x)[i]? = some v := by
                rcases i with _ | _ | _ | _ | _ | _ | i
                all_goals first | exact hv | exact absurd rfl h3
              rw [hW6, World.cell?_setCell_other _ _ _ _ (by intro e; cases e; exact h3 rfl)]
              exact set_get (a := ⟨w3.heap.size + 1 + 1 + 1, 2, none⟩) (p := ⟨G, i, none⟩) hGne (hGc i v hv')
          have hblk6 : G < W6.heap.size := lt_of_cell (hG6 0 _ rfl)
          clear hW6 hfar hG5 hcur hGc g3 gf c80 c81 c82 f82 c70 c71 c72 hco htk
          have hg6 : Good W6 := (hg.ext hy3).ext hx36
          have hl6 := hl3.ext hx36
          have hEn6 : EntsAt W6 (some ⟨w3.heap.size, 0, none⟩) [⟨x.r, x.t⟩] := by
            refine .inr ⟨_, 0, rfl, lt_blk hE6, fun k hk => ?_⟩
            have : k = 0 := by simpa using hk
            subst this
            exact ⟨cell_blk hE6 rfl, cell_blk hE6 rfl⟩
          have hWn6 : WrsAt W6 (some ⟨w3.heap.size + 1, 0, none⟩) [x] := by
            refine .inr ⟨_, 0, rfl, lt_blk hWr6, fun k hk => ?_⟩
            have : k = 0 := by simpa using hk
            subst this
            exact ⟨cell_blk hWr6 rfl, cell_blk hWr6 rfl, cell_blk hWr6 rfl, cell_blk hWr6 rfl, cell_blk hWr6 rfl, cell_blk hWr6 rfl⟩
          have hKn6 : WrsAt W6 (some ⟨G, 0, none⟩) [wKey x key] := by
            refine .inr ⟨_, 0, rfl, hblk6, fun k hk => ?_⟩
            have : k = 0 := by simpa using hk
            subst this
            exact ⟨hG6 0 _ rfl, hG6 1 _ rfl, hG6 2 _ rfl, hG6 3 _ rfl, hG6 4 _ rfl, hG6 5 _ rfl⟩
          have hgb3 : g.b < w3.heap.size := (hl3.at_ g (by simp)).lt (.inl rfl)
          have hacc := Accept_lgs hl6 (i := 0) (g := g) rfl hg6 [] [⟨x.r, x.t⟩] [x] none (some ⟨w3.heap.size, 0, none⟩) (some ⟨w3.heap.size + 1, 0, none⟩) 0 1 1 (by simp) (by simp) (by simp) (by simp) (by simp) (.inl rfl) hEn6 hWn6 (fit1 hf)
          rw [show ([] : List Ent).length = 0 from rfl, show [(⟨x.r, x.t⟩ : Ent)].length = 1 from rfl, show [x].length = 1 from rfl] at hacc
          refine hacc.mono ?_
          rintro e w7 ⟨_, hok7⟩
          obtain ⟨rfl, hc7, g7, hb7, hL7, hl7⟩ := hok7 _ _ (by rw [hgL]; exact two_1 HR.out)
          change Lgs w7 w2.heap.size [g7] at hl7
          have hc7' : Chg (fun k => k = g.b) W6 w7 := hc7.mono fun k _ hk => hgo k hk
          have hg7 : Good w7 := Lg.Chg_good hc7 hg6 (hl6.ge g (by simp)) (by have := hy2.size; omega)
          have hx27 : Ext w2 w7 := Chg.ext (hx3.trans hx36) hc7' (fun i hi => by rw [hi, ← hgB]; exact Nat.le_refl _)
          have hf7 : ∀ b o, W6.heap[b]? = some o → w3.heap.size ≤ b → w7.heap[b]? = some o := fun b o hb hle => by
            rw [hc7'.block _ (lt_blk hb) (by omega)]; exact hb
          have hB77 := hf7 _ _ hB76 (by omega)
          have hB87 := hf7 _ _ hB86 (by omega)
          have hWr7 := hf7 _ _ hWr6 (by omega)
          have hE7 := hf7 _ _ hE6 (by omega)
          have hG37 : w3.heap.size ≤ G := by have := hx34.size; omega
          have hG7 : ∀ (i : Nat) (v : Value), (wCells1 (wKey x key))[i]? = some v → w7.cell? ⟨G, i, none⟩ = some v := fun i v hv => hc7'.get (p := ⟨G, i, none⟩) (by show ¬ G = g.b; omega) (hG6 i v hv)
          have c80 : w7.cell? ⟨w3.heap.size + 1 + 1 + 1, 0, none⟩ = some (.slice none 0 0) := cell_blk hB87 rfl
          have c81 : w7.cell? ⟨w3.heap.size + 1 + 1 + 1, 1, none⟩ = some (.slice (some ⟨w3.heap.size, 0, none⟩) 1 1) := cell_blk hB87 rfl
          have c82 : w7.cell? ⟨w3.heap.size + 1 + 1 + 1, 2, none⟩ = some (.slice (some ⟨G, 0, none⟩) 1 cap) := cell_blk hB87 rfl
          have hEn7 : EntsAt w7 (some ⟨w3.heap.size, 0, none⟩) [⟨x.r, x.t⟩] := by
            refine .inr ⟨_, 0, rfl, lt_blk hE7, fun k hk => ?_⟩
            have : k = 0 := by simpa using hk
            subst this
            exact ⟨cell_blk hE7 rfl, cell_blk hE7 rfl⟩
          have hKn7 : WrsAt w7 (some ⟨G, 0, none⟩) [wKey x key] := by
            refine .inr ⟨_, 0, rfl, lt_of_cell (hG7 0 _ rfl), fun k hk => ?_⟩
            have : k = 0 := by simpa using hk
            subst this
            exact ⟨hG7 0 _ rfl, hG7 1 _ rfl, hG7 2 _ rfl, hG7 3 _ rfl, hG7 4 _ rfl, hG7 5 _ rfl⟩
          have hacc8 := Accept_lgs hl7 (i := 0) (g := g7) rfl hg7 [] [⟨x.r, x.t⟩] [wKey x key] none (some ⟨w3.heap.size, 0, none⟩) (some ⟨G, 0, none⟩) 0 1 cap (by simp) (by simp) (by simp) (by simp) (by simp) (.inl rfl) hEn7 hKn7 (fit1 ⟨by show key.size < _; omega, hf.2.1, hf.2.2.1, hf.2.2.2⟩)
          rw [show ([] : List Ent).length = 0 from rfl, show [(⟨x.r, x.t⟩ : Ent)].length = 1 from rfl, show [wKey x key].length = 1 from rfl, hb7] at hacc8
          clear hacc hEn6 hWn6 hKn6 hG6 hE6 hWr6 hB76 hB86 hE hWr hB7 hB8 hEn hWn hcl hok7
          go_wp2_with fail
          refine hacc8.mono ?_
          rintro e w8 ⟨hbad, _⟩
          obtain ⟨_, hx8, v8, rfl, hv8⟩ := hbad _ (by rw [hL7]; exact two_2 HR.out hks40 HK.out)
          obtain ⟨t8, u8, rfl⟩ := hv8.iface (by simp)
          have c72 : w8.cell? ⟨w3.heap.size + 1 + 1, 2, none⟩ = some (.slice (some ⟨w3.heap.size + 1, 0, none⟩) 1 1) := hx8.get (cell_blk hB77 rfl)
          have hg8 := hg7.ext hx8
          have hl8 := hl7.ext hx8
          have hx28 : Ext w2 w8 := hx27.trans hx8
          have hWr8 := (hx8.block _ (lt_blk hWr7)).trans hWr7
          have hWn8 : WrsAt w8 (some ⟨w3.heap.size + 1, 0, none⟩) [x] := by
            refine .inr ⟨_, 0, rfl, lt_blk hWr8, fun k hk => ?_⟩
            have : k = 0 := by simpa using hk
            subst this
            exact ⟨cell_blk hWr8 rfl, cell_blk hWr8 rfl, cell_blk hWr8 rfl, cell_blk hWr8 rfl, cell_blk hWr8 rfl, cell_blk hWr8 rfl⟩
          clear hacc8 hbad c80 c81 c82 hf7 hG7 hEn7 hKn7 hB77 hB87 hWr7 hE7 hWr8
          go_wp2_with fail
          (try clear hacc); (try clear hG37); (try clear hGne); (try clear hGne7); (try clear hcap1); (try clear hcap2); (try clear hcs); (try clear hgG); (try clear hcn); (try clear hGlt); (try clear hgb3); (try clear hc7); (try clear hc7'); (try clear hg7); (try clear hx27); (try clear hx36); (try clear hx35); (try clear hl7); (try clear hl6); (try clear hg6); (try clear hl3); (try clear hx3); (try clear hblk6); (try clear hx5); (try clear hx34); (try clear hW4); (try clear d0); (try clear d1); (try clear d0'); (try clear d1'); (try clear d2'); (try clear d3'); (try clear d4'); (try clear d5'); (try clear b0); (try clear b1); (try clear b2); (try clear b3); (try clear b4); (try clear b5); (try clear hwb); (try clear hx13); (try clear hx2); (try clear hx1); (try clear hy1); (try clear hx0); (try clear hy3); (try clear hk40); (try clear hkb); (try clear hks); (try clear hf); (try clear hgL); (try clear hgo); (try clear HK); (try clear HR); (try clear hks40); (try clear hgb)
          refine wp_region_held_drew (S := fun w' => w'.cell? ⟨w3.heap.size + 1 + 1, 2, none⟩ = some (.slice (some ⟨w3.heap.size + 1, 0, none⟩) 1 1)) (by kernel_rfl) c72 (fun hS => ?_)
          refine wpAnyH_take (i := 0) (oi := ⟨_, _, _, _, _, _⟩) (v := ?_) rfl (by kernel_rfl) (by kernel_rfl) (by kernel_rfl) (fun _ _ _ h => h) (Or.inl ⟨by rfl, ?_⟩) (by assumption) ?_
          rotate_left
          · intro w hSw
            (try dsimp only at hSw)
            first | (go_simp; done) | (go_simp; with_reducible rfl)
          simp only [Act.put, List.setIfInBounds_toArray, List.set_cons_zero, List.set_cons_succ]
          refine wpAnyH_take (i := 1) (oi := ⟨_, _, _, _, _, _⟩) (v := ?_) rfl (by kernel_rfl) (by kernel_rfl) (by kernel_rfl) (fun _ _ _ h => h) (Or.inl ⟨by rfl, ?_⟩) (by assumption) ?_
          rotate_left
          · intro w hSw
            (try dsimp only at hSw)
            first | (go_simp; done) | (go_simp; with_reducible rfl)
          simp only [Act.put, List.setIfInBounds_toArray, List.set_cons_zero, List.set_cons_succ]
          refine wpAnyH_take (i := 2) (oi := ⟨_, _, _, _, _, _⟩) (v := ?_) rfl (by kernel_rfl) (by kernel_rfl) (by kernel_rfl) (fun _ _ _ h => h) (Or.inl ⟨by rfl, ?_⟩) (by assumption) ?_
          rotate_left
          · intro w hSw
            (try dsimp only at hSw)
            first | (go_simp; done) | (go_simp; with_reducible rfl)
          simp only [Act.put, List.setIfInBounds_toArray, List.set_cons_zero, List.set_cons_succ]
          refine wpAnyH_take (i := 3) (oi := ⟨_, _, _, _, _, _⟩) (v := ?_) rfl (by kernel_rfl) (by kernel_rfl) (by kernel_rfl) (fun _ _ _ h => h) (Or.inl ⟨by rfl, ?_⟩) (by assumption) ?_
          rotate_left
          · intro w hSw
            (try dsimp only at hSw)
            first | (go_simp; done) | (go_simp; with_reducible rfl)
          simp only [Act.put, List.setIfInBounds_toArray, List.set_cons_zero, List.set_cons_succ]
          refine wpAnyH_take (i := 4) (oi := ⟨_, _, _, _, _, _⟩) (v := ?_) rfl (by kernel_rfl) (by kernel_rfl) (by kernel_rfl) (fun _ _ _ h => h) (Or.inl ⟨by rfl, ?_⟩) (by assumption) ?_
          rotate_left
          · intro w hSw
            (try dsimp only at hSw)
            first | (go_simp; done) | (go_simp; with_reducible rfl)
          simp only [Act.put, List.setIfInBounds_toArray, List.set_cons_zero, List.set_cons_succ]
          refine wpAnyH_take (i := 5) (oi := ⟨_, _, _, _, _, _⟩) (v := ?_) rfl (by kernel_rfl) (by kernel_rfl) (by kernel_rfl) (fun _ _ _ h => h) (Or.inl ⟨by rfl, ?_⟩) (by assumption) ?_
          rotate_left
          · intro w hSw
            (try dsimp only at hSw)
            first | (go_simp; done) | (go_simp; with_reducible rfl)
          simp only [Act.put, List.setIfInBounds_toArray, List.set_cons_zero, List.set_cons_succ]
          refine wpAnyH_take (i := 6) (oi := ⟨_, _, _, _, _, _⟩) (v := ?_) rfl (by kernel_rfl) (by kernel_rfl) (by kernel_rfl) (fun _ _ _ h => h) (Or.inl ⟨by rfl, ?_⟩) (by assumption) ?_
          rotate_left
          · intro w hSw
            (try dsimp only at hSw)
            first | (go_simp; done) | (go_simp; with_reducible rfl)
          simp only [Act.put, List.setIfInBounds_toArray, List.set_cons_zero, List.set_cons_succ]
          refine wpAnyH_take (i := 7) (oi := ⟨_, _, _, _, _, _⟩) (v := ?_) rfl (by kernel_rfl) (by kernel_rfl) (by kernel_rfl) (fun _ _ _ h => h) (Or.inl ⟨by rfl, ?_⟩) (by assumption) ?_
          rotate_left
          · intro w hSw
            (try dsimp only at hSw)
            first | (go_simp; done) | (go_simp; with_reducible rfl)
          simp only [Act.put, List.setIfInBounds_toArray, List.set_cons_zero, List.set_cons_succ]
          refine wpAnyH_ready (rs := [8]) (by kernel_rfl) (by simp) ?_
          refine AllReadyH.cons (o := ⟨_, _, _, _, _, _⟩) rfl (fun K hK => ?_) AllReadyH.nil
          go_simp
          refine (Tell_any _ (.plc 9 0) _ (hv8.ext (Ext.refl w8).drew) (hg8.ext (Ext.refl w8).drew)).mono ?_
          rintro e w9 ⟨rfl, hx9⟩
          simp only [Er.tell]
          have hx9 : Ext w8.drew w9 := hx9
          refine hK.out _ _ ?_ (fun hS2 => ?_)
          · exact hx9.get hS
          clear hK K
          (try simp only [Act.put, List.setIfInBounds_toArray, List.set_cons_zero, List.set_cons_succ])
          refine wpAnyH_take (i := 9) (oi := ⟨_, _, _, _, _, _⟩) (v := ?_) rfl (by kernel_rfl) (by kernel_rfl) (by kernel_rfl) (fun _ _ _ h => h) (Or.inl ⟨by rfl, ?_⟩) (by assumption) ?_
          rotate_left
          · intro w hSw
            (try dsimp only at hSw)
            first | (go_simp; done) | (go_simp; with_reducible rfl)
          simp only [Act.put, List.setIfInBounds_toArray, List.set_cons_zero, List.set_cons_succ]
          refine wpAnyH_take (i := 10) (oi := ⟨_, _, _, _, _, _⟩) (v := ?_) rfl (by kernel_rfl) (by kernel_rfl) (by kernel_rfl) (fun _ _ _ h => h) (Or.inl ⟨by rfl, ?_⟩) (by assumption) ?_
          rotate_left
          · intro w hSw
            (try dsimp only at hSw)
            first | (go_simp; done) | (go_simp; with_reducible rfl)
          simp only [Act.put, List.setIfInBounds_toArray, List.set_cons_zero, List.set_cons_succ]
          refine wpAnyH_take (i := 11) (oi := ⟨_, _, _, _, _, _⟩) (v := ?_) rfl (by kernel_rfl) (by kernel_rfl) (by kernel_rfl) (fun _ _ _ h => h) (Or.inl ⟨by rfl, ?_⟩) (by assumption) ?_
          rotate_left
          · intro w hSw
            (try dsimp only at hSw)
            first | (go_simp; done) | (go_simp; with_reducible rfl)
          simp only [Act.put, List.setIfInBounds_toArray, List.set_cons_zero, List.set_cons_succ]
          refine wpAnyH_take (i := 12) (oi := ⟨_, _, _, _, _, _⟩) (v := ?_) rfl (by kernel_rfl) (by kernel_rfl) (by kernel_rfl) (fun _ _ _ h => h) (Or.inl ⟨by rfl, ?_⟩) (by assumption) ?_
          rotate_left
          · intro w hSw
            (try dsimp only at hSw)
            first | (go_simp; done) | (go_simp; with_reducible rfl)
          simp only [Act.put, List.setIfInBounds_toArray, List.set_cons_zero, List.set_cons_succ]
          refine wpAnyH_take (i := 13) (oi := ⟨_, _, _, _, _, _⟩) (v := ?_) rfl (by kernel_rfl) (by kernel_rfl) (by kernel_rfl) (fun _ _ _ h => h) (Or.inl ⟨by rfl, ?_⟩) (by assumption) ?_
          rotate_left
          · intro w hSw
            (try dsimp only at hSw)
            first | (go_simp; done) | (go_simp; with_reducible rfl)
          simp only [Act.put, List.setIfInBounds_toArray, List.set_cons_zero, List.set_cons_succ]
          refine wpAnyH_take (i := 14) (oi := ⟨_, _, _, _, _, _⟩) (v := ?_) rfl (by kernel_rfl) (by kernel_rfl) (by kernel_rfl) (fun _ _ _ h => h) (Or.inl ⟨by rfl, ?_⟩) (by assumption) ?_
          rotate_left
          · intro w hSw
            (try dsimp only at hSw)
            first | (go_simp; done) | (go_simp; with_reducible rfl)
          simp only [Act.put, List.setIfInBounds_toArray, List.set_cons_zero, List.set_cons_succ]
          refine wpAnyH_take (i := 15) (oi := ⟨_, _, _, _, _, _⟩) (v := ?_) rfl (by kernel_rfl) (by kernel_rfl) (by kernel_rfl) (fun _ _ _ h => h) (Or.inl ⟨by rfl, ?_⟩) (by assumption) ?_
          rotate_left
          · intro w hSw
            (try dsimp only at hSw)
            first | (go_simp; done) | (go_simp; with_reducible rfl)
          simp only [Act.put, List.setIfInBounds_toArray, List.set_cons_zero, List.set_cons_succ]
          refine wpAnyH_take (i := 16) (oi := ⟨_, _, _, _, _, _⟩) (v := ?_) rfl (by kernel_rfl) (by kernel_rfl) (by kernel_rfl) (fun _ _ _ h => h) (Or.inl ⟨by rfl, ?_⟩) (by assumption) ?_
          rotate_left
          · intro w hSw
            (try dsimp only at hSw)
            first | (go_simp; done) | (go_simp; with_reducible rfl)
          simp only [Act.put, List.setIfInBounds_toArray, List.set_cons_zero, List.set_cons_succ]
          refine wpAnyH_take (i := 18) (oi := ⟨_, _, _, _, _, _⟩) (v := ?_) rfl (by kernel_rfl) (by kernel_rfl) (by kernel_rfl) (fun _ _ _ h => h) (Or.inl ⟨by rfl, ?_⟩) (by assumption) ?_
          rotate_left
          · intro w hSw
            (try dsimp only at hSw)
            first | (go_simp; done) | (go_simp; with_reducible rfl)
          simp only [Act.put, List.setIfInBounds_toArray, List.set_cons_zero, List.set_cons_succ]
          refine wpAnyH_take (i := 19) (oi := ⟨_, _, _, _, _, _⟩) (v := ?_) rfl (by kernel_rfl) (by kernel_rfl) (by kernel_rfl) (fun _ _ _ h => h) (Or.inl ⟨by rfl, ?_⟩) (by assumption) ?_
          rotate_left
          · intro w hSw
            (try dsimp only at hSw)
            first | (go_simp; done) | (go_simp; with_reducible rfl)
          simp only [Act.put, List.setIfInBounds_toArray, List.set_cons_zero, List.set_cons_succ]
          refine wpAnyH_ready (rs := [17]) (by kernel_rfl) (by simp) ?_
          refine AllReadyH.cons (o := ⟨_, _, _, _, _, _⟩) rfl (fun K hK => ?_) AllReadyH.nil
          go_simp
          have hwr := Writes_any g7.b g7.hv g7.wv g7.L w9 ((hl8.ext ((Ext.refl w8).drew.trans hx9)).at_ g7 (by simp)) (by rw [hL7]; simp)
          rw [hb7] at hwr
          refine hwr.mono ?_
          rintro e w10 ⟨v10, rfl, ho10, hx10⟩
          have ho10' : w10.ownsRow w9.heap.size 34 6 v10 1 (wCells [x]) := by rw [hL7] at ho10; exact ho10
          obtain ⟨a10, cc10, rfl, -, hr10, -, -⟩ := own_row ho10'
          have HR10 := Lib.hid hr10
          have HX10 := Lib.hid hx10
          clear ho10 ho10' hwr hr10
          refine hK.out _ _ ?_ (fun hS2 => ?_)
          · exact hx10.get hS2
          clear hK K
          (try simp only [Act.put, List.setIfInBounds_toArray, List.set_cons_zero, List.set_cons_succ])
          clear hx10 hS
          refine wpAnyH_ready (rs := [20]) (by kernel_rfl) (by simp) ?_
          refine AllReadyH.cons (o := ⟨_, _, _, _, _, _⟩) rfl (fun K hK => ?_) AllReadyH.nil
          go_simp
          refine (EqW_any [x] [x] a10 (some ⟨w3.heap.size + 1, 0, none⟩) cc10 1 w10 (by simp) HR10.out.wrs (hWn8.ext (((Ext.refl w8).drew.trans hx9).trans HX10.out))).mono ?_
          rintro e w11 ⟨rfl, hx11⟩
          rw [decide_eq_true (rfl : [x] = [x])]
          refine hK.out _ _ ?_ (fun hS2 => ?_)
          · exact hx11.get hS2
          clear hK K
          (try simp only [Act.put, List.setIfInBounds_toArray, List.set_cons_zero, List.set_cons_succ])
          refine wpAnyH_take (i := 21) (oi := ⟨_, _, _, _, _, _⟩) (v := ?_) rfl (by kernel_rfl) (by kernel_rfl) (by kernel_rfl) (fun _ _ _ h => h) (Or.inl ⟨by rfl, ?_⟩) (by assumption) ?_
          rotate_left
          · intro w hSw
            (try dsimp only at hSw)
            first | (go_simp; done) | (go_simp; with_reducible rfl)
          simp only [Act.put, List.setIfInBounds_toArray, List.set_cons_zero, List.set_cons_succ]
          refine wpAnyH_take (i := 22) (oi := ⟨_, _, _, _, _, _⟩) (v := ?_) rfl (by kernel_rfl) (by kernel_rfl) (by kernel_rfl) (fun _ _ _ h => h) (Or.inl ⟨by rfl, ?_⟩) (by assumption) ?_
          rotate_left
          · intro w hSw
            (try dsimp only at hSw)
            first | (go_simp; done) | (go_simp; with_reducible rfl)
          simp only [Act.put, List.setIfInBounds_toArray, List.set_cons_zero, List.set_cons_succ]
          refine wpAnyH_done (by kernel_rfl) ?_ _
          go_wp2_with fail
          go_ret
          exact ⟨rfl, hy2.trans (hx28.trans (((Ext.refl w8).drew.trans hx9).trans (HX10.out.trans hx11)))⟩
  · obtain ⟨t2, u2, rfl⟩ := hv2.iface hr
    go_wp2_with fail
    go_ret
    exact ⟨rfl, hy2⟩

end Go.Proofs.YtpohhfkgoijpaaaDoor
