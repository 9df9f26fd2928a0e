/-
  The fact 'logged': two logs; it is true.
-/
import Derived.Test.YtbahalckcenfmaaGreatDoorLgs
import Derived.Test.YtbahalckcenfmaaGreatDoorEqW
namespace Go.Proofs.YtbahalckcenfmaaGreatDoor
open Go.RowKit
set_option linter.unusedSimpArgs false
set_option linter.unusedVariables false

def kk : ByteArray := ⟨#[107]⟩
def vv : ByteArray := ⟨#[118]⟩
def wp1 : Wr := ⟨1, 1, 1, kk, vv, 0⟩
def wd2 : Wr := ⟨2, 2, 2, kk, ⟨#[]⟩, 0⟩
theorem mg1 (r t : Int) : vMerge [] [⟨r, t⟩] = [⟨r, t⟩] := vMerge_nil_left _
theorem wR1 : wRight wp1 = .nil := by decide +kernel
theorem wR2 : wRight wd2 = .nil := by decide +kernel
theorem vr1 (r t : Int) (h0 : 0 ≤ r) (h1 : r ≤ 200) (h2 : 1 ≤ t) (h3 : t ≤ 1099511627776) : vRight [⟨r, t⟩] = .nil :=
  (vRight_iff _).2 ⟨by simp, fun e he => by obtain rfl : e = ⟨r, t⟩ := by simpa using he
                                            exact ⟨h0, h1, h2, h3⟩, by simp⟩
theorem lg_a : logLocal ⟨1, [], []⟩ ⟨0, 0, 1, kk, vv, 0⟩ = .inr ⟨1, [⟨1, 1⟩], [wp1]⟩ := by
  have h1 : withId ⟨0, 0, 1, kk, vv, 0⟩ (lMax [] + 1) 1 = wp1 := by decide +kernel
  have h2 : lMax [] = 0 := rfl
  unfold logLocal
  simp only [h1, wR1]
  rw [if_neg (by rw [h2]; omega), if_neg (by simp), if_neg (by simp), h2, vJoin_ok rfl (vr1 1 (0 + 1) (by omega) (by omega) (by omega) (by omega)) (by rw [mg1]; simp), mg1]
  rfl
theorem lg_s : logSince ⟨1, [⟨1, 1⟩], [wp1]⟩ [] = .inr ([⟨1, 1⟩], [wp1]) := by decide +kernel
theorem lg_b : logAccept ⟨2, [], []⟩ [] [⟨1, 1⟩] [wp1] = .inr (1, ⟨2, [⟨1, 1⟩], [wp1]⟩) := by
  have h1 : bRight [] [⟨1, 1⟩] [wp1] = .nil := by decide +kernel
  have h2 : accGo 0 [wp1] [] 0 = .inr ([wp1], 1) := by decide +kernel
  unfold logAccept
  rw [if_neg (by rw [h1]; simp), if_neg (by decide +kernel), vJoin_ok rfl (vr1 1 1 (by omega) (by omega) (by omega) (by omega)) (by rw [mg1]; simp), mg1]
  simp only [accJoin, h2, accFin]
  rfl
theorem lg_b2 : logLocal ⟨2, [⟨1, 1⟩], [wp1]⟩ ⟨0, 0, 2, kk, ⟨#[]⟩, 0⟩ = .inr ⟨2, [⟨1, 1⟩, ⟨2, 2⟩], [wp1, wd2]⟩ := by
  have h1 : withId ⟨0, 0, 2, kk, ⟨#[]⟩, 0⟩ (lMax [⟨1, 1⟩] + 1) 2 = wd2 := by decide +kernel
  have h2 : lMax [⟨1, 1⟩] = 1 := rfl
  have h3 : vMerge [⟨1, 1⟩] [⟨2, 1 + 1⟩] = [⟨1, 1⟩, ⟨2, 2⟩] := by rw [vMerge_lt _ _ _ _ (by decide), vMerge_nil_left]; rfl
  unfold logLocal
  simp only [h1, wR2]
  rw [if_neg (by rw [h2]; omega), if_neg (by simp), if_neg (by simp), h2, vJoin_ok (vr1 1 1 (by omega) (by omega) (by omega) (by omega)) (vr1 2 (1 + 1) (by omega) (by omega) (by omega) (by omega)) (by rw [h3]; simp), h3]
  rfl
theorem cels_b {l : List Cel} (h : CelsOf (stAll [wp1, wd2]) l) : l = [] := by
  have hs : stAll [wp1, wd2] = fun _ => none := by
    funext k
    show stDo (stDo (fun _ => none) wp1) wd2 k = none
    have : (2 : Int) = 2 := rfl
    unfold stDo
    rw [if_pos (show wd2.kind = 2 from rfl), if_neg (show ¬ wp1.kind = 2 by decide +kernel)]
    by_cases hk : k = wd2.key
    · subst hk; rw [St.set_same]
    · rw [St.set_other _ _ hk, St.set_other _ _ (show ¬ k = wp1.key from hk)]
  cases l with
  | nil => rfl
  | cons c l =>
    have := ((h.mem c).1 (by simp)).1
    rw [hs] at this; cases this
theorem cels_a {l : List Cel} (h : CelsOf (stAll [wp1]) l) : l = [⟨kk, true, vv, 0, []⟩] := by
  refine h.unique ⟨fun c => ?_, by simp [KSorted]⟩
  have hs : stAll [wp1] = St.set (fun _ => none) kk (some ⟨kk, true, vv, 0, []⟩) := by
    show stDo (fun _ => none) wp1 = _
    unfold stDo
    rw [if_neg (show ¬ wp1.kind = 2 by decide +kernel)]
    rfl
  rw [hs]
  constructor
  · intro hc
    obtain rfl : c = _ := by simpa using hc
    exact ⟨by rw [St.set_same], rfl⟩
  · rintro ⟨h1, h2⟩
    by_cases hk : c.key = kk
    · rw [hk, St.set_same] at h1; cases h1; simp
    · rw [St.set_other _ _ hk] at h1; cases h1
theorem cov_ab : vCovers [⟨1, 1⟩, ⟨2, 2⟩] [⟨1, 1⟩] = true := by decide +kernel

set_option maxRecDepth 100000 in
set_option maxHeartbeats 4000000 in
theorem logged_any (w : World) (hg : Good w) : Calls Tryz.prog 5 #[] w fun e w' => e = .returned (.bool true) ∧ Ext w w' := by
  have hgb : 0 < w.heap.size := lt_of_cell hg
  go_enter Tryz.func5, Tryz.ntmps5
  go_wp2_with fail
  refine (New_lgs 1 w (by omega) (by omega) (Lgs.nil w w.heap.size) (Nat.le_refl _)).mono ?_
  rintro e w1 ⟨rfl, hx1, hl1⟩
  have HX1 := Lib.hid hx1.size
  go_wp2_with fail
  refine (New_lgs 2 w1 (by omega) (by omega) hl1 HX1.out).mono ?_
  rintro e w2 ⟨rfl, hx2, hl2⟩
  have hy2 : Ext w w2 := hx1.trans hx2
  have hg2 := hg.ext hy2
  obtain ⟨ga, hga⟩ : ∃ ga : Lg, ga = ⟨w.heap.size, .slice none 0 0, .slice none 0 0, ⟨1, [], []⟩⟩ := ⟨_, rfl⟩
  obtain ⟨gb, hgb'⟩ : ∃ gb : Lg, gb = ⟨w1.heap.size, .slice none 0 0, .slice none 0 0, ⟨2, [], []⟩⟩ := ⟨_, rfl⟩
  rw [List.nil_append, ← hga, ← hgb', List.singleton_append] at hl2
  have hab : w.heap.size = ga.b := by rw [hga]
  have hbb : w1.heap.size = gb.b := by rw [hgb']
  have hLa : ga.L = ⟨1, [], []⟩ := by rw [hga]
  have hLb : gb.L = ⟨2, [], []⟩ := by rw [hgb']
  clear hga hgb'
  rw [hab, hbb]
  go_wp2_with fail
  refine (Local_lgs hl2 (i := 0) (g := ga) rfl hg2 ⟨0, 0, 1, kk, vv, 0⟩ (by unfold wFits; decide +kernel)).mono ?_
  rintro e w3 ⟨_, hok⟩
  obtain ⟨he, hc3, ga3, hb3, hL3, hl3⟩ := hok _ (by rw [hLa]; exact lg_a)
  have he' : e = .returned (.tuple #[.agg #[.int .i64 1, .int .i64 1], .nilIface]) := by rw [he, hLa]; rfl
  clear he
  subst he'
  have hlt_a : ga.b < w2.heap.size := (hl2.at_ ga (by simp)).lt (.inl rfl)
  have hge_a : ∀ k, ga.own k → w.heap.size ≤ k := hl2.ge ga (by simp)
  have hg3 : Good w3 := Lg.Chg_good hc3 hg2 hge_a hgb
  have hz3 : w.heap.size ≤ w3.heap.size := Nat.le_trans hy2.size hc3.size
  have hw3 : Ext w w3 := Chg.ext hy2 hc3 (fun i hi => hge_a i hi)
  change Lgs w3 w.heap.size [ga3, gb] at hl3
  go_wp2_with fail
  have hx3i : Ext w3 (w3.alloc (.cells #[.int .i64 1, .int .i64 1] 31)) := (Ext.refl _).alloc _
  have hsin := Since_any ga3.b ga3.hv ga3.wv ga3.L [] none 0 (w3.alloc (.cells #[.int .i64 1, .int .i64 1] 31)) (hg3.ext hx3i) ((hl3.at_ ga3 (by simp)).ext hx3i) (by have := (hl3.ok ga3 (by simp)).hlen; omega) (by have := (hl3.ok ga3 (by simp)).len; omega) (by simp) (by simp) (fun _ => rfl) (.inl rfl)
  rw [hb3, hL3] at hsin
  refine hsin.mono ?_
  rintro e w4 ⟨hx4, _, hok4⟩
  obtain ⟨vf, vh, vw, rfl, o1, o2, o3⟩ := hok4 _ _ lg_s
  obtain ⟨fa, fc, rfl, hfc, hfr, -, -⟩ := own_row o1
  obtain ⟨ha, hc, rfl, hhc, hhr, -, -⟩ := own_row o2
  obtain ⟨wa, wc, rfl, hwc, hwr, -, -⟩ := own_row o3
  have hx34 : Ext w3 w4 := hx3i.trans hx4
  have hb5 : w4.heap[w3.heap.size]? = some (.cells #[.int .i64 1, .int .i64 1] 31 (0, 0)) := by rw [hx4.block _ (by simp)]; exact heap_alloc_new _ _
  have hl4 := hl3.ext hx34
  have hg4 := hg3.ext hx34
  have hw4 := hw3.trans hx34
  have hz4 : w.heap.size ≤ w4.heap.size := hw4.size
  go_wp2_with fail
  have hx4i : Ext w4 (w4.alloc (.cells #[.slice fa 0 fc, .slice ha 1 hc, .slice wa 1 wc] 25)) := (Ext.refl _).alloc _
  have hacc := Accept_lgs (hl4.ext hx4i) (i := 1) (g := gb) rfl (hg4.ext hx4i) [] [⟨1, 1⟩] [wp1] fa ha wa fc hc wc (by simp) (by simp) (by simp) hfc hhc (hfr.ents.ext hx4i) (hhr.ents.ext hx4i) (hwr.wrs.ext hx4i) (by unfold wFits; decide +kernel)
  rw [show ([] : List Ent).length = 0 from rfl, show [(⟨1, 1⟩ : Ent)].length = 1 from rfl, show [wp1].length = 1 from rfl] at hacc
  refine hacc.mono ?_
  rintro e w5 ⟨_, hok5⟩
  obtain ⟨rfl, hc5, gb5, hb5', hL5, hl5⟩ := hok5 _ _ (by rw [hLb]; exact lg_b)
  change Lgs w5 w.heap.size [ga3, gb5] at hl5
  have hgeb : ∀ k, gb.own k → w.heap.size ≤ k := hl4.ge gb (by simp)
  have hg5 : Good w5 := Lg.Chg_good hc5 (hg4.ext hx4i) hgeb hgb
  have hw5 : Ext w w5 := Chg.ext (hw4.trans hx4i) hc5 (fun i hi => hgeb i hi)
  have hb55 : w5.heap[w3.heap.size]? = some (.cells #[.int .i64 1, .int .i64 1] 31 (0, 0)) := by
    have h1 : (w4.alloc (.cells #[.slice fa 0 fc, .slice ha 1 hc, .slice wa 1 wc] 25)).heap[w3.heap.size]? = some (.cells #[.int .i64 1, .int .i64 1] 31 (0, 0)) := by rw [hx4i.block _ (lt_blk hb5)]; exact hb5
    rw [hc5.block _ (lt_blk h1) (((hl4.ext hx4i).at_ gb (by simp)).far h1 (by decide) (by decide) (by decide))]; exact h1
  go_wp2_with fail
  have hloc := Local_lgs hl5 (i := 1) (g := gb5) rfl hg5 ⟨0, 0, 2, kk, ⟨#[]⟩, 0⟩ (by unfold wFits; decide +kernel)
  rw [hb5'] at hloc
  refine hloc.mono ?_
  rintro e w6 ⟨_, hok6⟩
  obtain ⟨he, hc6, gb6, hb6, hL6, hl6⟩ := hok6 _ (by rw [hL5]; exact lg_b2)
  have he' : e = .returned (.tuple #[.agg #[.int .i64 2, .int .i64 2], .nilIface]) := by rw [he, hL5]; rfl
  clear he
  subst he'
  change Lgs w6 w.heap.size [ga3, gb6] at hl6
  have hgeb5 : ∀ k, gb5.own k → w.heap.size ≤ k := hl5.ge gb5 (by simp)
  have hw6 : Ext w w6 := Chg.ext hw5 hc6 (fun i hi => hgeb5 i hi)
  have hb65 : w6.heap[w3.heap.size]? = some (.cells #[.int .i64 1, .int .i64 1] 31 (0, 0)) := by
    rw [hc6.block _ (lt_blk hb55) ((hl5.at_ gb5 (by simp)).far hb55 (by decide) (by decide) (by decide))]; exact hb55
  have hx6i : Ext w6 (w6.alloc (.cells #[.int .i64 2, .int .i64 2] 31)) := (Ext.refl _).alloc _
  have c50 := hx6i.get (cell_blk (i := 0) hb65 rfl)
  have c51 := hx6i.get (cell_blk (i := 1) hb65 rfl)
  have hbb6 : gb6.b = gb.b := hb6.trans hb5'
  have heq : ∀ (x0 y0 x1 y1 : Int) w, (Op.equalIn 10000 31 (.agg #[.int .i64 x0, .int .i64 x1]) (.agg #[.int .i64 y0, .int .i64 y1])).run Tryz.prog w = .ok ((x0 == y0) && ((x1 == y1) && true)) w := fun x0 y0 x1 y1 w => eq_id 9998 w x0 y0 x1 y1
  have hgd : Tryz.prog.eqGuardType Tryz.prog.depth 31 = false := by kernel_rfl
  clear hacc hloc hsin hx4i hx3i hok4 hok5 hok6 hok
  go_wp2_with fail
  have hl7 := hl6.ext hx6i
  have hcb := LCells_any gb6.b gb6.hv gb6.wv gb6.L _ (hl7.at_ gb6 (by simp)) (by have := (hl7.ok gb6 (by simp)).len; omega) (hl7.ok gb6 (by simp)).rgt
  rw [hbb6] at hcb
  refine hcb.mono ?_
  rintro e w8 ⟨v8, ps8, rfl, hcs8, hof8, hx8⟩
  rw [hL6] at hof8
  have hp8 : ps8 = [] := by simpa using cels_b hof8
  subst hp8
  obtain ⟨a8, c8, rfl, -, -, -, -⟩ := own_row hcs8.own
  go_wp2_with fail
  have hl8 := hl7.ext hx8
  have hca := LCells_any ga3.b ga3.hv ga3.wv ga3.L _ (hl8.at_ ga3 (by simp)) (by have := (hl8.ok ga3 (by simp)).len; omega) (hl8.ok ga3 (by simp)).rgt
  rw [hb3] at hca
  refine hca.mono ?_
  rintro e w9 ⟨v9, ps9, rfl, hcs9, hof9, hx9⟩
  rw [hL3] at hof9
  have hp9 : ps9.length = 1 := by have := congrArg List.length (cels_a hof9); simpa using this
  obtain ⟨a9, c9, rfl, -, -, -, -⟩ := own_row hcs9.own
  rw [hp9]
  go_wp2_with fail
  have hl9 := hl8.ext hx9
  have hhb := Have_any gb6.b gb6.hv gb6.wv gb6.L _ (hl9.at_ gb6 (by simp)) (by have := (hl9.ok gb6 (by simp)).hlen; omega)
  rw [hbb6] at hhb
  refine hhb.mono ?_
  rintro e w10 ⟨v10, rfl, ho10, hx10⟩
  rw [hL6] at ho10
  obtain ⟨a10, c10, rfl, hc10, hr10, -, -⟩ := own_row ho10
  go_wp2_with fail
  have hl10 := hl9.ext hx10
  have hha := Have_any ga3.b ga3.hv ga3.wv ga3.L _ (hl10.at_ ga3 (by simp)) (by have := (hl10.ok ga3 (by simp)).hlen; omega)
  rw [hb3] at hha
  refine hha.mono ?_
  rintro e w11 ⟨v11, rfl, ho11, hx11⟩
  rw [hL3] at ho11
  obtain ⟨a11, c11, rfl, hc11, hr11, -, -⟩ := own_row ho11
  go_wp2_with fail
  refine (Covers_any [⟨1, 1⟩, ⟨2, 2⟩] [⟨1, 1⟩] a10 a11 c10 c11 w11 (by simp) (by simp) (hr10.ents.ext hx11) hr11.ents).mono ?_
  rintro e w12 ⟨rfl, hx12⟩
  rw [cov_ab]
  go_wp2_with fail
  go_ret
  exact ⟨rfl, ((((((hw6.trans hx6i).trans hx8).trans hx9).trans hx10).trans hx11).trans hx12)⟩

end Go.Proofs.YtbahalckcenfmaaGreatDoor
