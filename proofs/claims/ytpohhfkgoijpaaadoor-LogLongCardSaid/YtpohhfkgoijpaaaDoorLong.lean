/-
  The walk of LogLong: it is true.
-/
import Derived.Test.YtpohhfkgoijpaaaDoorLongS
namespace Go.Proofs.YtpohhfkgoijpaaaDoor
open Go.RowKit
set_option linter.unusedSimpArgs false
set_option linter.unusedVariables false

set_option maxRecDepth 100000 in
set_option maxHeartbeats 4000000 in
theorem LogLong_any (n0 a0 : Int) (w : World) (hg : Good w) : Calls Tryd.prog 4 #[.int .i64 n0, .int .i64 a0] w fun e w' => e = .returned (.bool true) ∧ Ext w w' := by
  have hgb : 0 < w.heap.size := lt_of_cell hg
  obtain ⟨N, hN, hN2⟩ : ∃ p : Nat, pickV n0 200 = p ∧ p < 200 := ⟨(pickV n0 200).toNat, by have := pickV_lt n0 (k := 200) (by omega); omega, by have := pickV_lt n0 (k := 200) (by omega); omega⟩
  have hd := pickV_lt a0 (k := 9) (by omega)
  obtain ⟨q, hq⟩ : ∃ q, q = pickV a0 9 := ⟨_, rfl⟩
  rw [← hq] at hd
  obtain ⟨d, hd0⟩ : ∃ d, d = 1 + q := ⟨_, rfl⟩
  have hd1 : 1 ≤ d := by omega
  have hd9 : d ≤ 9 := by omega
  have hw1 : IntKind.i64.wrap (1 + q) = d := by rw [hd0]; exact IntWalk.i64_in _ (by omega)
  have HQ := Lib.hid hq
  have HN := Lib.hid hN
  clear hd hd0 hq hN
  go_enter Tryd.func4, Tryd.ntmps4
  go_wp2_with fail
  refine (logged_any w hg).mono ?_
  rintro e w1 ⟨rfl, hx1⟩
  go_wp2_with fail
  refine (pick_any n0 200 w1 (by omega) (by omega)).mono ?_
  rintro e w2 ⟨rfl, rfl⟩
  rw [HN.out]
  go_wp2_with fail
  refine (pick_any a0 9 w2 (by omega) (by omega)).mono ?_
  rintro e w3 ⟨rfl, rfl⟩
  rw [← HQ.out]
  go_wp2_with fail
  have hzw : w.heap.size ≤ w3.heap.size := hx1.size
  refine (New_lgs 1 w3 (by omega) (by omega) (Lgs.nil w3 w.heap.size) hzw).mono ?_
  rintro e w4 ⟨rfl, hx4, hl4⟩
  have HZ4 := Lib.hid hx4.size
  go_wp2_with fail
  refine (New_lgs 2 w4 (by omega) (by omega) hl4 (Nat.le_trans hzw HZ4.out)).mono ?_
  rintro e w5 ⟨rfl, hx5, hl5⟩
  have hy5 : Ext w w5 := (hx1.trans hx4).trans hx5
  obtain ⟨ga, hga⟩ : ∃ ga : Lg, ga = ⟨w3.heap.size, .slice none 0 0, .slice none 0 0, ⟨1, [], []⟩⟩ := ⟨_, rfl⟩
  obtain ⟨gb, hgb'⟩ : ∃ gb : Lg, gb = ⟨w4.heap.size, .slice none 0 0, .slice none 0 0, ⟨2, [], []⟩⟩ := ⟨_, rfl⟩
  rw [List.nil_append, ← hga, ← hgb', List.singleton_append] at hl5
  obtain ⟨A, hA⟩ : ∃ A, A = w3.heap.size := ⟨_, rfl⟩
  obtain ⟨B, hB⟩ : ∃ B, B = w4.heap.size := ⟨_, rfl⟩
  have hab : ga.b = A := by rw [hga, hA]
  have hbb : gb.b = B := by rw [hgb', hB]
  have hLa : ga.L = lgA d 0 := by rw [hga]; rfl
  have hLb : gb.L = lgB d 0 := by rw [hgb']; rfl
  rw [← hA, ← hB]
  clear hga hgb' hA hB hl4 hx1 hx4 hx5 HZ4 hzw
  go_wp2_with fail
  go_loopw [47, 9, 10] (fun i _ _ wr => ∃ (k : Nat) (ga' : Lg), i = .int .i64 k ∧ k ≤ N ∧ ga'.b = A ∧ ga'.L = lgA d k ∧ Lgs wr w.heap.size [ga', gb] ∧ Ext w wr) (fun i _ _ _ => N - (intOf i).toNat)
  case atStart => exact ⟨0, ga, rfl, by omega, hab, hLa, hl5, hy5⟩
  case round =>
    obtain ⟨k, ga', rfl, hk, hab', hLa', hlr, hxr⟩ := hrel
    have hk1 : IntKind.i64.wrap ((k : Int) + 1) = (k : Int) + 1 := IntWalk.i64_in _ (by omega)
    by_cases hlt : k < N
    · have hlti : (k : Int) < (N : Int) := by omega
      have hloc := Local_lgs hlr (i := 0) (g := ga') rfl (hg.ext hxr) ⟨0, 0, 3, kk, ⟨#[]⟩, d⟩ (by
        refine ⟨?_, ?_, ?_, ?_⟩
        · show kk.size < _; decide +kernel
        · show (⟨#[]⟩ : ByteArray).size < _; decide +kernel
        · simp only; omega
        · simp only; omega)
      rw [hab'] at hloc
      go_wp2_with fail
      refine hloc.mono ?_
      rintro e w6 ⟨_, hok⟩
      obtain ⟨he, hc, ga6, hb6, hL6, hl6⟩ := hok _ (by rw [hLa']; exact long_step (by omega) hd1 hd9)
      have he' : e = .returned (.tuple #[.agg #[.int .i64 ((k : Int) + 1), .int .i64 1], .nilIface]) := by rw [he, hLa']; simp [lgA, lgH_max]
      clear he
      subst he'
      change Lgs w6 w.heap.size [ga6, gb] at hl6
      have hgeo : ∀ j, ga'.own j → w.heap.size ≤ j := hlr.ge ga' (by simp)
      have hx6 : Ext w w6 := Chg.ext hxr hc hgeo
      have HL := Lib.hid hL6
      clear hok hLa' hL6 hloc
      go_wp2_with fail
      have hx6' := (Ext.refl w6).alloc (.cells #[.int .i64 ((k : Int) + 1), .int .i64 1] 30)
      refine ⟨⟨k + 1, ga6, by go_num, by omega, hb6.trans hab', HL.out, hl6.ext hx6', hx6.trans hx6'⟩, by simp [intOf]; omega⟩
    · obtain rfl : k = N := by omega
      have HLa := Lib.hid hLa'
      have HLb := Lib.hid hLb
      clear hLa' hLb hl5 hLa hab
      go_wp2_with fail
      go_loopw [11, 12, 13, 14, 15] (fun t _ _ _ _ wr => ∃ (t' : Nat) (gb' : Lg), t = .int .i64 t' ∧ (t' = 0 ∨ 60 * (t' - 1) < k) ∧ gb'.b = B ∧ gb'.L = lgB d (min (60 * t') k) ∧ Lgs wr w.heap.size [ga', gb'] ∧ Ext w wr) (fun t _ _ _ _ _ => 10 - (intOf t).toNat)
      case atStart => exact ⟨0, gb, rfl, .inl rfl, hbb, by rw [HLb.out]; simp, hlr, hxr⟩
      case round =>
        obtain ⟨t, gb6, rfl, ht, hbb6, hLb6, hlr2, hxr2⟩ := hrel
        have ht4 : t ≤ 4 := by omega
        have htl : (t : Int) < 10 := by omega
        obtain ⟨m, hm⟩ : ∃ m, m = min (60 * t) k := ⟨_, rfl⟩
        rw [← hm] at hLb6
        have hmk : m ≤ k := by omega
        have HM := Lib.hid hm
        clear hm
        have ht1 : IntKind.i64.wrap ((t : Int) + 1) = (t : Int) + 1 := IntWalk.i64_in _ (by omega)
        have hhb := Have_any gb6.b gb6.hv gb6.wv gb6.L wr (hlr2.at_ gb6 (by simp)) (by have := (hlr2.ok gb6 (by simp)).hlen; omega)
        rw [hbb6] at hhb
        go_wp2_with fail
        refine hhb.mono ?_
        rintro e w7 ⟨v7, rfl, ho7, hx7⟩
        have ho7' : w7.ownsRow wr.heap.size 58 2 v7 (lgH m).length (eCells (lgH m)) := by rw [hLb6] at ho7; exact ho7
        obtain ⟨a7, c7, rfl, hc7, hr7, -, -⟩ := own_row ho7'
        have hl7 := hlr2.ext hx7
        have hha := Have_any ga'.b ga'.hv ga'.wv ga'.L w7 (hl7.at_ ga' (by simp)) (by have := (hl7.ok ga' (by simp)).hlen; omega)
        rw [hab'] at hha
        clear hhb ho7
        go_wp2_with fail
        refine hha.mono ?_
        rintro e w8 ⟨v8, rfl, ho8, hx8⟩
        have ho8' : w8.ownsRow w7.heap.size 58 2 v8 (lgH k).length (eCells (lgH k)) := by rw [HLa.out] at ho8; exact ho8
        obtain ⟨a8, c8, rfl, hc8, hr8, -, -⟩ := own_row ho8'
        have hl8 := hl7.ext hx8
        clear hha ho8
        go_wp2_with fail
        refine (Covers_any (lgH m) (lgH k) a7 a8 c7 c8 w8 (by have := lgH_len m; omega) (by have := lgH_len k; omega) (hr7.ents.ext hx8) hr8.ents).mono ?_
        rintro e w9 ⟨rfl, hx9⟩
        rw [lgH_cov (by omega) (by omega)]
        have hl9 := hl8.ext hx9
        have hx29 : Ext wr w9 := (hx7.trans hx8).trans hx9
        have hxw9 : Ext w w9 := hxr2.trans hx29
        clear ho7' ho8' hr7 hr8
        by_cases hkm : k ≤ m
        · have hd : decide (k ≤ m) = true := decide_eq_true hkm
          rw [hd]
          clear hd
          have hT : t = lgT k := by have := HM.out; unfold lgT; omega
          obtain rfl : m = k := by omega
          have HLb6 := Lib.hid hLb6
          have HT := Lib.hid hT
          clear hLb6 hT hmk hkm ht HM
          go_wp2_with fail
          have hlc := LCells_any gb6.b gb6.hv gb6.wv gb6.L w9 (hl9.at_ gb6 (by simp)) (by have := (hl9.ok gb6 (by simp)).len; omega) (hl9.ok gb6 (by simp)).rgt
          rw [hbb6] at hlc
          refine hlc.mono ?_
          rintro e w10 ⟨v10, ps, rfl, hcs, hof, hx10⟩
          rw [HLb6.out] at hof
          have hcel := long_cels hd1 hd9 (by omega) hof
          have hl10 := hl9.ext hx10
          have hxw10 := hxw9.trans hx10
          have hwa := fun W (hW : Lgs W w.heap.size [ga', gb6]) => Writes_any ga'.b ga'.hv ga'.wv ga'.L W (hW.at_ ga' (by simp)) (by have := (hW.ok ga' (by simp)).len; omega)
          have hwb := fun W (hW : Lgs W w.heap.size [ga', gb6]) => Writes_any gb6.b gb6.hv gb6.wv gb6.L W (hW.at_ gb6 (by simp)) (by have := (hW.ok gb6 (by simp)).len; omega)
          rw [hab'] at hwa
          rw [hbb6] at hwb
          have HC := Lib.hid hcel
          have HWA := Lib.hid hwa
          have HWB := Lib.hid hwb
          have hquo : Int.tdiv ((m : Int) + 60 - 1) 60 = (t : Int) := by
            rw [Int.tdiv_eq_ediv_of_nonneg (by omega)]
            have := HT.out
            unfold lgT at this
            omega
          clear hlc hof hcel hwa hwb
          by_cases hz : m = 0
          · subst hz
            have hps : ps = [] := by have := HC.out; rw [if_pos rfl] at this; simpa using this
            subst hps
            obtain ⟨a10, c10, rfl, -, -, -, -⟩ := own_row hcs.own
            go_wp2_with fail
            refine (HWA.out w10 hl10).mono ?_
            rintro e w11 ⟨v11, rfl, ho11, hx11⟩
            have ho11' : w11.ownsRow w10.heap.size 34 6 v11 (seg d 0 0).length (wCells (seg d 0 0)) := by rw [HLa.out] at ho11; exact ho11
            obtain ⟨a11, c11, rfl, hc11, hr11, -, -⟩ := own_row ho11'
            have hl11 := hl10.ext hx11
            clear ho11 ho11'
            go_wp2_with fail
            refine (HWB.out w11 hl11).mono ?_
            rintro e w12 ⟨v12, rfl, ho12, hx12⟩
            have ho12' : w12.ownsRow w11.heap.size 34 6 v12 (seg d 0 0).length (wCells (seg d 0 0)) := by rw [HLb6.out] at ho12; exact ho12
            obtain ⟨a12, c12, rfl, hc12, hr12, -, -⟩ := own_row ho12'
            clear ho12 ho12'
            go_wp2_with fail
            refine (EqW_any (seg d 0 0) (seg d 0 0) a11 a12 c11 c12 w12 (by rw [seg_len]; omega) (hr11.wrs.ext hx12) hr12.wrs).mono ?_
            rintro e w13 ⟨rfl, hx13⟩
            rw [decide_eq_true (rfl : seg d 0 0 = seg d 0 0)]
            go_wp2_with fail
            go_ret
            exact ⟨rfl, hxw10.trans ((hx11.trans hx12).trans hx13)⟩
          · have HP := HC.out
            rw [if_neg hz] at HP
            obtain ⟨p, rfl, hp⟩ : ∃ p, ps = [p] ∧ p.1 = ⟨kk, false, ⟨#[]⟩, m * d, []⟩ := by
              rcases ps with _ | ⟨p, _ | ⟨p', ps⟩⟩
              · simp at HP
              · exact ⟨p, rfl, by simpa using HP⟩
              · simp at HP
            obtain ⟨⟨k1, h1, t1, s1, l1⟩, v1⟩ := p
            simp only at hp
            cases hp
            rcases hcs.own.2 with ⟨_, h0⟩ | ⟨G, cap, cur, hv, hbG, hG, hcap, _, hcsz, htk⟩
            · simp at h0
            subst hv
            have hs3 : w10.cell? ⟨G, 3, none⟩ = some (.int .i64 (m * d)) := by
              have h1 : (cur.toList.take ([((⟨kk, false, ⟨#[]⟩, m * d, []⟩ : Cel), v1)].length * 5))[3]? = some (.int .i64 (m * d)) := by rw [htk]; rfl
              rw [List.getElem?_take] at h1
              split at h1
              · simp only [Array.getElem?_toList] at h1
                simp [World.cell?, hG, h1]
              · cases h1
            have hb : (m : Int) * d ≤ 2700 := by
              have h300 : (m : Int) ≤ 300 := by omega
              have hd0 : (0 : Int) ≤ d := by omega
              have := Int.mul_le_mul h300 hd9 hd0 (by decide)
              omega
            have hb0 : 0 ≤ (m : Int) * d := Int.mul_nonneg (by omega) (by omega)
            have hmul : IntKind.i64.wrap ((m : Int) * d) = m * d := IntWalk.i64_in _ (by omega)
            have hzi : ¬ (m : Int) = 0 := by omega
            clear hcs hG htk hcsz HC HP HT
            rw [show [((⟨kk, false, ⟨#[]⟩, (m : Int) * d, []⟩ : Cel), v1)].length = 1 from rfl]
            go_wp2_with fail
            refine (HWA.out w10 hl10).mono ?_
            rintro e w11 ⟨v11, rfl, ho11, hx11⟩
            have ho11' : w11.ownsRow w10.heap.size 34 6 v11 (seg d 0 m).length (wCells (seg d 0 m)) := by rw [HLa.out] at ho11; exact ho11
            obtain ⟨a11, c11, rfl, hc11, hr11, -, -⟩ := own_row ho11'
            have hl11 := hl10.ext hx11
            clear ho11 ho11'
            go_wp2_with fail
            refine (HWB.out w11 hl11).mono ?_
            rintro e w12 ⟨v12, rfl, ho12, hx12⟩
            have ho12' : w12.ownsRow w11.heap.size 34 6 v12 (seg d 0 m).length (wCells (seg d 0 m)) := by rw [HLb6.out] at ho12; exact ho12
            obtain ⟨a12, c12, rfl, hc12, hr12, -, -⟩ := own_row ho12'
            clear ho12 ho12'
            go_wp2_with fail
            refine (EqW_any (seg d 0 m) (seg d 0 m) a11 a12 c11 c12 w12 (by rw [seg_len]; omega) (hr11.wrs.ext hx12) hr12.wrs).mono ?_
            rintro e w13 ⟨rfl, hx13⟩
            rw [decide_eq_true (rfl : seg d 0 m = seg d 0 m)]
            go_wp2_with fail
            go_ret
            exact ⟨rfl, hxw10.trans ((hx11.trans hx12).trans hx13)⟩
        · have hd : decide (k ≤ m) = false := decide_eq_false hkm
          rw [hd]
          clear hd
          have hh2 := Have_any gb6.b gb6.hv gb6.wv gb6.L w9 (hl9.at_ gb6 (by simp)) (by have := (hl9.ok gb6 (by simp)).hlen; omega)
          rw [hbb6] at hh2
          have HKM := Lib.hid hkm
          clear hkm
          go_wp2_with fail
          refine hh2.mono ?_
          rintro e w10 ⟨v10, rfl, ho10, hx10⟩
          have ho10' : w10.ownsRow w9.heap.size 58 2 v10 (lgH m).length (eCells (lgH m)) := by rw [hLb6] at ho10; exact ho10
          obtain ⟨a10, c10, rfl, hc10, hr10, hn10, -⟩ := own_row ho10'
          have hl10 := hl9.ext hx10
          have hxw10 := hxw9.trans hx10
          have hs := Since_any ga'.b ga'.hv ga'.wv ga'.L (lgH m) a10 c10 w10 (hg.ext hxw10) (hl10.at_ ga' (by simp)) (by have := (hl10.ok ga' (by simp)).hlen; omega) (by have := (hl10.ok ga' (by simp)).len; omega) (by have := lgH_len m; omega) hc10 (fun h => slice_cap (hn10 h)) hr10.ents
          rw [hab', HLa.out] at hs
          clear hh2 ho10
          go_wp2_with fail
          refine hs.mono ?_
          rintro e w11 ⟨hx11, _, hok11⟩
          obtain ⟨vf, vh, vw, rfl, o1, o2, o3⟩ := hok11 _ _ (long_since (by omega) hmk)
          obtain ⟨M, hM⟩ : ∃ M, M = lgN k m := ⟨_, rfl⟩
          rw [← hM] at o2 o3
          rw [seg_len] at o3
          have hMm : m ≤ M ∧ M ≤ k ∧ M - m ≤ 60 := by rw [hM]; unfold lgN; omega
          have HM2 := Lib.hid hM
          clear hM
          obtain ⟨fa, fc, rfl, hfc, hfr, -, -⟩ := own_row o1
          obtain ⟨ha, hc, rfl, hhc, hhr, -, -⟩ := own_row o2
          obtain ⟨wa, wc, rfl, hwc, hwr, -, -⟩ := own_row o3
          have hl11 := hl10.ext hx11
          have hxw11 := hxw10.trans hx11
          clear hs hok11 o1 o2 o3 hr10 ho10' hn10
          go_wp2_with fail
          have hxB := (Ext.refl w11).alloc (.cells #[.slice fa (lgH m).length fc, .slice ha (lgH M).length hc, .slice wa (M - m) wc] 44)
          have hacc := Accept_lgs (hl11.ext hxB) (i := 1) (g := gb6) rfl (hg.ext (hxw11.trans hxB)) (lgH m) (lgH M) (seg d m (M - m)) fa ha wa fc hc wc (by have := lgH_len m; omega) (by have := lgH_len M; omega) (by rw [seg_len]; omega) hfc hhc (hfr.ents.ext hxB) (hhr.ents.ext hxB) (hwr.wrs.ext hxB) (fun y hy => by
            obtain ⟨j, rfl, _, _⟩ := seg_mem d hy
            refine ⟨?_, ?_, ?_, ?_⟩
            · show kk.size < _; decide +kernel
            · show (⟨#[]⟩ : ByteArray).size < _; decide +kernel
            · simp only [lgW]; omega
            · simp only [lgW]; omega)
          rw [seg_len, hbb6] at hacc
          refine hacc.mono ?_
          rintro e w12 ⟨_, hok12⟩
          have hla := long_accept (d := d) (show k ≤ 300 by omega) hmk hd1 hd9
          rw [← HM2.out] at hla
          obtain ⟨rfl, hc12, gb12, hb12, hL12, hl12⟩ := hok12 _ _ (by rw [hLb6]; exact hla)
          clear hla
          change Lgs w12 w.heap.size [ga', gb12] at hl12
          have hge12 : ∀ k, gb6.own k → w.heap.size ≤ k := hlr2.ge gb6 (by simp)
          have hxw12 : Ext w w12 := Chg.ext (hxw11.trans hxB) hc12 (fun i hi => hge12 i hi)
          have hB11 : (w11.alloc (.cells #[.slice fa (lgH m).length fc, .slice ha (lgH M).length hc, .slice wa (M - m) wc] 44)).heap[w11.heap.size]? = some (.cells #[.slice fa (lgH m).length fc, .slice ha (lgH M).length hc, .slice wa (M - m) wc] 44 (0, 0)) := heap_alloc_new _ _
          have hB12 : w12.heap[w11.heap.size]? = some (.cells #[.slice fa (lgH m).length fc, .slice ha (lgH M).length hc, .slice wa (M - m) wc] 44 (0, 0)) := by
            rw [hc12.block _ (lt_blk hB11) (((hl11.ext hxB).at_ gb6 (by simp)).far hB11 (by decide) (by decide) (by decide))]; exact hB11
          have q2 : w12.cell? ⟨w11.heap.size, 2, none⟩ = some (.slice wa (M - m) wc) := cell_blk hB12 rfl
          have HL12 := Lib.hid hL12
          clear hacc hok12 hL12 hLb6 hB11 hB12 hfr hhr hwr
          go_wp2_with fail
          refine ⟨⟨t + 1, gb12, by go_num, .inr (by have := HM.out; have := HKM.out; omega), hb12.trans hbb6, by rw [HL12.out, HM2.out, HM.out, lgN_times], hl12, hxw12⟩, by simp [intOf]; omega⟩

end Go.Proofs.YtpohhfkgoijpaaaDoor
