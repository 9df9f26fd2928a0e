/-
  The contract of vector.Write.
-/
import Derived.Test.YtbahalckcenfmaaGreatDoorVWrP
import Derived.Test.YtbahalckcenfmaaGreatDoorVec
import Derived.Deep.RegionWith
import Derived.Deep.CutBlock
import Derived.Deep.CutRange
namespace Go.Proofs.YtbahalckcenfmaaGreatDoor
open Go.RowKit
set_option linter.unusedSimpArgs false
set_option linter.unusedVariables false

/-- The bytes as a string value. -/
def bStr (l : List UInt8) : Value := .string ⟨l.toArray⟩
def VWPost (l : List Ent) (w : World) (e : Ending) (w' : World) : Prop :=
  (vRight l = .nil ∧ e = .returned (.tuple #[bStr (vWrite l), .nilIface]) ∨ vRight l ≠ .nil ∧ ∃ v, e = .returned (.tuple #[.string ⟨#[]⟩, v]) ∧ IsEr w' v (vRight l)) ∧ Ext w w'
set_option maxRecDepth 100000 in
set_option maxHeartbeats 4000000 in
theorem VWrite_any (l : List Ent) (a : Option Addr) (c : Nat) (w : World) (hl : l.length < 9223372036854775808) (hc : l.length ≤ c) (hs : EntsAt w a l) :
    Calls Tryz.prog 26 #[.slice a l.length c] w (VWPost l w) := by
  go_enter Tryz.func26, Tryz.ntmps26
  go_wp2_with fail
  refine (Right_any l a c _ hl hs).mono ?_
  rintro e w1 ⟨v1, rfl, he1, hx1⟩
  by_cases hr : vRight l = .nil
  · have hR := Lib.hid hr
    obtain ⟨hl16, hok⟩ := (vRight_iff l).1 hr
    rw [hr] at he1
    obtain rfl : v1 = _ := he1
    have hOK := Lib.hid hok
    clear hr hok
    go_wp2_with fail
    go_loopw [5, 6, 7, 8] (fun rs ou nv av wr => ∃ (k rc : Nat) (bs : List UInt8) (nx : Int), k ≤ l.length ∧ av = .int .i64 (k : Int) ∧ rs = .int .u64 (rc : Int) ∧ ou = .string ⟨bs.toArray⟩ ∧ nv = .int .i64 nx ∧ 0 ≤ nx ∧ nx ≤ 300 ∧ rc ≤ k ∧ bs.length ≤ 40 * k ∧ Hid ((vWrGo (if k = 0 then nx else nx + 1) (l.drop k)).1 + rc = (vWrGo 0 l).1 ∧ bs ++ (vWrGo (if k = 0 then nx else nx + 1) (l.drop k)).2 = (vWrGo 0 l).2) ∧ Hid (∀ h : k < l.length, (if k = 0 then nx else nx + 1) ≤ l[k].r) ∧ Ext w wr) (fun _ _ _ av _ => l.length - (intOf av).toNat)
    case atStart => exact ⟨0, 0, [], 0, Nat.zero_le _, rfl, rfl, rfl, rfl, Int.le_refl _, by omega, Nat.le_refl _, by simp, Lib.hid ⟨by simp, by simp⟩, Lib.hid (fun h => (hOK.out.1 l[0] (List.getElem_mem h)).1), hx1⟩
    case round =>
      obtain ⟨k, rc, bs, nx, hk, rfl, rfl, rfl, rfl, hn0, hn1, hrc, hbs, hrec, hnx, hx⟩ := hrel
      by_cases hlt : k < l.length
      · obtain rfl | ⟨b, off, rfl, hb, hcs⟩ := hs
        · simp at hlt
        obtain ⟨M, hM⟩ : ∃ M, runN (l[k].r + 1) (l.drop (k + 1)) = M := ⟨_, rfl⟩
        have HM := Lib.hid hM; clear hM
        have hst := hx1
        have HOK := Lib.hid (hOK.out.1 l[k] (List.getElem_mem hlt))
        obtain ⟨h0, h1⟩ := hcs k hlt
        have g0 := (hx.cell (p := ⟨b, off + k * 2, none⟩) hb).trans h0
        clear h1
        have hbr : b < wr.heap.size := by have := hx.size; omega
        clear h0
        obtain ⟨wo, hwo⟩ : ∃ wo, wo = wr := ⟨_, rfl⟩
        subst hwo
        go_upto_block 2 with fail
        go_cut [9] from 22 to 46 (fun nv wc => nv = .int .i64 ((M + 1 : Nat) : Int) ∧ k + (M + 1) ≤ l.length ∧ Ext wo wc)
        case first =>
          go_wp2_with fail
          go_loopw [9] (fun nv wi => ∃ n : Nat, nv = .int .i64 (n : Int) ∧ 1 ≤ n ∧ k + n ≤ l.length ∧ Hid (runN (l[k].r + n) (l.drop (k + n)) + n = M + 1) ∧ Ext wo wi) (fun nv _ => l.length - (intOf nv).toNat)
          case atStart => exact ⟨1, rfl, Nat.le_refl _, hlt, Lib.hid (by have := HM.out; push_cast; omega), Ext.refl _⟩
          case round =>
            obtain ⟨n, rfl, hn1', hkn, hrun, hxi⟩ := hrel
            have g0' := (hxi.cell (p := ⟨b, off + k * 2, none⟩) hbr).trans g0
            by_cases hlt2 : k + n < l.length
            · have hd : decide ((k : Int) + (n : Int) < (l.length : Int)) = true := by simp; omega
              obtain ⟨h2, h3⟩ := hcs (k + n) hlt2
              have g2 := ((hx.trans hxi).cell (p := ⟨b, off + (k + n) * 2, none⟩) hb).trans h2
              have hbi : b < wr.heap.size := by have := hxi.size; omega
              have s5 : ((k : Int) + (n : Int)).toNat = k + n := by omega
              have s1 : IntKind.i64.wrap ((k : Int) + (n : Int)) = (k : Int) + n := IntWalk.i64_in _ (by omega)
              have s2 : (0 : Int) ≤ (k : Int) + n := by omega
              have s3 : (k : Int) + n < (l.length : Int) := by omega
              have hrn := Lib.hid (runN_drop l (k + n) (l[k].r + n) hlt2)
              obtain ⟨o0, o1, o2, o3⟩ := HOK.out
              have s6 : IntKind.i64.wrap (l[k].r + (n : Int)) = l[k].r + n := IntWalk.i64_in _ (by omega)
              clear h2 h3 hcs g0
              go_wp2_with fail
              go_quiet (fail)
              go_wp2_with fail
              · have he : l[k + n].r = l[k].r + n := by simp_all
                refine ⟨⟨n + 1, rfl, by omega, by omega, Lib.hid ?_, hxi.drewN _⟩, by simp [intOf]; omega⟩
                have := hrun.out
                rw [hrn.out, if_pos he] at this
                have e1 : k + (n + 1) = k + n + 1 := by omega
                have e2 : l[k].r + ((n + 1 : Nat) : Int) = l[k].r + n + 1 := by push_cast; omega
                rw [e1, e2]; omega
              · go_meet
                have hne : ¬ l[k + n].r = l[k].r + n := by intro h; simp_all
                have := hrun.out
                rw [hrn.out, if_neg hne] at this
                exact ⟨by rw [← this]; simp, by omega, hxi.drewN _⟩
            · have hd : decide ((k : Int) + (n : Int) < (l.length : Int)) = false := by simp; omega
              go_wp2_with fail
              go_quiet (fail)
              go_wp2_with fail
              go_meet
              have := hrun.out
              rw [runN_end l (k + n) _ (by omega)] at this
              exact ⟨by rw [← this]; simp, by omega, hxi.drewN _⟩
        case rest =>
          obtain ⟨rfl, hkM, hxc⟩ := hcut
          have g0c := (hxc.cell (p := ⟨b, off + k * 2, none⟩) hbr).trans g0
          obtain ⟨o0, o1, o2, o3⟩ := HOK.out
          have hge := hnx.out hlt
          obtain ⟨G, hG, hG2⟩ : ∃ G : Nat, (G : Int) = l[k].r - (if k = 0 then nx else nx + 1) ∧ G ≤ 200 := ⟨(l[k].r - (if k = 0 then nx else nx + 1)).toNat, by omega, by split at hge <;> omega⟩
          have HG := Lib.hid hG
          clear hG
          have s7 : IntKind.i64.wrap (l[k].r - nx) = l[k].r - nx := IntWalk.i64_in _ (by omega)
          clear g0
          go_upto_if 55 with fail
          go_cut [10] from 18 to 97 (fun gv wx => gv = .int .i64 (G : Int) ∧ wx = wc)
          case first =>
            by_cases hk0 : 0 < k
            · have hd : decide ((0 : Int) < (k : Int)) = true := by simp; omega
              have s8 : IntKind.i64.wrap (l[k].r - nx - 1) = l[k].r - nx - 1 := IntWalk.i64_in _ (by omega)
              go_wp2_with fail
              go_meet
              exact ⟨by have := HG.out; rw [if_neg (by omega)] at this; rw [this]; congr 1; omega, rfl⟩
            · have hd : decide ((0 : Int) < (k : Int)) = false := by simp; omega
              go_wp2_with fail
              go_meet
              exact ⟨by have := HG.out; rw [if_pos (by omega)] at this; rw [this], rfl⟩
          case rest =>
            obtain ⟨rfl, rfl⟩ := hcut
            have s9 : IntKind.i64.wrap (((M + 1 : Nat) : Int) - 1) = (M : Int) := by rw [IntWalk.i64_in _ (by omega)]; omega
            have z1 := vput_len 9 G (by omega)
            have z2 := vput_len 9 M (by omega)
            have z3 : ¬ 9223372036854775807 < (vput G).length + (vput M).length := by omega
            have z4 : ¬ 9223372036854775807 < bs.length + ((vput G).length + (vput M).length) := by omega
            go_wp2_with fail
            refine (Put_any G _ (by omega)).mono ?_
            rintro e w3 ⟨rfl, hx3⟩
            go_wp2_with fail
            refine (Put_any M _ (by omega)).mono ?_
            rintro e w4 ⟨rfl, hx4⟩
            go_wp2_with fail
            have hxo : Ext w w4 := ((hx.trans hxc).trans hx3).trans hx4
            clear hx3 hx4
            rw [show k + (M + 1) - k = M + 1 by omega]
            go_loopw [6, 75] (fun ov iv wi => ∃ i : Nat, iv = .int .i64 (i : Int) ∧ i ≤ M + 1 ∧ ov = .string ⟨(bs ++ vput G ++ vput M ++ tBytes ((l.drop k).take i)).toArray⟩ ∧ (tBytes ((l.drop k).take i)).length ≤ 10 * i ∧ Ext w wi) (fun _ iv _ => M + 1 - (intOf iv).toNat)
            case atStart => exact ⟨0, rfl, Nat.zero_le _, by simp [tBytes, ByteArray.mk_append_mk], by simp [tBytes], hxo⟩
            case round =>
              obtain ⟨i, rfl, hi, rfl, hbi, hxi⟩ := hrel
              by_cases hiM : i < M + 1
              · obtain ⟨h2, h3⟩ := hcs (k + i) (by omega)
                have e2 : off + (k + i) * 2 = off + k * 2 + i * 2 := by omega
                have e3 : off + (k + i) * 2 + 1 = off + k * 2 + i * 2 + 1 := by omega
                have g2 : wr.cell? ⟨b, off + k * 2 + i * 2, none⟩ = some (.int .i64 l[k + i].r) := (hxi.cell hb).trans (by rw [← e2]; exact h2)
                have g3 : wr.cell? ⟨b, off + k * 2 + i * 2 + 1, none⟩ = some (.int .i64 l[k + i].t) := (hxi.cell hb).trans (by rw [← e3]; exact h3)
                clear h2 h3
                have htk := Lib.hid (tBytes_take l k i (by omega))
                obtain ⟨_, _, t0, t1⟩ := hOK.out.1 l[k + i] (List.getElem_mem _)
                obtain ⟨T, hT, hT2⟩ : ∃ T : Nat, l[k + i].t = (T : Int) ∧ T ≤ 1099511627776 := ⟨l[k + i].t.toNat, by omega, by omega⟩
                have HT := Lib.hid hT
                rw [hT] at g3
                clear hT t0 t1
                have z5 := vput_len 9 T (by omega)
                obtain ⟨B, hB⟩ : ∃ B, bs ++ vput G ++ vput M ++ tBytes ((l.drop k).take i) = B := ⟨_, rfl⟩
                have hBl : B.length ≤ 10000 := by rw [← hB]; simp; omega
                have HB := Lib.hid hB
                have z6 : ¬ 9223372036854775807 < B.length + (vput T).length := by omega
                rw [hB]
                clear hB
                go_wp2_with fail
                refine (Put_any T _ (by omega)).mono ?_
                rintro e w5 ⟨rfl, hx5⟩
                go_wp2_with fail
                refine ⟨⟨i + 1, rfl, by omega, ?_, ?_, (hxi.trans ((Ext.refl _).alloc _)).trans hx5⟩, by simp [intOf]; omega⟩
                · rw [ByteArray.mk_append_mk, ← HB.out, htk.out, HT.out]; simp
                · rw [htk.out, HT.out]; simp; omega
              · have g0e : wr.cell? ⟨b, off + k * 2, none⟩ = some (.int .i64 l[k].r) := (hxi.cell hb).trans (hcs k hlt).1
                obtain rfl : i = M + 1 := by omega
                have sA : IntKind.i64.wrap (l[k].r + ((M : Int) + 1)) = l[k].r + ((M : Int) + 1) := IntWalk.i64_in _ (by omega)
                have sB : IntKind.i64.wrap ((k : Int) + ((M : Int) + 1)) = (k : Int) + ((M : Int) + 1) := IntWalk.i64_in _ (by omega)
                go_wp2_with fail
                have hst := Lib.hid (vWrGo_step (if k = 0 then nx else nx + 1) l k M hlt HM.out)
                refine ⟨⟨k + (M + 1), rc + 1, bs ++ vput G ++ vput M ++ tBytes ((l.drop k).take (M + 1)), l[k].r + ((M : Int) + 1), by omega, by push_cast; rfl, by push_cast; rfl, rfl, rfl, by omega, by omega, by omega, ?_, Lib.hid ⟨?_, ?_⟩, Lib.hid ?_, hxi⟩, by simp [intOf]; omega⟩
                · simp; omega
                · have h := hrec.out.1
                  rw [hst.out] at h
                  rw [if_neg (by omega), ← h]
                  have e : l[k].r + ((M : Int) + 1) + 1 = l[k].r + M + 2 := by omega
                  rw [e]; simp; omega
                · have h := hrec.out.2
                  rw [hst.out] at h
                  rw [if_neg (by omega), ← h]
                  have e : l[k].r + ((M : Int) + 1) + 1 = l[k].r + M + 2 := by omega
                  have e2 : (l[k].r - (if k = 0 then nx else nx + 1)).toNat = G := by rw [← HG.out]; simp
                  rw [e, e2]; simp
                · intro h
                  rw [if_neg (by omega)]
                  have := run_next l hOK.out k M hlt HM.out h
                  omega
      · have hke := vWrGo_end (if k = 0 then nx else nx + 1) l k (by omega)
        have hr1 := hrec.out.1
        have hr2 := hrec.out.2
        rw [hke] at hr1 hr2
        have hw : vWrite l = vput rc ++ bs := by rw [vWrite, ← hr1, ← hr2]; simp
        have HW := Lib.hid hw
        have z1 := vput_len 9 rc (by omega)
        have z2 : ¬ 9223372036854775807 < (vput rc).length + bs.length := by omega
        clear hke hr1 hr2 hw hrec hnx
        go_wp2_with fail
        refine (Put_any rc _ (by omega)).mono ?_
        rintro e w3 ⟨rfl, hx3⟩
        go_wp2_with fail
        refine bodyPost_ret (v := .tuple #[bStr (vWrite l), .nilIface]) ?_ rfl ?_
        · rw [HW.out]; simp [results, Tryz.results26, go_sem, bStr, ByteArray.mk_append_mk]
        · exact ⟨.inl ⟨hR.out, rfl⟩, hx.trans hx3⟩
  · obtain ⟨t2, y2, rfl⟩ := he1.iface hr
    go_wp2_with fail
    refine bodyPost_ret (v := .tuple #[.string ⟨#[]⟩, .iface t2 y2]) ?_ rfl ?_
    · simp [results, Tryz.results26, go_sem]
    · exact ⟨.inr ⟨hr, _, rfl, he1⟩, hx1⟩

end Go.Proofs.YtbahalckcenfmaaGreatDoor
