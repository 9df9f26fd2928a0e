/-
  The contract of (*log.Log).Since.
-/
import Derived.Test.YtbahalckcenfmaaGreatDoorSinS
namespace Go.Proofs.YtbahalckcenfmaaGreatDoor
open Go.RowKit
set_option linter.unusedSimpArgs false
set_option linter.unusedVariables false

def SincePost (L : LogS) (f : List Ent) (w : World) (e : Ending) (w' : World) : Prop :=
  Ext w w' ∧
  (∀ k, logSince L f = .inl k → e = .returned (.tuple #[.agg #[.slice none 0 0, .slice none 0 0, .slice none 0 0], .iface 50 (.int .i64 k)])) ∧
  (∀ h ws, logSince L f = .inr (h, ws) → ∃ vf vh vw, e = .returned (.tuple #[.agg #[vf, vh, vw], .nilIface]) ∧ w'.ownsRow w.heap.size 45 2 vf f.length (eCells f) ∧
    w'.ownsRow w.heap.size 45 2 vh h.length (eCells h) ∧ w'.ownsRow w.heap.size 33 6 vw ws.length (wCells ws))
theorem SincePost.ok {L : LogS} {f h : List Ent} {ws : List Wr} {w w' : World} {e : Ending} {vf vh vw : Value} (hl : logSince L f = .inr (h, ws)) (he : e = .returned (.tuple #[.agg #[vf, vh, vw], .nilIface])) (hx : Ext w w')
    (h1 : w'.ownsRow w.heap.size 45 2 vf f.length (eCells f)) (h2 : w'.ownsRow w.heap.size 45 2 vh h.length (eCells h)) (h3 : w'.ownsRow w.heap.size 33 6 vw ws.length (wCells ws)) : SincePost L f w e w' :=
  ⟨hx, fun k' h' => (by rw [hl] at h'; cases h'), fun a b h' => (by rw [hl] at h'; cases h'; exact ⟨_, _, _, he, h1, h2, h3⟩)⟩
theorem SincePost.err {L : LogS} {f : List Ent} {w w' : World} {e : Ending} {k : Int} (h : logSince L f = .inl k) (he : e = .returned (.tuple #[.agg #[.slice none 0 0, .slice none 0 0, .slice none 0 0], .iface 50 (.int .i64 k)])) (hx : Ext w w') : SincePost L f w e w' :=
  ⟨hx, fun k' h' => (by rw [h] at h'; cases h'; exact he), fun a b h' => (by rw [h] at h'; cases h')⟩

/-- The batch in the making, at block B; the result's cells at R. -/
structure SinAt (w wr : World) (B R : Nat) (f hv : List Ent) (acc : List Wr) (vf vh vw : Value) : Prop where
  ext : Ext w wr
  blk : wr.heap[B]? = some (.cells #[vf, vh, vw] 25 (0, 0))
  res : wr.heap[R]? = some (.cells #[.slice none 0 0, .slice none 0 0, .slice none 0 0] 25 (0, 0))
  hB : w.heap.size ≤ B
  hR : w.heap.size ≤ R
  hBR : B ≠ R
  of : wr.ownsRow w.heap.size 45 2 vf f.length (eCells f)
  oh : wr.ownsRow w.heap.size 45 2 vh hv.length (eCells hv)
  ow : wr.ownsRow w.heap.size 33 6 vw acc.length (wCells acc)
theorem SinAt.more {w wr w' : World} {B R : Nat} {f hv : List Ent} {acc : List Wr} {vf vh vw : Value} (h : SinAt w wr B R f hv acc vf vh vw) (hx : Ext wr w') : SinAt w w' B R f hv acc vf vh vw :=
  ⟨h.ext.trans hx, (hx.block B (lt_blk h.blk)).trans h.blk, (hx.block R (lt_blk h.res)).trans h.res, h.hB, h.hR, h.hBR, own_ext h.of hx, own_ext h.oh hx, own_ext h.ow hx⟩
theorem SinAt.setH {w wr : World} {B R : Nat} {f hv hv' : List Ent} {acc : List Wr} {vf vh vw vh' : Value} (h : SinAt w wr B R f hv acc vf vh vw) (ho : wr.ownsRow w.heap.size 45 2 vh' hv'.length (eCells hv')) :
    SinAt w (wr.setCell ⟨B, 1, none⟩ vh') B R f hv' acc vf vh' vw :=
  ⟨h.ext.set h.hB _, by simpa using set_blk h.blk (i := 1) vh', by rw [set_far _ _ _ _ h.hBR.symm]; exact h.res, h.hB, h.hR, h.hBR, own_set h.of (own_ne h.of h.blk (by decide)) _, own_set ho (own_ne ho h.blk (by decide)) _, own_set h.ow (own_ne h.ow h.blk (by decide)) _⟩
theorem SinAt.addW {w wr w1 : World} {B R : Nat} {f hv : List Ent} {acc acc' : List Wr} {vf vh vw vw' : Value} (h : SinAt w wr B R f hv acc vf vh vw) (hg : wr.grownBy w1 vw.ownBlock) (ho : w1.ownsRow w.heap.size 33 6 vw' acc'.length (wCells acc')) :
    SinAt w (w1.setCell ⟨B, 2, none⟩ vw') B R f hv acc' vf vh vw' := by
  have b1 : w1.heap[B]? = some (.cells #[vf, vh, vw] 25 (0, 0)) := by rw [hg.block B (lt_blk h.blk) (fun hh => own_ne h.ow h.blk (by decide) hh.symm)]; exact h.blk
  have b2 : w1.heap[R]? = some (.cells #[.slice none 0 0, .slice none 0 0, .slice none 0 0] 25 (0, 0)) := by rw [hg.block R (lt_blk h.res) (fun hh => own_ne h.ow h.res (by decide) hh.symm)]; exact h.res
  have o1 := own_grown hg h.of (fun k hk he => own_two h.of h.ow (by decide) k hk he.symm)
  have o2 := own_grown hg h.oh (fun k hk he => own_two h.oh h.ow (by decide) k hk he.symm)
  exact ⟨(h.ext.grown hg (own_ge h.ow)).set h.hB _, by simpa using set_blk b1 (i := 2) vw', by rw [set_far _ _ _ _ h.hBR.symm]; exact b2, h.hB, h.hR, h.hBR, own_set o1 (own_ne o1 b1 (by decide)) _, own_set o2 (own_ne o2 b1 (by decide)) _, own_set ho (own_ne ho b1 (by decide)) _⟩

theorem SinAt.fin {w wr : World} {B R : Nat} {f hv : List Ent} {acc : List Wr} {vf vh vw : Value} {L : LogS} (h : SinAt w wr B R f hv acc vf vh vw) (a b c : Value) (hl : logSince L f = .inr (hv, acc)) :
    SincePost L f w (.returned (.tuple #[.agg #[vf, vh, vw], .nilIface])) (((wr.setCell ⟨R, 0, none⟩ a).setCell ⟨R, 1, none⟩ b).setCell ⟨R, 2, none⟩ c) := by
  have n1 := own_ne h.of h.res (by decide)
  have n2 := own_ne h.oh h.res (by decide)
  have n3 := own_ne h.ow h.res (by decide)
  exact SincePost.ok hl rfl (((h.ext.set h.hR _).set h.hR _).set h.hR _) (own_set (own_set (own_set h.of n1 _) n1 _) n1 _) (own_set (own_set (own_set h.oh n2 _) n2 _) n2 _) (own_set (own_set (own_set h.ow n3 _) n3 _) n3 _)

theorem sin_start {w wb : World} {B R : Nat} {f hv : List Ent} {vf vh : Value} (hx : Ext w wb) (hB : w.heap.size ≤ B) (hR : w.heap.size ≤ R) (hBR : B ≠ R)
    (hblk : wb.heap[B]? = some (.cells #[.slice none 0 0, .slice none 0 0, .slice none 0 0] 25 (0, 0))) (hres : wb.heap[R]? = some (.cells #[.slice none 0 0, .slice none 0 0, .slice none 0 0] 25 (0, 0)))
    (hf : wb.ownsRow w.heap.size 45 2 vf f.length (eCells f)) (hh : wb.ownsRow w.heap.size 45 2 vh hv.length (eCells hv)) :
    SinAt w (((wb.setCell ⟨B, 0, none⟩ vf).setCell ⟨B, 1, none⟩ vh).setCell ⟨B, 2, none⟩ (.slice none 0 0)) B R f hv [] vf vh (.slice none 0 0) := by
  have nf := own_ne hf hblk (by decide)
  have nh := own_ne hh hblk (by decide)
  have b1 : (wb.setCell ⟨B, 0, none⟩ vf).heap[B]? = some (.cells #[vf, .slice none 0 0, .slice none 0 0] 25 (0, 0)) := by simpa using set_blk hblk (i := 0) vf
  have b2 : ((wb.setCell ⟨B, 0, none⟩ vf).setCell ⟨B, 1, none⟩ vh).heap[B]? = some (.cells #[vf, vh, .slice none 0 0] 25 (0, 0)) := by simpa using set_blk b1 (i := 1) vh
  have b3 : (((wb.setCell ⟨B, 0, none⟩ vf).setCell ⟨B, 1, none⟩ vh).setCell ⟨B, 2, none⟩ (.slice none 0 0)).heap[B]? = some (.cells #[vf, vh, .slice none 0 0] 25 (0, 0)) := by simpa using set_blk b2 (i := 2) (.slice none 0 0)
  exact ⟨((hx.set hB _).set hB _).set hB _, b3, by rw [set_far _ _ _ _ hBR.symm, set_far _ _ _ _ hBR.symm, set_far _ _ _ _ hBR.symm]; exact hres, hB, hR, hBR,
    own_set (own_set (own_set hf nf _) nf _) nf _, own_set (own_set (own_set hh nh _) nh _) nh _, World.ownsRow_nil _ _ _ _⟩

set_option maxRecDepth 100000 in
set_option maxHeartbeats 8000000 in
theorem Since_any (b : Nat) (hv wv : Value) (L : LogS) (f : List Ent) (af : Option Addr) (cf : Nat) (w : World) (hg : Good w)
    (hLog : LogAt w b hv wv L) (hhl : L.hav.length < 1000000) (hwl : L.wrs.length < 1000000) (hf : f.length < 9223372036854775808) (hcf : f.length ≤ cf) (hnf : af = none → cf = 0)
    (hsf : EntsAt w af f) :
    Calls Tryz.prog 23 #[.pointer (some ⟨b, 0, none⟩), .slice af f.length cf] w (SincePost L f w) := by
  have q1 : w.cell? ⟨b, 1, none⟩ = some hv := cell_blk hLog.blk rfl
  have q2 : w.cell? ⟨b, 2, none⟩ = some wv := cell_blk hLog.blk rfl
  have hbl := lt_blk hLog.blk
  obtain ⟨ha, hc, rfl, hhc, hhrow, hhnil, _⟩ := own_row hLog.hown
  obtain ⟨wa, wc, rfl, hwc, hwrow, hwnil, _⟩ := own_row hLog.wown
  have hhc0 : ha = none → hc = 0 := fun h => slice_cap (hhnil h)
  go_enter Tryz.func23, Tryz.ntmps23
  go_wp2_with fail
  have hx0 : Ext w (w.alloc (.cells #[.slice none 0 0, .slice none 0 0, .slice none 0 0] 25)) := (Ext.refl _).alloc _
  refine (Right_any f af cf _ (by omega) (hsf.ext hx0)).mono ?_
  rintro e w1 ⟨v1, rfl, he1, hx1⟩
  have hy1 : Ext w w1 := hx0.trans hx1
  have r0 : w1.heap[w.heap.size]? = some (.cells #[.slice none 0 0, .slice none 0 0, .slice none 0 0] 25 (0, 0)) := (hx1.block _ (by simp)).trans (heap_alloc_new _ _)
  by_cases hvr : vRight f = .nil
  · have HB := Lib.hid hvr
    rw [hvr] at he1
    obtain rfl : v1 = _ := he1
    have hl1 := Lib.hid (show logSince L f = if vCovers L.hav f = false then .inl 13 else .inr (sinGo f L.hav L.wrs []) by rw [logSince, if_neg (by rw [hvr]; simp)])
    clear hvr
    have p1 := hy1.get q1
    go_wp2_with fail
    refine (Covers_any L.hav f ha af hc cf _ (Nat.lt_trans hhl (by decide)) hf (hhrow.ents.ext hy1) (hsf.ext hy1)).mono ?_
    rintro e w2 ⟨rfl, hx2⟩
    have hy2 := hy1.trans hx2
    have r2 : w2.heap[w.heap.size]? = some (.cells #[.slice none 0 0, .slice none 0 0, .slice none 0 0] 25 (0, 0)) := (hx2.block _ (lt_blk r0)).trans r0
    clear r0 p1
    rcases hcv : vCovers L.hav f with _ | _
    · have hl2 := Lib.hid (show logSince L f = .inl 13 by rw [hl1.out, if_pos hcv])
      clear hcv
      have c0 := cell_blk r2 (i := 0) rfl
      have c1 := cell_blk r2 (i := 1) rfl
      have c2 := cell_blk r2 (i := 2) rfl
      have f0 : w2.frozen? ⟨w.heap.size, 0, none⟩ = false := free_blk r2
      have f1 : w2.frozen? ⟨w.heap.size, 1, none⟩ = false := free_blk r2
      have f2 : w2.frozen? ⟨w.heap.size, 2, none⟩ = false := free_blk r2
      go_wp2_with fail
      refine bodyPost_ret (v := .tuple #[.agg #[.slice none 0 0, .slice none 0 0, .slice none 0 0], .iface 50 (.int .i64 13)]) ?_ rfl ?_
      · simp [results, Tryz.results23, go_sem, c0, c1, c2, f0, f1, f2]
      · exact SincePost.err hl2.out rfl (Ext.set (Ext.set (Ext.set hy2 (by simp) _) (by simp) _) (by simp) _)
    · have hl2 := Lib.hid (show logSince L f = .inr (sinGo f L.hav L.wrs []) by rw [hl1.out, if_neg (by simp [hcv])])
      have hf16 := vRight_len HB.out
      clear hcv
      have p1 := hy2.get q1
      go_wp2_with fail
      refine wp_region_held_drew (S := fun w' => w'.cell? ⟨b, 1, none⟩ = some (.slice ha L.hav.length hc)) (by kernel_rfl) p1 (fun hS => ?_)
      refine wpAnyH_take (i := 0) (oi := ⟨_, _, _, _, _, _⟩) (v := ?_) rfl (by kernel_rfl) (by kernel_rfl) (by kernel_rfl) (fun _ _ _ h => h) (Or.inl ⟨by rfl, ?_⟩) (by assumption) ?_
      rotate_left
      · intro w hSw
        (try dsimp only at hSw)
        first | (go_simp; done) | (go_simp; with_reducible rfl)
      simp only [Act.put, List.setIfInBounds_toArray, List.set_cons_zero, List.set_cons_succ]
      refine wpAnyH_take (i := 2) (oi := ⟨_, _, _, _, _, _⟩) (v := ?_) rfl (by kernel_rfl) (by kernel_rfl) (by kernel_rfl) (fun _ _ _ h => h) (Or.inl ⟨by rfl, ?_⟩) (by assumption) ?_
      rotate_left
      · intro w hSw
        (try dsimp only at hSw)
        first | (go_simp; done) | (go_simp; with_reducible rfl)
      simp only [Act.put, List.setIfInBounds_toArray, List.set_cons_zero, List.set_cons_succ]
      refine wpAnyH_take (i := 3) (oi := ⟨_, _, _, _, _, _⟩) (v := ?_) rfl (by kernel_rfl) (by kernel_rfl) (by kernel_rfl) (fun _ _ _ h => h) (Or.inl ⟨by rfl, ?_⟩) (by assumption) ?_
      rotate_left
      · intro w hSw
        (try dsimp only at hSw)
        first | (go_simp; done) | (go_simp; with_reducible rfl)
      simp only [Act.put, List.setIfInBounds_toArray, List.set_cons_zero, List.set_cons_succ]
      refine wpAnyH_take (i := 4) (oi := ⟨_, _, _, _, _, _⟩) (v := ?_) rfl (by kernel_rfl) (by kernel_rfl) (by kernel_rfl) (fun _ _ _ h => h) (Or.inl ⟨by rfl, ?_⟩) (by assumption) ?_
      rotate_left
      · intro w hSw
        (try dsimp only at hSw)
        first | (go_simp; done) | (go_simp; with_reducible rfl)
      simp only [Act.put, List.setIfInBounds_toArray, List.set_cons_zero, List.set_cons_succ]
      refine wpAnyH_take (i := 5) (oi := ⟨_, _, _, _, _, _⟩) (v := ?_) rfl (by kernel_rfl) (by kernel_rfl) (by kernel_rfl) (fun _ _ _ h => h) (Or.inl ⟨by rfl, ?_⟩) (by assumption) ?_
      rotate_left
      · intro w hSw
        (try dsimp only at hSw)
        first | (go_simp; done) | (go_simp; with_reducible rfl)
      simp only [Act.put, List.setIfInBounds_toArray, List.set_cons_zero, List.set_cons_succ]
      refine wpAnyH_ready (rs := [1, 8]) (by kernel_rfl) (by simp) ?_
      refine AllReadyH.cons (o := ⟨_, _, _, _, _, _⟩) rfl (fun K hK => ?_) (AllReadyH.cons (o := ⟨_, _, _, _, _, _⟩) rfl (fun K hK => ?_) (AllReadyH.nil))
      · go_simp
        refine (CloneE_any f af cf _ (Nat.lt_of_le_of_lt (vRight_len HB.out) (by decide)) hcf (hsf.ext (hy2.drew)) hnf).mono ?_
        rintro e wa ⟨vf, rfl, hvf, _, hxa⟩
        obtain ⟨fa, fc, rfl, _, _, _, _⟩ := own_row hvf
        refine hK.out _ _ ?_ (fun hS2 => ?_)
        · exact hxa.get hS
        clear hK K
        (try simp only [Act.put, List.setIfInBounds_toArray, List.set_cons_zero, List.set_cons_succ])
        have hya : Ext w2 wa := Ext.trans (Ext.refl w2).drew hxa
        refine wpAnyH_ready (rs := [6, 8]) (by kernel_rfl) (by simp) ?_
        refine AllReadyH.cons (o := ⟨_, _, _, _, _, _⟩) rfl (fun K hK => ?_) (AllReadyH.cons (o := ⟨_, _, _, _, _, _⟩) rfl (fun K hK => ?_) (AllReadyH.nil))
        · go_simp
          refine (CloneE_any L.hav ha hc _ hhl hhc (hhrow.ents.ext (hy2.trans hya)) hhc0).mono ?_
          rintro e wb ⟨vh, rfl, hvh, _, hxb⟩
          obtain ⟨na, nc, rfl, _, _, _, _⟩ := own_row hvh
          refine hK.out _ _ ?_ (fun hS3 => ?_)
          · exact hxb.get hS2
          clear hK K
          (try simp only [Act.put, List.setIfInBounds_toArray, List.set_cons_zero, List.set_cons_succ])
          refine wpAnyH_take (i := 7) (oi := ⟨_, _, _, _, _, _⟩) (v := ?_) rfl (by kernel_rfl) (by kernel_rfl) (by kernel_rfl) (fun _ _ _ h => h) (Or.inl ⟨by rfl, ?_⟩) (by assumption) ?_
          rotate_left
          · intro w hSw
            (try dsimp only at hSw)
            first | (go_simp; done) | (go_simp; with_reducible rfl)
          simp only [Act.put, List.setIfInBounds_toArray, List.set_cons_zero, List.set_cons_succ]
          refine wpAnyH_ready (rs := [8]) (by kernel_rfl) (by simp) ?_
          refine AllReadyH.cons (o := ⟨_, _, _, _, _, _⟩) rfl (fun K hK => ?_) AllReadyH.nil
          go_simp
          refine hK.out _ _ ?_ (fun hS4 => ?_)
          · exact ((Ext.refl _).alloc _).get hS3
          clear hK K
          (try simp only [Act.put, List.setIfInBounds_toArray, List.set_cons_zero, List.set_cons_succ])
          have hyb : Ext w2 wb := hya.trans hxb
          have hsz2 := hyb.size
          have hsz0 := hy2.size
          have hszr := lt_blk r2
          have hbw2 : b < wb.heap.size := by omega
          refine wpAnyH_ready (rs := [9]) (by kernel_rfl) (by simp) ?_
          refine AllReadyH.cons (o := ⟨_, _, _, _, _, _⟩) rfl (fun K hK => ?_) AllReadyH.nil
          go_simp
          refine hK.out _ _ ?_ (fun hS9 => ?_)
          · exact ((Ext.refl _).alloc _).get hS3
          clear hK K
          (try simp only [Act.put, List.setIfInBounds_toArray, List.set_cons_zero, List.set_cons_succ])
          refine wpAnyH_done (by kernel_rfl) ?_ _
          obtain ⟨W, hW⟩ : ∃ W, W = wb.alloc (.cells #[.slice fa f.length fc, .slice na L.hav.length nc, .slice none 0 0] 25) := ⟨_, rfl⟩
          rw [← hW]
          have hs0 : SinAt w W wb.heap.size w.heap.size f L.hav [] (.slice fa f.length fc) (.slice na L.hav.length nc) (.slice none 0 0) := by
            rw [hW]
            exact ⟨(hy2.trans hyb).alloc _, heap_alloc_new _ _, (((Ext.refl wb).alloc _).block _ (by omega)).trans ((hyb.block _ hszr).trans r2), by omega, by omega, by omega, own_ext (own_base hvf (by simpa using hsz0)) (hxb.alloc _), own_ext (own_base hvh (by have := hya.size; omega)) ((Ext.refl wb).alloc _), World.ownsRow_nil _ _ _ _⟩
          clear hW
          obtain ⟨B, hBe⟩ : ∃ B, B = wb.heap.size := ⟨_, rfl⟩
          rw [← hBe] at hs0 ⊢
          clear hBe

          have p2 := hs0.ext.get q2
          obtain ⟨i0, hi0, hi1, hi2, hi3⟩ := info_parts info_Wr
          go_wp2_with fail
          go_loopw [42] (fun i wr => ∃ (k : Nat) (acc : List Wr) (vw : Value), i = .int .i64 k ∧ k ≤ L.wrs.length ∧ acc.length ≤ k ∧ acc.length ≤ 60 ∧ Hid (sinGo f L.hav (L.wrs.drop k) acc = sinGo f L.hav L.wrs []) ∧ SinAt w wr B w.heap.size f L.hav acc (.slice fa f.length fc) (.slice na L.hav.length nc) vw) (fun i _ => L.wrs.length - (intOf i).toNat)
          case atStart => exact ⟨0, [], _, rfl, Nat.zero_le _, by simp, by simp, Lib.hid rfl, hs0⟩
          case round =>
            obtain ⟨k, acc, vw, rfl, hk, hak, ha60, hrec, hs⟩ := hrel
            obtain ⟨va, vc, rfl, hvc, hvrow, hvnil, hvb⟩ := own_row hs.ow
            by_cases hlt : k < L.wrs.length
            · obtain ⟨x, xb, xo, rfl, hx1', hx2', hxb', d0, d1, d2, d3, d4, d5⟩ := (hwrow.wrs.ext hs.ext).at k hlt
              have hstep := Lib.hid (sinGo_drop f L.hav L.wrs acc k hlt)
              rw [hx2'] at hstep
              clear hx1' hx2'
              go_wp2_with fail
              refine wp_region_held_drew (S := fun w' => w'.cell? ⟨wr.heap.size, 0, none⟩ = some (.int .i64 x.t) ∧ w'.cell? ⟨wr.heap.size, 1, none⟩ = some (.int .i64 x.r)) (by kernel_rfl) ⟨by simp, by simp⟩ (fun hS => ?_)
              refine wpAnyH_take (i := 0) (oi := ⟨_, _, _, _, _, _⟩) (v := ?_) rfl (by kernel_rfl) (by kernel_rfl) (by kernel_rfl) (fun _ _ _ h => h) (Or.inl ⟨by rfl, ?_⟩) (by assumption) ?_
              rotate_left
              · intro w hSw
                (try dsimp only at hSw)
                first | (go_simp; done) | (go_simp; with_reducible rfl)
              simp only [Act.put, List.setIfInBounds_toArray, List.set_cons_zero, List.set_cons_succ]
              refine wpAnyH_take (i := 1) (oi := ⟨_, _, _, _, _, _⟩) (v := ?_) rfl (by kernel_rfl) (by kernel_rfl) (by kernel_rfl) (fun _ _ _ h => h) (Or.inl ⟨by rfl, ?_⟩) (by assumption) ?_
              rotate_left
              · intro w hSw
                (try dsimp only at hSw)
                first | (go_simp; done) | (go_simp; with_reducible rfl)
              simp only [Act.put, List.setIfInBounds_toArray, List.set_cons_zero, List.set_cons_succ]
              refine wpAnyH_take (i := 2) (oi := ⟨_, _, _, _, _, _⟩) (v := ?_) rfl (by kernel_rfl) (by kernel_rfl) (by kernel_rfl) (fun _ _ _ h => h) (Or.inl ⟨by rfl, ?_⟩) (by assumption) ?_
              rotate_left
              · intro w hSw
                (try dsimp only at hSw)
                first | (go_simp; done) | (go_simp; with_reducible rfl)
              simp only [Act.put, List.setIfInBounds_toArray, List.set_cons_zero, List.set_cons_succ]
              refine wpAnyH_take (i := 3) (oi := ⟨_, _, _, _, _, _⟩) (v := ?_) rfl (by kernel_rfl) (by kernel_rfl) (by kernel_rfl) (fun _ _ _ h => h) (Or.inl ⟨by rfl, ?_⟩) (by assumption) ?_
              rotate_left
              · intro w hSw
                (try dsimp only at hSw)
                first | (go_simp; done) | (go_simp; with_reducible rfl)
              simp only [Act.put, List.setIfInBounds_toArray, List.set_cons_zero, List.set_cons_succ]
              refine wpAnyH_take (i := 4) (oi := ⟨_, _, _, _, _, _⟩) (v := ?_) rfl (by kernel_rfl) (by kernel_rfl) (by kernel_rfl) (fun _ _ _ h => h) (Or.inl ⟨by rfl, ?_⟩) (by assumption) ?_
              rotate_left
              · intro w hSw
                (try dsimp only at hSw)
                first | (go_simp; done) | (go_simp; with_reducible rfl)
              simp only [Act.put, List.setIfInBounds_toArray, List.set_cons_zero, List.set_cons_succ]
              refine wpAnyH_take (i := 5) (oi := ⟨_, _, _, _, _, _⟩) (v := ?_) rfl (by kernel_rfl) (by kernel_rfl) (by kernel_rfl) (fun _ _ _ h => h) (Or.inl ⟨by rfl, ?_⟩) (by assumption) ?_
              rotate_left
              · intro w hSw
                (try dsimp only at hSw)
                first | (go_simp; done) | (go_simp; with_reducible rfl)
              simp only [Act.put, List.setIfInBounds_toArray, List.set_cons_zero, List.set_cons_succ]
              refine wpAnyH_take (i := 6) (oi := ⟨_, _, _, _, _, _⟩) (v := ?_) rfl (by kernel_rfl) (by kernel_rfl) (by kernel_rfl) (fun _ _ _ h => h) (Or.inl ⟨by rfl, ?_⟩) (by assumption) ?_
              rotate_left
              · intro w hSw
                (try dsimp only at hSw)
                first | (go_simp; done) | (go_simp; with_reducible rfl)
              simp only [Act.put, List.setIfInBounds_toArray, List.set_cons_zero, List.set_cons_succ]
              refine wpAnyH_ready (rs := [7]) (by kernel_rfl) (by simp) ?_
              refine AllReadyH.cons (o := ⟨_, _, _, _, _, _⟩) rfl (fun K hK => ?_) AllReadyH.nil
              go_simp
              refine (Of_any f x.r af cf _ hf (hsf.ext (hs.ext.trans ((Ext.refl wr).alloc _).drew))).mono ?_
              rintro e w6 ⟨rfl, hx6⟩
              refine hK.out _ _ ?_ (fun hS2 => ?_)
              · exact ⟨hx6.get hS.1, hx6.get hS.2⟩
              clear hK K
              (try simp only [Act.put, List.setIfInBounds_toArray, List.set_cons_zero, List.set_cons_succ])
              refine wpAnyH_take (i := 8) (oi := ⟨_, _, _, _, _, _⟩) (v := ?_) rfl (by kernel_rfl) (by kernel_rfl) (by kernel_rfl) (fun _ _ _ h => h) (Or.inl ⟨by rfl, ?_⟩) (by assumption) ?_
              rotate_left
              · intro w hSw
                (try dsimp only at hSw)
                first | (go_simp; done) | (go_simp; with_reducible rfl)
              simp only [Act.put, List.setIfInBounds_toArray, List.set_cons_zero, List.set_cons_succ]
              refine wpAnyH_done (by kernel_rfl) ?_ _
              have hx06 : Ext wr w6 := Ext.trans ((Ext.refl wr).alloc _).drew hx6
              have hs6 := hs.more hx06
              have hk1 : IntKind.i64.wrap ((k : Int) + 1) = (k : Int) + 1 := IntWalk.i64_in _ (by omega)
              by_cases hle : x.t ≤ vOf f x.r
              · have hled : decide (x.t ≤ vOf f x.r) = true := decide_eq_true hle
                have HLE := Lib.hid hle
                go_wp2_with fail
                refine ⟨⟨k + 1, acc, _, by go_num, by omega, by omega, ha60, ?_, hs6⟩, by simp [intOf]; omega⟩
                rw [hstep.out, if_pos HLE.out] at hrec
                exact hrec
              · have hled : decide (x.t ≤ vOf f x.r) = false := decide_eq_false hle
                have u2 := cell_blk hs6.blk (i := 2) (v := .slice va acc.length vc) rfl
                by_cases h60 : acc.length = 60
                · have hB6 := lt_blk hs6.blk
                  have h60' : ((acc.length : Int) == 60) = true := by simp; omega
                  have H60 := Lib.hid h60
                  have HLE := Lib.hid hle
                  clear h60
                  go_wp2_with fail
                  refine (CloneE_any f af cf _ (Nat.lt_of_le_of_lt (vRight_len HB.out) (by decide)) hcf (hsf.ext hs6.ext) hnf).mono ?_
                  rintro e w7 ⟨vg, rfl, hvg, _, hx7⟩
                  obtain ⟨ga, gc, rfl, _, _, _, _⟩ := own_row hvg
                  have hs7 := hs6.more hx7
                  have u1 := cell_blk hs7.blk (i := 1) (v := .slice na L.hav.length nc) rfl
                  have u2' := cell_blk hs7.blk (i := 2) (v := .slice va acc.length vc) rfl
                  have z1 : w7.frozen? ⟨B, 1, none⟩ = false := free_blk hs7.blk
                  have hs8 := hs7.setH (hv' := f) (own_base hvg hs6.ext.size)
                  clear u2
                  go_wp2_with fail
                  go_loopw [65] (fun i wr => ∃ (j : Nat) (hh : List Ent) (vh : Value), i = .int .i64 j ∧ j ≤ acc.length ∧ hh.length ≤ 16 ∧ Hid (joinAll f (acc.take j) = hh) ∧ SinAt w wr B w.heap.size f hh acc (.slice fa f.length fc) vh (.slice va acc.length vc)) (fun i _ => acc.length - (intOf i).toNat)
                  case atStart => exact ⟨0, f, _, rfl, Nat.zero_le _, hf16, Lib.hid rfl, hs8⟩
                  case round =>
                    obtain ⟨j, hh, vh, rfl, hj, hh16, hhe, hsj⟩ := hrel
                    obtain ⟨ja, jc, rfl, hjc, hjrow, _, _⟩ := own_row hsj.oh
                    obtain ⟨va', vc', hva, _, hvr, _, _⟩ := own_row hsj.ow
                    cases hva
                    by_cases hlj : j < acc.length
                    · obtain ⟨y, yb, yo, rfl, hy1', hy2', hyb, g0, g1, g2, g3, g4, g5⟩ := hvr.wrs.at j hlj
                      have hjs := Lib.hid (joinAll_take f acc j hlj)
                      rw [hy2'] at hjs
                      clear hy1' hy2'
                      have u1 := cell_blk hsj.blk (i := 1) (v := .slice ja hh.length jc) rfl
                      have hBj := lt_blk hsj.blk
                      have z1 : wr.frozen? ⟨B, 1, none⟩ = false := free_blk hsj.blk
                      have hj1 : IntKind.i64.wrap ((j : Int) + 1) = (j : Int) + 1 := IntWalk.i64_in _ (by omega)
                      have hxj : Ext wr ((wr.alloc (.cells (wCells1 y).toArray 33)).alloc (.cells #[.int .i64 y.r, .int .i64 y.t] 45)) := ((Ext.refl _).alloc _).alloc _
                      rcases hvj : vJoin hh [⟨y.r, y.t⟩] with kk | ho
                      · have HV := Lib.hid hvj
                        have HJ := Lib.hid (jstep_no hvj)
                        clear hvj
                        go_wp2_with fail
                        refine (Join_any hh [⟨y.r, y.t⟩] ja (some ⟨wr.heap.size + 1, 0, none⟩) jc 1 _ (hg.ext (hsj.ext.trans hxj)) (by omega) (by simp) hjc (by simp) (hjrow.ents.ext hxj) (by exact ents_one (wr.alloc _) (wr.heap.size + 1) _ (by simp))).mono ?_
                        rintro e w11 ⟨hq1, hq2, hx11⟩
                        obtain rfl := hq1 kk HV.out
                        have hs11 := hsj.more (hxj.trans hx11)
                        have u1' := cell_blk hs11.blk (i := 1) (v := .slice ja hh.length jc) rfl
                        have z1' : w11.frozen? ⟨B, 1, none⟩ = false := free_blk hs11.blk
                        go_wp2_with fail
                        refine ⟨⟨j + 1, [], _, by go_num, by omega, by simp, Lib.hid ?_, hs11.setH (hv' := []) (World.ownsRow_nil _ _ _ _)⟩, by simp [intOf]; omega⟩
                        rw [hjs.out, hhe.out, HJ.out]
                      · have HV := Lib.hid hvj
                        have HJ := Lib.hid (jstep_ok hvj)
                        have HL := Lib.hid (show ho.length ≤ 16 by rw [← HJ.out]; exact jstep_len _ _)
                        clear hvj
                        go_wp2_with fail
                        refine (Join_any hh [⟨y.r, y.t⟩] ja (some ⟨wr.heap.size + 1, 0, none⟩) jc 1 _ (hg.ext (hsj.ext.trans hxj)) (by omega) (by simp) hjc (by simp) (hjrow.ents.ext hxj) (by exact ents_one (wr.alloc _) (wr.heap.size + 1) _ (by simp))).mono ?_
                        rintro e w11 ⟨hq1, hq2, hx11⟩
                        obtain ⟨nx, rfl, hnx⟩ := hq2 ho HV.out
                        unfold NewEnts at hnx
                        obtain ⟨xa, xc, rfl, _, _, _, _⟩ := own_row hnx
                        have hs11 := hsj.more (hxj.trans hx11)
                        have u1' := cell_blk hs11.blk (i := 1) (v := .slice ja hh.length jc) rfl
                        have z1' : w11.frozen? ⟨B, 1, none⟩ = false := free_blk hs11.blk
                        have hszj := hsj.ext.size
                        have hszx := hxj.size
                        go_wp2_with fail
                        refine ⟨⟨j + 1, ho, _, by go_num, by omega, HL.out, Lib.hid ?_, hs11.setH (hv' := ho) (own_base hnx (Nat.le_trans hszj hszx))⟩, by simp [intOf]; omega⟩
                        rw [hjs.out, hhe.out, HJ.out]
                    · obtain rfl : j = acc.length := by omega
                      rw [List.take_length] at hhe
                      have u0 := cell_blk hsj.blk (i := 0) (v := .slice fa f.length fc) rfl
                      have u1 := cell_blk hsj.blk (i := 1) (v := .slice ja hh.length jc) rfl
                      have u2 := cell_blk hsj.blk (i := 2) (v := .slice va acc.length vc) rfl
                      have t0 := cell_blk hsj.res (i := 0) (v := .slice none 0 0) rfl
                      have t1 := cell_blk hsj.res (i := 1) (v := .slice none 0 0) rfl
                      have t2 := cell_blk hsj.res (i := 2) (v := .slice none 0 0) rfl
                      have z0 : World.frozen? _ ⟨w.heap.size, 0, none⟩ = false := free_blk hsj.res
                      have z1 : World.frozen? _ ⟨w.heap.size, 1, none⟩ = false := free_blk hsj.res
                      have z2 : World.frozen? _ ⟨w.heap.size, 2, none⟩ = false := free_blk hsj.res
                      go_wp2_with fail
                      refine bodyPost_ret (v := .tuple #[.agg #[.slice fa f.length fc, .slice ja hh.length jc, .slice va acc.length vc], .nilIface]) ?_ rfl ?_
                      · simp [results, Tryz.results23, go_sem, t0, t1, t2, z0, z1, z2]
                      · exact hsj.fin _ _ _ (by rw [hl2.out, ← hrec.out, hstep.out, if_neg (by have := HLE.out; omega), if_pos H60.out, ← hhe.out])
                · have c0 := hx6.get (p := ⟨wr.heap.size, 0, none⟩) (v := .int .i64 x.t) (by simp)
                  have c1 := hx6.get (p := ⟨wr.heap.size, 1, none⟩) (v := .int .i64 x.r) (by simp)
                  have c2 := hx6.get (p := ⟨wr.heap.size, 2, none⟩) (v := .int .i64 x.kind) (by simp)
                  have c3 := hx6.get (p := ⟨wr.heap.size, 3, none⟩) (v := .string x.key) (by simp)
                  have c4 := hx6.get (p := ⟨wr.heap.size, 4, none⟩) (v := .string x.val) (by simp)
                  have c5 := hx6.get (p := ⟨wr.heap.size, 5, none⟩) (v := .int .i64 x.n) (by simp)
                  have h60' : ((acc.length : Int) == 60) = false := by simp; omega
                  have h59 : acc.length < 60 := by omega
                  have hHLE := Lib.hid hle
                  have hH60 := Lib.hid h60
                  have hB6 := lt_blk hs6.blk
                  have hvB : some B ≠ (Value.slice va acc.length vc).ownBlock := fun hh => own_ne hs6.ow hs6.blk (by decide) hh.symm
                  have hsz6 := hs6.ext.size
                  clear hle h60
                  go_wp2_with (at_builtin; refine wpList_append_lies _ rfl _ _ _ rfl w.heap.size 33 i0 _ 6 64 Tryz.underlying23 hi0 hi1 hi2 hi3 rfl (by omega) (.slice va acc.length vc) acc.length (wCells acc) rfl (own_ext hs6.ow ((Ext.refl _).alloc _)) ⟨w6.heap.size, 0, none⟩ 1 1 (wCells1 x) rfl rfl (World.news_of_block (cs := (wCells1 x).toArray) (t := 33) (fr := (0, 0)) (by exact blk_new _ _ _ rfl)) (by simp [wCells1, Value.oneCell']) (by omega) (by unfold maxLen; omega) (by omega) (by simp; omega) (w6.heap.size + 1) (by simp) ?_; intro g cap w9 hown9 hgrow hat hlt9; have s2 := grown_get hgrow (p := ⟨B, 2, none⟩) (v := .slice va acc.length vc) hvB (((Ext.refl _).alloc _).get u2); have s3 := grown_free hgrow (p := ⟨B, 2, none⟩) (by simp; omega) hvB ((((Ext.refl w6).alloc _).frozen (p := ⟨B, 2, none⟩) hB6).trans (free_blk hs6.blk)))
                  refine ⟨⟨k + 1, acc ++ [x], _, by go_num, by omega, by simp; omega, by simp; omega, ?_, (hs6.more ((Ext.refl _).alloc _)).addW hgrow (by simpa [wCells_append, wCells, wCells1] using hown9)⟩, by simp [intOf]; omega⟩
                  rw [hstep.out, if_neg hHLE.out, if_neg hH60.out] at hrec
                  exact hrec
            · have hs' := hs
              have u0 := cell_blk hs.blk (i := 0) (v := .slice fa f.length fc) rfl
              have u1 := cell_blk hs.blk (i := 1) (v := .slice na L.hav.length nc) rfl
              have u2 := cell_blk hs.blk (i := 2) (v := .slice va acc.length vc) rfl
              have t0 := cell_blk hs.res (i := 0) (v := .slice none 0 0) rfl
              have t1 := cell_blk hs.res (i := 1) (v := .slice none 0 0) rfl
              have t2 := cell_blk hs.res (i := 2) (v := .slice none 0 0) rfl
              have z0 : World.frozen? _ ⟨w.heap.size, 0, none⟩ = false := free_blk hs.res
              have z1 : World.frozen? _ ⟨w.heap.size, 1, none⟩ = false := free_blk hs.res
              have z2 : World.frozen? _ ⟨w.heap.size, 2, none⟩ = false := free_blk hs.res
              go_wp2_with fail
              refine bodyPost_ret (v := .tuple #[.agg #[.slice fa f.length fc, .slice na L.hav.length nc, .slice va acc.length vc], .nilIface]) ?_ rfl ?_
              · simp [results, Tryz.results23, go_sem, t0, t1, t2, z0, z1, z2]
              · exact hs.fin _ _ _ (by rw [hl2.out, ← hrec.out, List.drop_eq_nil_of_le (by omega)]; rfl)
        · go_simp
          refine hK.out _ _ ?_ (fun hS3 => ?_)
          · exact ((Ext.refl _).alloc _).get hS2
          clear hK K
          (try simp only [Act.put, List.setIfInBounds_toArray, List.set_cons_zero, List.set_cons_succ])
          have hsz2 := hya.size
          have hsz0 := hy2.size
          have hszr := lt_blk r2
          have hbw2 : b < wa.heap.size := by omega
          refine wpAnyH_ready (rs := [6]) (by kernel_rfl) (by simp) ?_
          refine AllReadyH.cons (o := ⟨_, _, _, _, _, _⟩) rfl (fun K hK => ?_) AllReadyH.nil
          go_simp
          refine (CloneE_any L.hav ha hc _ hhl hhc (hhrow.ents.ext ((hy2.trans hya).alloc _)) hhc0).mono ?_
          rintro e wb ⟨vh, rfl, hvh, _, hxb⟩
          obtain ⟨na, nc, rfl, _, _, _, _⟩ := own_row hvh
          refine hK.out _ _ ?_ (fun hS4 => ?_)
          · exact hxb.get hS3
          clear hK K
          (try simp only [Act.put, List.setIfInBounds_toArray, List.set_cons_zero, List.set_cons_succ])
          have hyb : Ext w2 wb := (hya.alloc _).trans hxb
          have hblk : wb.heap[wa.heap.size]? = some (.cells #[.slice none 0 0, .slice none 0 0, .slice none 0 0] 25 (0, 0)) := (hxb.block _ (by simp)).trans (heap_alloc_new _ _)
          have k0 := cell_blk hblk (i := 0) rfl
          have k1 := cell_blk hblk (i := 1) rfl
          have k2 := cell_blk hblk (i := 2) rfl
          have z0 : wb.frozen? ⟨wa.heap.size, 0, none⟩ = false := free_blk hblk
          have z1 : wb.frozen? ⟨wa.heap.size, 1, none⟩ = false := free_blk hblk
          have z2 : wb.frozen? ⟨wa.heap.size, 2, none⟩ = false := free_blk hblk

          refine wpAnyH_take (i := 7) (oi := ⟨_, _, _, _, _, _⟩) (v := ?_) rfl (by kernel_rfl) (by kernel_rfl) (by kernel_rfl) (fun _ _ _ h => h) (Or.inl ⟨by rfl, ?_⟩) (by assumption) ?_
          rotate_left
          · intro w hSw
            (try dsimp only at hSw)
            first | (go_simp; done) | (go_simp; with_reducible rfl)
          simp only [Act.put, List.setIfInBounds_toArray, List.set_cons_zero, List.set_cons_succ]
          refine wpAnyH_ready (rs := [9]) (by kernel_rfl) (by simp) ?_
          refine AllReadyH.cons (o := ⟨_, _, _, _, _, _⟩) rfl (fun K hK => ?_) AllReadyH.nil
          go_simp
          refine hK.out _ _ ?_ (fun hS9 => ?_)
          · exact set_get (a := ⟨wa.heap.size, 2, none⟩) (by show b ≠ wa.heap.size; omega) (set_get (a := ⟨wa.heap.size, 1, none⟩) (by show b ≠ wa.heap.size; omega) (set_get (a := ⟨wa.heap.size, 0, none⟩) (by show b ≠ wa.heap.size; omega) hS4))
          clear hK K
          (try simp only [Act.put, List.setIfInBounds_toArray, List.set_cons_zero, List.set_cons_succ])
          refine wpAnyH_done (by kernel_rfl) ?_ _
          obtain ⟨W, hW⟩ : ∃ W, W = (((wb.setCell ⟨wa.heap.size, 0, none⟩ (.slice fa f.length fc)).setCell ⟨wa.heap.size, 1, none⟩ (.slice na L.hav.length nc)).setCell ⟨wa.heap.size, 2, none⟩ (.slice none 0 0)) := ⟨_, rfl⟩
          rw [← hW]
          have hs0 : SinAt w W wa.heap.size w.heap.size f L.hav [] (.slice fa f.length fc) (.slice na L.hav.length nc) (.slice none 0 0) := by
            rw [hW]
            exact sin_start (hy2.trans hyb) (by omega) (by omega) (by omega) ((hxb.block _ (by simp)).trans (heap_alloc_new _ _)) ((hyb.block _ hszr).trans r2) (own_ext (own_base hvf (by simpa using hsz0)) (((Ext.refl wa).alloc _).trans hxb)) (own_base hvh (by simp; omega))
          clear hW
          obtain ⟨B, hBe⟩ : ∃ B, B = wa.heap.size := ⟨_, rfl⟩
          rw [← hBe] at hs0 ⊢
          clear hBe

          have p2 := hs0.ext.get q2
          obtain ⟨i0, hi0, hi1, hi2, hi3⟩ := info_parts info_Wr
          go_wp2_with fail
          go_loopw [42] (fun i wr => ∃ (k : Nat) (acc : List Wr) (vw : Value), i = .int .i64 k ∧ k ≤ L.wrs.length ∧ acc.length ≤ k ∧ acc.length ≤ 60 ∧ Hid (sinGo f L.hav (L.wrs.drop k) acc = sinGo f L.hav L.wrs []) ∧ SinAt w wr B w.heap.size f L.hav acc (.slice fa f.length fc) (.slice na L.hav.length nc) vw) (fun i _ => L.wrs.length - (intOf i).toNat)
          case atStart => exact ⟨0, [], _, rfl, Nat.zero_le _, by simp, by simp, Lib.hid rfl, hs0⟩
          case round =>
            obtain ⟨k, acc, vw, rfl, hk, hak, ha60, hrec, hs⟩ := hrel
            obtain ⟨va, vc, rfl, hvc, hvrow, hvnil, hvb⟩ := own_row hs.ow
            by_cases hlt : k < L.wrs.length
            · obtain ⟨x, xb, xo, rfl, hx1', hx2', hxb', d0, d1, d2, d3, d4, d5⟩ := (hwrow.wrs.ext hs.ext).at k hlt
              have hstep := Lib.hid (sinGo_drop f L.hav L.wrs acc k hlt)
              rw [hx2'] at hstep
              clear hx1' hx2'
              go_wp2_with fail
              refine wp_region_held_drew (S := fun w' => w'.cell? ⟨wr.heap.size, 0, none⟩ = some (.int .i64 x.t) ∧ w'.cell? ⟨wr.heap.size, 1, none⟩ = some (.int .i64 x.r)) (by kernel_rfl) ⟨by simp, by simp⟩ (fun hS => ?_)
              refine wpAnyH_take (i := 0) (oi := ⟨_, _, _, _, _, _⟩) (v := ?_) rfl (by kernel_rfl) (by kernel_rfl) (by kernel_rfl) (fun _ _ _ h => h) (Or.inl ⟨by rfl, ?_⟩) (by assumption) ?_
              rotate_left
              · intro w hSw
                (try dsimp only at hSw)
                first | (go_simp; done) | (go_simp; with_reducible rfl)
              simp only [Act.put, List.setIfInBounds_toArray, List.set_cons_zero, List.set_cons_succ]
              refine wpAnyH_take (i := 1) (oi := ⟨_, _, _, _, _, _⟩) (v := ?_) rfl (by kernel_rfl) (by kernel_rfl) (by kernel_rfl) (fun _ _ _ h => h) (Or.inl ⟨by rfl, ?_⟩) (by assumption) ?_
              rotate_left
              · intro w hSw
                (try dsimp only at hSw)
                first | (go_simp; done) | (go_simp; with_reducible rfl)
              simp only [Act.put, List.setIfInBounds_toArray, List.set_cons_zero, List.set_cons_succ]
              refine wpAnyH_take (i := 2) (oi := ⟨_, _, _, _, _, _⟩) (v := ?_) rfl (by kernel_rfl) (by kernel_rfl) (by kernel_rfl) (fun _ _ _ h => h) (Or.inl ⟨by rfl, ?_⟩) (by assumption) ?_
              rotate_left
              · intro w hSw
                (try dsimp only at hSw)
                first | (go_simp; done) | (go_simp; with_reducible rfl)
              simp only [Act.put, List.setIfInBounds_toArray, List.set_cons_zero, List.set_cons_succ]
              refine wpAnyH_take (i := 3) (oi := ⟨_, _, _, _, _, _⟩) (v := ?_) rfl (by kernel_rfl) (by kernel_rfl) (by kernel_rfl) (fun _ _ _ h => h) (Or.inl ⟨by rfl, ?_⟩) (by assumption) ?_
              rotate_left
              · intro w hSw
                (try dsimp only at hSw)
                first | (go_simp; done) | (go_simp; with_reducible rfl)
              simp only [Act.put, List.setIfInBounds_toArray, List.set_cons_zero, List.set_cons_succ]
              refine wpAnyH_take (i := 4) (oi := ⟨_, _, _, _, _, _⟩) (v := ?_) rfl (by kernel_rfl) (by kernel_rfl) (by kernel_rfl) (fun _ _ _ h => h) (Or.inl ⟨by rfl, ?_⟩) (by assumption) ?_
              rotate_left
              · intro w hSw
                (try dsimp only at hSw)
                first | (go_simp; done) | (go_simp; with_reducible rfl)
              simp only [Act.put, List.setIfInBounds_toArray, List.set_cons_zero, List.set_cons_succ]
              refine wpAnyH_take (i := 5) (oi := ⟨_, _, _, _, _, _⟩) (v := ?_) rfl (by kernel_rfl) (by kernel_rfl) (by kernel_rfl) (fun _ _ _ h => h) (Or.inl ⟨by rfl, ?_⟩) (by assumption) ?_
              rotate_left
              · intro w hSw
                (try dsimp only at hSw)
                first | (go_simp; done) | (go_simp; with_reducible rfl)
              simp only [Act.put, List.setIfInBounds_toArray, List.set_cons_zero, List.set_cons_succ]
              refine wpAnyH_take (i := 6) (oi := ⟨_, _, _, _, _, _⟩) (v := ?_) rfl (by kernel_rfl) (by kernel_rfl) (by kernel_rfl) (fun _ _ _ h => h) (Or.inl ⟨by rfl, ?_⟩) (by assumption) ?_
              rotate_left
              · intro w hSw
                (try dsimp only at hSw)
                first | (go_simp; done) | (go_simp; with_reducible rfl)
              simp only [Act.put, List.setIfInBounds_toArray, List.set_cons_zero, List.set_cons_succ]
              refine wpAnyH_ready (rs := [7]) (by kernel_rfl) (by simp) ?_
              refine AllReadyH.cons (o := ⟨_, _, _, _, _, _⟩) rfl (fun K hK => ?_) AllReadyH.nil
              go_simp
              refine (Of_any f x.r af cf _ hf (hsf.ext (hs.ext.trans ((Ext.refl wr).alloc _).drew))).mono ?_
              rintro e w6 ⟨rfl, hx6⟩
              refine hK.out _ _ ?_ (fun hS2 => ?_)
              · exact ⟨hx6.get hS.1, hx6.get hS.2⟩
              clear hK K
              (try simp only [Act.put, List.setIfInBounds_toArray, List.set_cons_zero, List.set_cons_succ])
              refine wpAnyH_take (i := 8) (oi := ⟨_, _, _, _, _, _⟩) (v := ?_) rfl (by kernel_rfl) (by kernel_rfl) (by kernel_rfl) (fun _ _ _ h => h) (Or.inl ⟨by rfl, ?_⟩) (by assumption) ?_
              rotate_left
              · intro w hSw
                (try dsimp only at hSw)
                first | (go_simp; done) | (go_simp; with_reducible rfl)
              simp only [Act.put, List.setIfInBounds_toArray, List.set_cons_zero, List.set_cons_succ]
              refine wpAnyH_done (by kernel_rfl) ?_ _
              have hx06 : Ext wr w6 := Ext.trans ((Ext.refl wr).alloc _).drew hx6
              have hs6 := hs.more hx06
              have hk1 : IntKind.i64.wrap ((k : Int) + 1) = (k : Int) + 1 := IntWalk.i64_in _ (by omega)
              by_cases hle : x.t ≤ vOf f x.r
              · have hled : decide (x.t ≤ vOf f x.r) = true := decide_eq_true hle
                have HLE := Lib.hid hle
                go_wp2_with fail
                refine ⟨⟨k + 1, acc, _, by go_num, by omega, by omega, ha60, ?_, hs6⟩, by simp [intOf]; omega⟩
                rw [hstep.out, if_pos HLE.out] at hrec
                exact hrec
              · have hled : decide (x.t ≤ vOf f x.r) = false := decide_eq_false hle
                have u2 := cell_blk hs6.blk (i := 2) (v := .slice va acc.length vc) rfl
                by_cases h60 : acc.length = 60
                · have hB6 := lt_blk hs6.blk
                  have h60' : ((acc.length : Int) == 60) = true := by simp; omega
                  have H60 := Lib.hid h60
                  have HLE := Lib.hid hle
                  clear h60
                  go_wp2_with fail
                  refine (CloneE_any f af cf _ (Nat.lt_of_le_of_lt (vRight_len HB.out) (by decide)) hcf (hsf.ext hs6.ext) hnf).mono ?_
                  rintro e w7 ⟨vg, rfl, hvg, _, hx7⟩
                  obtain ⟨ga, gc, rfl, _, _, _, _⟩ := own_row hvg
                  have hs7 := hs6.more hx7
                  have u1 := cell_blk hs7.blk (i := 1) (v := .slice na L.hav.length nc) rfl
                  have u2' := cell_blk hs7.blk (i := 2) (v := .slice va acc.length vc) rfl
                  have z1 : w7.frozen? ⟨B, 1, none⟩ = false := free_blk hs7.blk
                  have hs8 := hs7.setH (hv' := f) (own_base hvg hs6.ext.size)
                  clear u2
                  go_wp2_with fail
                  go_loopw [65] (fun i wr => ∃ (j : Nat) (hh : List Ent) (vh : Value), i = .int .i64 j ∧ j ≤ acc.length ∧ hh.length ≤ 16 ∧ Hid (joinAll f (acc.take j) = hh) ∧ SinAt w wr B w.heap.size f hh acc (.slice fa f.length fc) vh (.slice va acc.length vc)) (fun i _ => acc.length - (intOf i).toNat)
                  case atStart => exact ⟨0, f, _, rfl, Nat.zero_le _, hf16, Lib.hid rfl, hs8⟩
                  case round =>
                    obtain ⟨j, hh, vh, rfl, hj, hh16, hhe, hsj⟩ := hrel
                    obtain ⟨ja, jc, rfl, hjc, hjrow, _, _⟩ := own_row hsj.oh
                    obtain ⟨va', vc', hva, _, hvr, _, _⟩ := own_row hsj.ow
                    cases hva
                    by_cases hlj : j < acc.length
                    · obtain ⟨y, yb, yo, rfl, hy1', hy2', hyb, g0, g1, g2, g3, g4, g5⟩ := hvr.wrs.at j hlj
                      have hjs := Lib.hid (joinAll_take f acc j hlj)
                      rw [hy2'] at hjs
                      clear hy1' hy2'
                      have u1 := cell_blk hsj.blk (i := 1) (v := .slice ja hh.length jc) rfl
                      have hBj := lt_blk hsj.blk
                      have z1 : wr.frozen? ⟨B, 1, none⟩ = false := free_blk hsj.blk
                      have hj1 : IntKind.i64.wrap ((j : Int) + 1) = (j : Int) + 1 := IntWalk.i64_in _ (by omega)
                      have hxj : Ext wr ((wr.alloc (.cells (wCells1 y).toArray 33)).alloc (.cells #[.int .i64 y.r, .int .i64 y.t] 45)) := ((Ext.refl _).alloc _).alloc _
                      rcases hvj : vJoin hh [⟨y.r, y.t⟩] with kk | ho
                      · have HV := Lib.hid hvj
                        have HJ := Lib.hid (jstep_no hvj)
                        clear hvj
                        go_wp2_with fail
                        refine (Join_any hh [⟨y.r, y.t⟩] ja (some ⟨wr.heap.size + 1, 0, none⟩) jc 1 _ (hg.ext (hsj.ext.trans hxj)) (by omega) (by simp) hjc (by simp) (hjrow.ents.ext hxj) (by exact ents_one (wr.alloc _) (wr.heap.size + 1) _ (by simp))).mono ?_
                        rintro e w11 ⟨hq1, hq2, hx11⟩
                        obtain rfl := hq1 kk HV.out
                        have hs11 := hsj.more (hxj.trans hx11)
                        have u1' := cell_blk hs11.blk (i := 1) (v := .slice ja hh.length jc) rfl
                        have z1' : w11.frozen? ⟨B, 1, none⟩ = false := free_blk hs11.blk
                        go_wp2_with fail
                        refine ⟨⟨j + 1, [], _, by go_num, by omega, by simp, Lib.hid ?_, hs11.setH (hv' := []) (World.ownsRow_nil _ _ _ _)⟩, by simp [intOf]; omega⟩
                        rw [hjs.out, hhe.out, HJ.out]
                      · have HV := Lib.hid hvj
                        have HJ := Lib.hid (jstep_ok hvj)
                        have HL := Lib.hid (show ho.length ≤ 16 by rw [← HJ.out]; exact jstep_len _ _)
                        clear hvj
                        go_wp2_with fail
                        refine (Join_any hh [⟨y.r, y.t⟩] ja (some ⟨wr.heap.size + 1, 0, none⟩) jc 1 _ (hg.ext (hsj.ext.trans hxj)) (by omega) (by simp) hjc (by simp) (hjrow.ents.ext hxj) (by exact ents_one (wr.alloc _) (wr.heap.size + 1) _ (by simp))).mono ?_
                        rintro e w11 ⟨hq1, hq2, hx11⟩
                        obtain ⟨nx, rfl, hnx⟩ := hq2 ho HV.out
                        unfold NewEnts at hnx
                        obtain ⟨xa, xc, rfl, _, _, _, _⟩ := own_row hnx
                        have hs11 := hsj.more (hxj.trans hx11)
                        have u1' := cell_blk hs11.blk (i := 1) (v := .slice ja hh.length jc) rfl
                        have z1' : w11.frozen? ⟨B, 1, none⟩ = false := free_blk hs11.blk
                        have hszj := hsj.ext.size
                        have hszx := hxj.size
                        go_wp2_with fail
                        refine ⟨⟨j + 1, ho, _, by go_num, by omega, HL.out, Lib.hid ?_, hs11.setH (hv' := ho) (own_base hnx (Nat.le_trans hszj hszx))⟩, by simp [intOf]; omega⟩
                        rw [hjs.out, hhe.out, HJ.out]
                    · obtain rfl : j = acc.length := by omega
                      rw [List.take_length] at hhe
                      have u0 := cell_blk hsj.blk (i := 0) (v := .slice fa f.length fc) rfl
                      have u1 := cell_blk hsj.blk (i := 1) (v := .slice ja hh.length jc) rfl
                      have u2 := cell_blk hsj.blk (i := 2) (v := .slice va acc.length vc) rfl
                      have t0 := cell_blk hsj.res (i := 0) (v := .slice none 0 0) rfl
                      have t1 := cell_blk hsj.res (i := 1) (v := .slice none 0 0) rfl
                      have t2 := cell_blk hsj.res (i := 2) (v := .slice none 0 0) rfl
                      have z0 : World.frozen? _ ⟨w.heap.size, 0, none⟩ = false := free_blk hsj.res
                      have z1 : World.frozen? _ ⟨w.heap.size, 1, none⟩ = false := free_blk hsj.res
                      have z2 : World.frozen? _ ⟨w.heap.size, 2, none⟩ = false := free_blk hsj.res
                      go_wp2_with fail
                      refine bodyPost_ret (v := .tuple #[.agg #[.slice fa f.length fc, .slice ja hh.length jc, .slice va acc.length vc], .nilIface]) ?_ rfl ?_
                      · simp [results, Tryz.results23, go_sem, t0, t1, t2, z0, z1, z2]
                      · exact hsj.fin _ _ _ (by rw [hl2.out, ← hrec.out, hstep.out, if_neg (by have := HLE.out; omega), if_pos H60.out, ← hhe.out])
                · have c0 := hx6.get (p := ⟨wr.heap.size, 0, none⟩) (v := .int .i64 x.t) (by simp)
                  have c1 := hx6.get (p := ⟨wr.heap.size, 1, none⟩) (v := .int .i64 x.r) (by simp)
                  have c2 := hx6.get (p := ⟨wr.heap.size, 2, none⟩) (v := .int .i64 x.kind) (by simp)
                  have c3 := hx6.get (p := ⟨wr.heap.size, 3, none⟩) (v := .string x.key) (by simp)
                  have c4 := hx6.get (p := ⟨wr.heap.size, 4, none⟩) (v := .string x.val) (by simp)
                  have c5 := hx6.get (p := ⟨wr.heap.size, 5, none⟩) (v := .int .i64 x.n) (by simp)
                  have h60' : ((acc.length : Int) == 60) = false := by simp; omega
                  have h59 : acc.length < 60 := by omega
                  have hHLE := Lib.hid hle
                  have hH60 := Lib.hid h60
                  have hB6 := lt_blk hs6.blk
                  have hvB : some B ≠ (Value.slice va acc.length vc).ownBlock := fun hh => own_ne hs6.ow hs6.blk (by decide) hh.symm
                  have hsz6 := hs6.ext.size
                  clear hle h60
                  go_wp2_with (at_builtin; refine wpList_append_lies _ rfl _ _ _ rfl w.heap.size 33 i0 _ 6 64 Tryz.underlying23 hi0 hi1 hi2 hi3 rfl (by omega) (.slice va acc.length vc) acc.length (wCells acc) rfl (own_ext hs6.ow ((Ext.refl _).alloc _)) ⟨w6.heap.size, 0, none⟩ 1 1 (wCells1 x) rfl rfl (World.news_of_block (cs := (wCells1 x).toArray) (t := 33) (fr := (0, 0)) (by exact blk_new _ _ _ rfl)) (by simp [wCells1, Value.oneCell']) (by omega) (by unfold maxLen; omega) (by omega) (by simp; omega) (w6.heap.size + 1) (by simp) ?_; intro g cap w9 hown9 hgrow hat hlt9; have s2 := grown_get hgrow (p := ⟨B, 2, none⟩) (v := .slice va acc.length vc) hvB (((Ext.refl _).alloc _).get u2); have s3 := grown_free hgrow (p := ⟨B, 2, none⟩) (by simp; omega) hvB ((((Ext.refl w6).alloc _).frozen (p := ⟨B, 2, none⟩) hB6).trans (free_blk hs6.blk)))
                  refine ⟨⟨k + 1, acc ++ [x], _, by go_num, by omega, by simp; omega, by simp; omega, ?_, (hs6.more ((Ext.refl _).alloc _)).addW hgrow (by simpa [wCells_append, wCells, wCells1] using hown9)⟩, by simp [intOf]; omega⟩
                  rw [hstep.out, if_neg hHLE.out, if_neg hH60.out] at hrec
                  exact hrec
            · have hs' := hs
              have u0 := cell_blk hs.blk (i := 0) (v := .slice fa f.length fc) rfl
              have u1 := cell_blk hs.blk (i := 1) (v := .slice na L.hav.length nc) rfl
              have u2 := cell_blk hs.blk (i := 2) (v := .slice va acc.length vc) rfl
              have t0 := cell_blk hs.res (i := 0) (v := .slice none 0 0) rfl
              have t1 := cell_blk hs.res (i := 1) (v := .slice none 0 0) rfl
              have t2 := cell_blk hs.res (i := 2) (v := .slice none 0 0) rfl
              have z0 : World.frozen? _ ⟨w.heap.size, 0, none⟩ = false := free_blk hs.res
              have z1 : World.frozen? _ ⟨w.heap.size, 1, none⟩ = false := free_blk hs.res
              have z2 : World.frozen? _ ⟨w.heap.size, 2, none⟩ = false := free_blk hs.res
              go_wp2_with fail
              refine bodyPost_ret (v := .tuple #[.agg #[.slice fa f.length fc, .slice na L.hav.length nc, .slice va acc.length vc], .nilIface]) ?_ rfl ?_
              · simp [results, Tryz.results23, go_sem, t0, t1, t2, z0, z1, z2]
              · exact hs.fin _ _ _ (by rw [hl2.out, ← hrec.out, List.drop_eq_nil_of_le (by omega)]; rfl)
      · go_simp
        refine hK.out _ _ ?_ (fun hS2 => ?_)
        · exact ((Ext.refl _).alloc _).get hS
        clear hK K
        (try simp only [Act.put, List.setIfInBounds_toArray, List.set_cons_zero, List.set_cons_succ])
        have hsz0 := hy2.size
        have hszr := lt_blk r2
        have hbw2 : b < w2.heap.size := by omega
        refine wpAnyH_ready (rs := [1]) (by kernel_rfl) (by simp) ?_
        refine AllReadyH.cons (o := ⟨_, _, _, _, _, _⟩) rfl (fun K hK => ?_) AllReadyH.nil
        go_simp
        refine (CloneE_any f af cf _ (Nat.lt_of_le_of_lt (vRight_len HB.out) (by decide)) hcf (hsf.ext ((hy2.alloc _).drew)) hnf).mono ?_
        rintro e wa ⟨vf, rfl, hvf, _, hxa⟩
        obtain ⟨fa, fc, rfl, _, _, _, _⟩ := own_row hvf
        refine hK.out _ _ ?_ (fun hS3 => ?_)
        · exact hxa.get hS2
        clear hK K
        (try simp only [Act.put, List.setIfInBounds_toArray, List.set_cons_zero, List.set_cons_succ])
        refine wpAnyH_ready (rs := [6]) (by kernel_rfl) (by simp) ?_
        refine AllReadyH.cons (o := ⟨_, _, _, _, _, _⟩) rfl (fun K hK => ?_) AllReadyH.nil
        go_simp
        refine (CloneE_any L.hav ha hc _ hhl hhc (hhrow.ents.ext (((hy2.alloc _).drew).trans hxa)) hhc0).mono ?_
        rintro e wb ⟨vh, rfl, hvh, _, hxb⟩
        obtain ⟨na, nc, rfl, _, _, _, _⟩ := own_row hvh
        refine hK.out _ _ ?_ (fun hS4 => ?_)
        · exact hxb.get hS3
        clear hK K
        (try simp only [Act.put, List.setIfInBounds_toArray, List.set_cons_zero, List.set_cons_succ])
        have hya : Ext w2 wa := Ext.trans (((Ext.refl w2).alloc _).drew) hxa
        have hyb : Ext w2 wb := hya.trans hxb
        have hblk : wb.heap[w2.heap.size]? = some (.cells #[.slice none 0 0, .slice none 0 0, .slice none 0 0] 25 (0, 0)) := (hxb.block _ (by have := hxa.size; simp at this; omega)).trans ((hxa.block _ (by simp)).trans (heap_alloc_new _ _))
        have k0 := cell_blk hblk (i := 0) rfl
        have k1 := cell_blk hblk (i := 1) rfl
        have k2 := cell_blk hblk (i := 2) rfl
        have z0 : wb.frozen? ⟨w2.heap.size, 0, none⟩ = false := free_blk hblk
        have z1 : wb.frozen? ⟨w2.heap.size, 1, none⟩ = false := free_blk hblk
        have z2 : wb.frozen? ⟨w2.heap.size, 2, none⟩ = false := free_blk hblk

        refine wpAnyH_take (i := 7) (oi := ⟨_, _, _, _, _, _⟩) (v := ?_) rfl (by kernel_rfl) (by kernel_rfl) (by kernel_rfl) (fun _ _ _ h => h) (Or.inl ⟨by rfl, ?_⟩) (by assumption) ?_
        rotate_left
        · intro w hSw
          (try dsimp only at hSw)
          first | (go_simp; done) | (go_simp; with_reducible rfl)
        simp only [Act.put, List.setIfInBounds_toArray, List.set_cons_zero, List.set_cons_succ]
        refine wpAnyH_ready (rs := [9]) (by kernel_rfl) (by simp) ?_
        refine AllReadyH.cons (o := ⟨_, _, _, _, _, _⟩) rfl (fun K hK => ?_) AllReadyH.nil
        go_simp
        refine hK.out _ _ ?_ (fun hS9 => ?_)
        · exact set_get (a := ⟨w2.heap.size, 2, none⟩) (by show b ≠ w2.heap.size; omega) (set_get (a := ⟨w2.heap.size, 1, none⟩) (by show b ≠ w2.heap.size; omega) (set_get (a := ⟨w2.heap.size, 0, none⟩) (by show b ≠ w2.heap.size; omega) hS4))
        clear hK K
        (try simp only [Act.put, List.setIfInBounds_toArray, List.set_cons_zero, List.set_cons_succ])
        refine wpAnyH_done (by kernel_rfl) ?_ _
        obtain ⟨W, hW⟩ : ∃ W, W = (((wb.setCell ⟨w2.heap.size, 0, none⟩ (.slice fa f.length fc)).setCell ⟨w2.heap.size, 1, none⟩ (.slice na L.hav.length nc)).setCell ⟨w2.heap.size, 2, none⟩ (.slice none 0 0)) := ⟨_, rfl⟩
        rw [← hW]
        have hs0 : SinAt w W w2.heap.size w.heap.size f L.hav [] (.slice fa f.length fc) (.slice na L.hav.length nc) (.slice none 0 0) := by
          rw [hW]
          exact sin_start (hy2.trans hyb) (by omega) (by omega) (by omega) ((hxb.block _ (by have := hxa.size; simp at this; omega)).trans ((hxa.block _ (by simp)).trans (heap_alloc_new _ _))) ((hyb.block _ hszr).trans r2) (own_ext (own_base hvf (by simp; omega)) hxb) (own_base hvh (by have := hya.size; omega))
        clear hW
        obtain ⟨B, hBe⟩ : ∃ B, B = w2.heap.size := ⟨_, rfl⟩
        rw [← hBe] at hs0 ⊢
        clear hBe

        have p2 := hs0.ext.get q2
        obtain ⟨i0, hi0, hi1, hi2, hi3⟩ := info_parts info_Wr
        go_wp2_with fail
        go_loopw [42] (fun i wr => ∃ (k : Nat) (acc : List Wr) (vw : Value), i = .int .i64 k ∧ k ≤ L.wrs.length ∧ acc.length ≤ k ∧ acc.length ≤ 60 ∧ Hid (sinGo f L.hav (L.wrs.drop k) acc = sinGo f L.hav L.wrs []) ∧ SinAt w wr B w.heap.size f L.hav acc (.slice fa f.length fc) (.slice na L.hav.length nc) vw) (fun i _ => L.wrs.length - (intOf i).toNat)
        case atStart => exact ⟨0, [], _, rfl, Nat.zero_le _, by simp, by simp, Lib.hid rfl, hs0⟩
        case round =>
          obtain ⟨k, acc, vw, rfl, hk, hak, ha60, hrec, hs⟩ := hrel
          obtain ⟨va, vc, rfl, hvc, hvrow, hvnil, hvb⟩ := own_row hs.ow
          by_cases hlt : k < L.wrs.length
          · obtain ⟨x, xb, xo, rfl, hx1', hx2', hxb', d0, d1, d2, d3, d4, d5⟩ := (hwrow.wrs.ext hs.ext).at k hlt
            have hstep := Lib.hid (sinGo_drop f L.hav L.wrs acc k hlt)
            rw [hx2'] at hstep
            clear hx1' hx2'
            go_wp2_with fail
            refine wp_region_held_drew (S := fun w' => w'.cell? ⟨wr.heap.size, 0, none⟩ = some (.int .i64 x.t) ∧ w'.cell? ⟨wr.heap.size, 1, none⟩ = some (.int .i64 x.r)) (by kernel_rfl) ⟨by simp, by simp⟩ (fun hS => ?_)
            refine wpAnyH_take (i := 0) (oi := ⟨_, _, _, _, _, _⟩) (v := ?_) rfl (by kernel_rfl) (by kernel_rfl) (by kernel_rfl) (fun _ _ _ h => h) (Or.inl ⟨by rfl, ?_⟩) (by assumption) ?_
            rotate_left
            · intro w hSw
              (try dsimp only at hSw)
              first | (go_simp; done) | (go_simp; with_reducible rfl)
            simp only [Act.put, List.setIfInBounds_toArray, List.set_cons_zero, List.set_cons_succ]
            refine wpAnyH_take (i := 1) (oi := ⟨_, _, _, _, _, _⟩) (v := ?_) rfl (by kernel_rfl) (by kernel_rfl) (by kernel_rfl) (fun _ _ _ h => h) (Or.inl ⟨by rfl, ?_⟩) (by assumption) ?_
            rotate_left
            · intro w hSw
              (try dsimp only at hSw)
              first | (go_simp; done) | (go_simp; with_reducible rfl)
            simp only [Act.put, List.setIfInBounds_toArray, List.set_cons_zero, List.set_cons_succ]
            refine wpAnyH_take (i := 2) (oi := ⟨_, _, _, _, _, _⟩) (v := ?_) rfl (by kernel_rfl) (by kernel_rfl) (by kernel_rfl) (fun _ _ _ h => h) (Or.inl ⟨by rfl, ?_⟩) (by assumption) ?_
            rotate_left
            · intro w hSw
              (try dsimp only at hSw)
              first | (go_simp; done) | (go_simp; with_reducible rfl)
            simp only [Act.put, List.setIfInBounds_toArray, List.set_cons_zero, List.set_cons_succ]
            refine wpAnyH_take (i := 3) (oi := ⟨_, _, _, _, _, _⟩) (v := ?_) rfl (by kernel_rfl) (by kernel_rfl) (by kernel_rfl) (fun _ _ _ h => h) (Or.inl ⟨by rfl, ?_⟩) (by assumption) ?_
            rotate_left
            · intro w hSw
              (try dsimp only at hSw)
              first | (go_simp; done) | (go_simp; with_reducible rfl)
            simp only [Act.put, List.setIfInBounds_toArray, List.set_cons_zero, List.set_cons_succ]
            refine wpAnyH_take (i := 4) (oi := ⟨_, _, _, _, _, _⟩) (v := ?_) rfl (by kernel_rfl) (by kernel_rfl) (by kernel_rfl) (fun _ _ _ h => h) (Or.inl ⟨by rfl, ?_⟩) (by assumption) ?_
            rotate_left
            · intro w hSw
              (try dsimp only at hSw)
              first | (go_simp; done) | (go_simp; with_reducible rfl)
            simp only [Act.put, List.setIfInBounds_toArray, List.set_cons_zero, List.set_cons_succ]
            refine wpAnyH_take (i := 5) (oi := ⟨_, _, _, _, _, _⟩) (v := ?_) rfl (by kernel_rfl) (by kernel_rfl) (by kernel_rfl) (fun _ _ _ h => h) (Or.inl ⟨by rfl, ?_⟩) (by assumption) ?_
            rotate_left
            · intro w hSw
              (try dsimp only at hSw)
              first | (go_simp; done) | (go_simp; with_reducible rfl)
            simp only [Act.put, List.setIfInBounds_toArray, List.set_cons_zero, List.set_cons_succ]
            refine wpAnyH_take (i := 6) (oi := ⟨_, _, _, _, _, _⟩) (v := ?_) rfl (by kernel_rfl) (by kernel_rfl) (by kernel_rfl) (fun _ _ _ h => h) (Or.inl ⟨by rfl, ?_⟩) (by assumption) ?_
            rotate_left
            · intro w hSw
              (try dsimp only at hSw)
              first | (go_simp; done) | (go_simp; with_reducible rfl)
            simp only [Act.put, List.setIfInBounds_toArray, List.set_cons_zero, List.set_cons_succ]
            refine wpAnyH_ready (rs := [7]) (by kernel_rfl) (by simp) ?_
            refine AllReadyH.cons (o := ⟨_, _, _, _, _, _⟩) rfl (fun K hK => ?_) AllReadyH.nil
            go_simp
            refine (Of_any f x.r af cf _ hf (hsf.ext (hs.ext.trans ((Ext.refl wr).alloc _).drew))).mono ?_
            rintro e w6 ⟨rfl, hx6⟩
            refine hK.out _ _ ?_ (fun hS2 => ?_)
            · exact ⟨hx6.get hS.1, hx6.get hS.2⟩
            clear hK K
            (try simp only [Act.put, List.setIfInBounds_toArray, List.set_cons_zero, List.set_cons_succ])
            refine wpAnyH_take (i := 8) (oi := ⟨_, _, _, _, _, _⟩) (v := ?_) rfl (by kernel_rfl) (by kernel_rfl) (by kernel_rfl) (fun _ _ _ h => h) (Or.inl ⟨by rfl, ?_⟩) (by assumption) ?_
            rotate_left
            · intro w hSw
              (try dsimp only at hSw)
              first | (go_simp; done) | (go_simp; with_reducible rfl)
            simp only [Act.put, List.setIfInBounds_toArray, List.set_cons_zero, List.set_cons_succ]
            refine wpAnyH_done (by kernel_rfl) ?_ _
            have hx06 : Ext wr w6 := Ext.trans ((Ext.refl wr).alloc _).drew hx6
            have hs6 := hs.more hx06
            have hk1 : IntKind.i64.wrap ((k : Int) + 1) = (k : Int) + 1 := IntWalk.i64_in _ (by omega)
            by_cases hle : x.t ≤ vOf f x.r
            · have hled : decide (x.t ≤ vOf f x.r) = true := decide_eq_true hle
              have HLE := Lib.hid hle
              go_wp2_with fail
              refine ⟨⟨k + 1, acc, _, by go_num, by omega, by omega, ha60, ?_, hs6⟩, by simp [intOf]; omega⟩
              rw [hstep.out, if_pos HLE.out] at hrec
              exact hrec
            · have hled : decide (x.t ≤ vOf f x.r) = false := decide_eq_false hle
              have u2 := cell_blk hs6.blk (i := 2) (v := .slice va acc.length vc) rfl
              by_cases h60 : acc.length = 60
              · have hB6 := lt_blk hs6.blk
                have h60' : ((acc.length : Int) == 60) = true := by simp; omega
                have H60 := Lib.hid h60
                have HLE := Lib.hid hle
                clear h60
                go_wp2_with fail
                refine (CloneE_any f af cf _ (Nat.lt_of_le_of_lt (vRight_len HB.out) (by decide)) hcf (hsf.ext hs6.ext) hnf).mono ?_
                rintro e w7 ⟨vg, rfl, hvg, _, hx7⟩
                obtain ⟨ga, gc, rfl, _, _, _, _⟩ := own_row hvg
                have hs7 := hs6.more hx7
                have u1 := cell_blk hs7.blk (i := 1) (v := .slice na L.hav.length nc) rfl
                have u2' := cell_blk hs7.blk (i := 2) (v := .slice va acc.length vc) rfl
                have z1 : w7.frozen? ⟨B, 1, none⟩ = false := free_blk hs7.blk
                have hs8 := hs7.setH (hv' := f) (own_base hvg hs6.ext.size)
                clear u2
                go_wp2_with fail
                go_loopw [65] (fun i wr => ∃ (j : Nat) (hh : List Ent) (vh : Value), i = .int .i64 j ∧ j ≤ acc.length ∧ hh.length ≤ 16 ∧ Hid (joinAll f (acc.take j) = hh) ∧ SinAt w wr B w.heap.size f hh acc (.slice fa f.length fc) vh (.slice va acc.length vc)) (fun i _ => acc.length - (intOf i).toNat)
                case atStart => exact ⟨0, f, _, rfl, Nat.zero_le _, hf16, Lib.hid rfl, hs8⟩
                case round =>
                  obtain ⟨j, hh, vh, rfl, hj, hh16, hhe, hsj⟩ := hrel
                  obtain ⟨ja, jc, rfl, hjc, hjrow, _, _⟩ := own_row hsj.oh
                  obtain ⟨va', vc', hva, _, hvr, _, _⟩ := own_row hsj.ow
                  cases hva
                  by_cases hlj : j < acc.length
                  · obtain ⟨y, yb, yo, rfl, hy1', hy2', hyb, g0, g1, g2, g3, g4, g5⟩ := hvr.wrs.at j hlj
                    have hjs := Lib.hid (joinAll_take f acc j hlj)
                    rw [hy2'] at hjs
                    clear hy1' hy2'
                    have u1 := cell_blk hsj.blk (i := 1) (v := .slice ja hh.length jc) rfl
                    have hBj := lt_blk hsj.blk
                    have z1 : wr.frozen? ⟨B, 1, none⟩ = false := free_blk hsj.blk
                    have hj1 : IntKind.i64.wrap ((j : Int) + 1) = (j : Int) + 1 := IntWalk.i64_in _ (by omega)
                    have hxj : Ext wr ((wr.alloc (.cells (wCells1 y).toArray 33)).alloc (.cells #[.int .i64 y.r, .int .i64 y.t] 45)) := ((Ext.refl _).alloc _).alloc _
                    rcases hvj : vJoin hh [⟨y.r, y.t⟩] with kk | ho
                    · have HV := Lib.hid hvj
                      have HJ := Lib.hid (jstep_no hvj)
                      clear hvj
                      go_wp2_with fail
                      refine (Join_any hh [⟨y.r, y.t⟩] ja (some ⟨wr.heap.size + 1, 0, none⟩) jc 1 _ (hg.ext (hsj.ext.trans hxj)) (by omega) (by simp) hjc (by simp) (hjrow.ents.ext hxj) (by exact ents_one (wr.alloc _) (wr.heap.size + 1) _ (by simp))).mono ?_
                      rintro e w11 ⟨hq1, hq2, hx11⟩
                      obtain rfl := hq1 kk HV.out
                      have hs11 := hsj.more (hxj.trans hx11)
                      have u1' := cell_blk hs11.blk (i := 1) (v := .slice ja hh.length jc) rfl
                      have z1' : w11.frozen? ⟨B, 1, none⟩ = false := free_blk hs11.blk
                      go_wp2_with fail
                      refine ⟨⟨j + 1, [], _, by go_num, by omega, by simp, Lib.hid ?_, hs11.setH (hv' := []) (World.ownsRow_nil _ _ _ _)⟩, by simp [intOf]; omega⟩
                      rw [hjs.out, hhe.out, HJ.out]
                    · have HV := Lib.hid hvj
                      have HJ := Lib.hid (jstep_ok hvj)
                      have HL := Lib.hid (show ho.length ≤ 16 by rw [← HJ.out]; exact jstep_len _ _)
                      clear hvj
                      go_wp2_with fail
                      refine (Join_any hh [⟨y.r, y.t⟩] ja (some ⟨wr.heap.size + 1, 0, none⟩) jc 1 _ (hg.ext (hsj.ext.trans hxj)) (by omega) (by simp) hjc (by simp) (hjrow.ents.ext hxj) (by exact ents_one (wr.alloc _) (wr.heap.size + 1) _ (by simp))).mono ?_
                      rintro e w11 ⟨hq1, hq2, hx11⟩
                      obtain ⟨nx, rfl, hnx⟩ := hq2 ho HV.out
                      unfold NewEnts at hnx
                      obtain ⟨xa, xc, rfl, _, _, _, _⟩ := own_row hnx
                      have hs11 := hsj.more (hxj.trans hx11)
                      have u1' := cell_blk hs11.blk (i := 1) (v := .slice ja hh.length jc) rfl
                      have z1' : w11.frozen? ⟨B, 1, none⟩ = false := free_blk hs11.blk
                      have hszj := hsj.ext.size
                      have hszx := hxj.size
                      go_wp2_with fail
                      refine ⟨⟨j + 1, ho, _, by go_num, by omega, HL.out, Lib.hid ?_, hs11.setH (hv' := ho) (own_base hnx (Nat.le_trans hszj hszx))⟩, by simp [intOf]; omega⟩
                      rw [hjs.out, hhe.out, HJ.out]
                  · obtain rfl : j = acc.length := by omega
                    rw [List.take_length] at hhe
                    have u0 := cell_blk hsj.blk (i := 0) (v := .slice fa f.length fc) rfl
                    have u1 := cell_blk hsj.blk (i := 1) (v := .slice ja hh.length jc) rfl
                    have u2 := cell_blk hsj.blk (i := 2) (v := .slice va acc.length vc) rfl
                    have t0 := cell_blk hsj.res (i := 0) (v := .slice none 0 0) rfl
                    have t1 := cell_blk hsj.res (i := 1) (v := .slice none 0 0) rfl
                    have t2 := cell_blk hsj.res (i := 2) (v := .slice none 0 0) rfl
                    have z0 : World.frozen? _ ⟨w.heap.size, 0, none⟩ = false := free_blk hsj.res
                    have z1 : World.frozen? _ ⟨w.heap.size, 1, none⟩ = false := free_blk hsj.res
                    have z2 : World.frozen? _ ⟨w.heap.size, 2, none⟩ = false := free_blk hsj.res
                    go_wp2_with fail
                    refine bodyPost_ret (v := .tuple #[.agg #[.slice fa f.length fc, .slice ja hh.length jc, .slice va acc.length vc], .nilIface]) ?_ rfl ?_
                    · simp [results, Tryz.results23, go_sem, t0, t1, t2, z0, z1, z2]
                    · exact hsj.fin _ _ _ (by rw [hl2.out, ← hrec.out, hstep.out, if_neg (by have := HLE.out; omega), if_pos H60.out, ← hhe.out])
              · have c0 := hx6.get (p := ⟨wr.heap.size, 0, none⟩) (v := .int .i64 x.t) (by simp)
                have c1 := hx6.get (p := ⟨wr.heap.size, 1, none⟩) (v := .int .i64 x.r) (by simp)
                have c2 := hx6.get (p := ⟨wr.heap.size, 2, none⟩) (v := .int .i64 x.kind) (by simp)
                have c3 := hx6.get (p := ⟨wr.heap.size, 3, none⟩) (v := .string x.key) (by simp)
                have c4 := hx6.get (p := ⟨wr.heap.size, 4, none⟩) (v := .string x.val) (by simp)
                have c5 := hx6.get (p := ⟨wr.heap.size, 5, none⟩) (v := .int .i64 x.n) (by simp)
                have h60' : ((acc.length : Int) == 60) = false := by simp; omega
                have h59 : acc.length < 60 := by omega
                have hHLE := Lib.hid hle
                have hH60 := Lib.hid h60
                have hB6 := lt_blk hs6.blk
                have hvB : some B ≠ (Value.slice va acc.length vc).ownBlock := fun hh => own_ne hs6.ow hs6.blk (by decide) hh.symm
                have hsz6 := hs6.ext.size
                clear hle h60
                go_wp2_with (at_builtin; refine wpList_append_lies _ rfl _ _ _ rfl w.heap.size 33 i0 _ 6 64 Tryz.underlying23 hi0 hi1 hi2 hi3 rfl (by omega) (.slice va acc.length vc) acc.length (wCells acc) rfl (own_ext hs6.ow ((Ext.refl _).alloc _)) ⟨w6.heap.size, 0, none⟩ 1 1 (wCells1 x) rfl rfl (World.news_of_block (cs := (wCells1 x).toArray) (t := 33) (fr := (0, 0)) (by exact blk_new _ _ _ rfl)) (by simp [wCells1, Value.oneCell']) (by omega) (by unfold maxLen; omega) (by omega) (by simp; omega) (w6.heap.size + 1) (by simp) ?_; intro g cap w9 hown9 hgrow hat hlt9; have s2 := grown_get hgrow (p := ⟨B, 2, none⟩) (v := .slice va acc.length vc) hvB (((Ext.refl _).alloc _).get u2); have s3 := grown_free hgrow (p := ⟨B, 2, none⟩) (by simp; omega) hvB ((((Ext.refl w6).alloc _).frozen (p := ⟨B, 2, none⟩) hB6).trans (free_blk hs6.blk)))
                refine ⟨⟨k + 1, acc ++ [x], _, by go_num, by omega, by simp; omega, by simp; omega, ?_, (hs6.more ((Ext.refl _).alloc _)).addW hgrow (by simpa [wCells_append, wCells, wCells1] using hown9)⟩, by simp [intOf]; omega⟩
                rw [hstep.out, if_neg hHLE.out, if_neg hH60.out] at hrec
                exact hrec
          · have hs' := hs
            have u0 := cell_blk hs.blk (i := 0) (v := .slice fa f.length fc) rfl
            have u1 := cell_blk hs.blk (i := 1) (v := .slice na L.hav.length nc) rfl
            have u2 := cell_blk hs.blk (i := 2) (v := .slice va acc.length vc) rfl
            have t0 := cell_blk hs.res (i := 0) (v := .slice none 0 0) rfl
            have t1 := cell_blk hs.res (i := 1) (v := .slice none 0 0) rfl
            have t2 := cell_blk hs.res (i := 2) (v := .slice none 0 0) rfl
            have z0 : World.frozen? _ ⟨w.heap.size, 0, none⟩ = false := free_blk hs.res
            have z1 : World.frozen? _ ⟨w.heap.size, 1, none⟩ = false := free_blk hs.res
            have z2 : World.frozen? _ ⟨w.heap.size, 2, none⟩ = false := free_blk hs.res
            go_wp2_with fail
            refine bodyPost_ret (v := .tuple #[.agg #[.slice fa f.length fc, .slice na L.hav.length nc, .slice va acc.length vc], .nilIface]) ?_ rfl ?_
            · simp [results, Tryz.results23, go_sem, t0, t1, t2, z0, z1, z2]
            · exact hs.fin _ _ _ (by rw [hl2.out, ← hrec.out, List.drop_eq_nil_of_le (by omega)]; rfl)
  · obtain ⟨t5, y5, rfl⟩ := he1.iface hvr
    have HW := Lib.hid (show logSince L f = .inl (vRight f).tell by rw [logSince, if_pos hvr])
    clear hvr
    go_wp2_with fail
    refine (Tell_any _ _ _ he1 (hg.ext hy1)).mono ?_
    rintro e w2 ⟨rfl, hx2⟩
    have hx2' : Ext w1 w2 := hx2
    have hy2 := hy1.trans hx2'
    have r2 : w2.heap[w.heap.size]? = some (.cells #[.slice none 0 0, .slice none 0 0, .slice none 0 0] 25 (0, 0)) := (hx2'.block _ (lt_blk r0)).trans r0
    have c0 := cell_blk r2 (i := 0) rfl
    have c1 := cell_blk r2 (i := 1) rfl
    have c2 := cell_blk r2 (i := 2) rfl
    have f0 : w2.frozen? ⟨w.heap.size, 0, none⟩ = false := free_blk r2
    have f1 : w2.frozen? ⟨w.heap.size, 1, none⟩ = false := free_blk r2
    have f2 : w2.frozen? ⟨w.heap.size, 2, none⟩ = false := free_blk r2
    go_wp2_with fail
    refine bodyPost_ret (v := .tuple #[.agg #[.slice none 0 0, .slice none 0 0, .slice none 0 0], .iface 50 (.int .i64 (vRight f).tell)]) ?_ rfl ?_
    · simp [results, Tryz.results23, go_sem, c0, c1, c2, f0, f1, f2]
    · exact SincePost.err HW.out rfl (Ext.set (Ext.set (Ext.set hy2 (by simp) _) (by simp) _) (by simp) _)

end Go.Proofs.YtbahalckcenfmaaGreatDoor
