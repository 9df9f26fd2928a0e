/-
  The contract of (*log.Log).Accept.
-/
import Derived.Test.YtbahalckcenfmaaGreatDoorAccS
namespace Go.Proofs.YtbahalckcenfmaaGreatDoor
open Go.RowKit
set_option linter.unusedSimpArgs false
set_option linter.unusedVariables false

theorem bRight_len {f h : List Ent} {ws : List Wr} (hb : bRight f h ws = .nil) : ws.length ≤ 60 ∧ vRight f = .nil ∧ vRight h = .nil := by
  unfold bRight at hb
  split at hb
  · cases hb
  split at hb
  · cases hb
  split at hb
  · cases hb
  split at hb
  · cases hb
  rename_i h1 h2 h3 h4
  exact ⟨by omega, by simpa using h1, by simpa using h2⟩

def AccPost (b : Nat) (L : LogS) (f h : List Ent) (ws : List Wr) (w : World) (e : Ending) (w' : World) : Prop :=
  (∀ er, logAccept L f h ws = .inl er → er ≠ .nil ∧ Ext w w' ∧ ∃ v, e = .returned (.tuple #[.int .i64 0, v]) ∧ IsEr w' v er) ∧
  (∀ m L', logAccept L f h ws = .inr (m, L') → e = .returned (.tuple #[.int .i64 m, .nilIface]) ∧ Chg (fun k => k = b) w w' ∧
    ∃ hv' wv', LogAt w' b hv' wv' L' ∧ (∀ k, hv'.ownBlock = some k → w.heap.size ≤ k) ∧ (∀ k, wv'.ownBlock = some k → w.heap.size ≤ k))
theorem AccPost.err {b : Nat} {L : LogS} {f hh : List Ent} {ws : List Wr} {w w' : World} {e : Ending} {er : Er} {v : Value} (h : logAccept L f hh ws = .inl er) (hn : er ≠ .nil) (he : e = .returned (.tuple #[.int .i64 0, v])) (hv : IsEr w' v er) (hx : Ext w w') : AccPost b L f hh ws w e w' :=
  ⟨fun er' h' => by rw [h] at h'; cases h'; exact ⟨hn, hx, v, he, hv⟩, fun m L' h' => by rw [h] at h'; cases h'⟩
theorem AccPost.ok {b m : Nat} {L L' : LogS} {f hh : List Ent} {ws : List Wr} {w w' : World} {e : Ending} (h : logAccept L f hh ws = .inr (m, L')) (he : e = .returned (.tuple #[.int .i64 m, .nilIface]))
    (hx : Chg (fun k => k = b) w w' ∧ ∃ hv' wv', LogAt w' b hv' wv' L' ∧ (∀ k, hv'.ownBlock = some k → w.heap.size ≤ k) ∧ (∀ k, wv'.ownBlock = some k → w.heap.size ≤ k)) : AccPost b L f hh ws w e w' :=
  ⟨fun er' h' => (by rw [h] at h'; cases h'), fun m' L'' h' => by rw [h] at h'; cases h'; exact ⟨he, hx⟩⟩

theorem acc_fin {w wr : World} {b base base' : Nat} {hv wv nh nx : Value} {L : LogS} {hh : List Ent} {l : List Wr}
    (h : LogAt w b hv wv L) (hx : Ext w wr) (hn : wr.ownsRow base 45 2 nh hh.length (eCells hh)) (hw : wr.ownsRow base' 33 6 nx l.length (wCells l)) (hb : w.heap.size ≤ base) (hb' : w.heap.size ≤ base') :
    Chg (fun k => k = b) w ((wr.setCell ⟨b, 1, none⟩ nh).setCell ⟨b, 2, none⟩ nx) ∧ ∃ hv' wv', LogAt ((wr.setCell ⟨b, 1, none⟩ nh).setCell ⟨b, 2, none⟩ nx) b hv' wv' ⟨L.rep, hh, l⟩ ∧
      (∀ k, hv'.ownBlock = some k → w.heap.size ≤ k) ∧ (∀ k, wv'.ownBlock = some k → w.heap.size ≤ k) := by
  have hbl := lt_blk h.blk
  have hbr : wr.heap[b]? = some (.cells #[.int .i64 L.rep, hv, wv] 68 (0, 0)) := by rw [hx.block b hbl]; exact h.blk
  have hnb : nh.ownBlock ≠ some b := own_ne hn hbr (by decide)
  have hwb : nx.ownBlock ≠ some b := own_ne hw hbr (by decide)
  have hb1 : (wr.setCell ⟨b, 1, none⟩ nh).heap[b]? = some (.cells #[.int .i64 L.rep, nh, wv] 68 (0, 0)) := by simpa using set_blk hbr (i := 1) nh
  have hb2 : ((wr.setCell ⟨b, 1, none⟩ nh).setCell ⟨b, 2, none⟩ nx).heap[b]? = some (.cells #[.int .i64 L.rep, nh, nx] 68 (0, 0)) := by simpa using set_blk hb1 (i := 2) nx
  refine ⟨((hx.chg (fun k => k = b)).set (a := ⟨b, 1, none⟩) (.inl rfl) _).set (a := ⟨b, 2, none⟩) (.inl rfl) _, nh, nx, ⟨hb2, own_set (own_set (own_base hn (Nat.zero_le _)) hnb _) hnb _, own_set (own_set (own_base hw (Nat.zero_le _)) hwb _) hwb _⟩, fun k hk => ?_, fun k hk => ?_⟩
  · exact Nat.le_trans hb (own_ge hn k hk)
  · exact Nat.le_trans hb' (own_ge hw k hk)

set_option maxRecDepth 100000 in
set_option maxHeartbeats 8000000 in
theorem Accept_any (b : Nat) (hv wv : Value) (L : LogS) (f h : List Ent) (ws : List Wr) (af ah aw : Option Addr) (cf ch cw : Nat) (w : World) (hg : Good w)
    (hLog : LogAt w b hv wv L) (hhl : L.hav.length < 1000000) (hwl : L.wrs.length ≤ 1000) (hsrt : Srt L.wrs)
    (hf : f.length < 9223372036854775808) (hh : h.length < 9223372036854775808) (hw : ws.length < 9223372036854775808) (hcf : f.length ≤ cf) (hch : h.length ≤ ch)
    (hsf : EntsAt w af f) (hsh : EntsAt w ah h) (hsw : WrsAt w aw ws) (hfit : ∀ x ∈ ws, wFits x) :
    Calls Tryz.prog 13 #[.pointer (some ⟨b, 0, none⟩), .agg #[.slice af f.length cf, .slice ah h.length ch, .slice aw ws.length cw]] w (AccPost b L f h ws w) := by
  have q1 : w.cell? ⟨b, 1, none⟩ = some hv := cell_blk hLog.blk rfl
  have q2 : w.cell? ⟨b, 2, none⟩ = some wv := cell_blk hLog.blk rfl
  have hbl := lt_blk hLog.blk
  obtain ⟨ha, hc, rfl, hhc, hhrow, hhnil, _⟩ := own_row hLog.hown
  obtain ⟨wa, wc, rfl, hwc, hwrow, hwnil, _⟩ := own_row hLog.wown
  go_enter Tryz.func13, Tryz.ntmps13
  go_wp2_with fail
  refine (BRight_any f h ws af ah aw cf ch cw _ (hg.ext ((Ext.refl _).alloc _)) hf hh hw (hsf.ext ((Ext.refl _).alloc _)) (hsh.ext ((Ext.refl _).alloc _)) (hsw.ext ((Ext.refl _).alloc _)) hfit).mono ?_
  rintro e w1 ⟨v1, rfl, he1, hx1⟩
  have hy1 : Ext w w1 := Ext.trans ((Ext.refl _).alloc _) hx1
  have b0 := hx1.get (p := ⟨w.heap.size, 0, none⟩) (v := .slice af f.length cf) (by simp)
  have b1 := hx1.get (p := ⟨w.heap.size, 1, none⟩) (v := .slice ah h.length ch) (by simp)
  have b2 := hx1.get (p := ⟨w.heap.size, 2, none⟩) (v := .slice aw ws.length cw) (by simp)
  have p1 := hy1.get q1
  have p2 := hy1.get q2
  by_cases hbr : bRight f h ws = .nil
  · have HB := Lib.hid hbr
    rw [hbr] at he1
    obtain rfl : v1 = _ := he1
    have hl1 := Lib.hid (show logAccept L f h ws = if vCovers L.hav f = false then .inl (.no 10) else accJoin L ws (vJoin L.hav h) by rw [logAccept, if_neg (by rw [hbr]; simp)])
    clear hbr
    go_wp2_with fail
    refine wp_region_held_drew (S := fun w' => w'.cell? ⟨b, 1, none⟩ = some (.slice ha L.hav.length hc) ∧ w'.cell? ⟨w.heap.size, 0, none⟩ = some (.slice af f.length cf)) (by kernel_rfl) ⟨p1, b0⟩ (fun hS => ?_)
    refine wpAnyH_take (i := 0) (oi := ⟨_, _, _, _, _, _⟩) (v := ?_) rfl (by kernel_rfl) (by kernel_rfl) (by kernel_rfl) (fun _ _ _ h => h) (Or.inl ⟨by rfl, ?_⟩) (by assumption) ?_
    rotate_left
    · intro w hSw
      (try dsimp only at hSw)
      first | (go_simp; done) | (go_simp; with_reducible rfl)
    simp only [Act.put, List.setIfInBounds_toArray, List.set_cons_zero, List.set_cons_succ]
    refine wpAnyH_take (i := 1) (oi := ⟨_, _, _, _, _, _⟩) (v := ?_) rfl (by kernel_rfl) (by kernel_rfl) (by kernel_rfl) (fun _ _ _ h => h) (Or.inl ⟨by rfl, ?_⟩) (by assumption) ?_
    rotate_left
    · intro w hSw
      (try dsimp only at hSw)
      first | (go_simp; done) | (go_simp; with_reducible rfl)
    simp only [Act.put, List.setIfInBounds_toArray, List.set_cons_zero, List.set_cons_succ]
    refine wpAnyH_take (i := 2) (oi := ⟨_, _, _, _, _, _⟩) (v := ?_) rfl (by kernel_rfl) (by kernel_rfl) (by kernel_rfl) (fun _ _ _ h => h) (Or.inl ⟨by rfl, ?_⟩) (by assumption) ?_
    rotate_left
    · intro w hSw
      (try dsimp only at hSw)
      first | (go_simp; done) | (go_simp; with_reducible rfl)
    simp only [Act.put, List.setIfInBounds_toArray, List.set_cons_zero, List.set_cons_succ]
    refine wpAnyH_take (i := 3) (oi := ⟨_, _, _, _, _, _⟩) (v := ?_) rfl (by kernel_rfl) (by kernel_rfl) (by kernel_rfl) (fun _ _ _ h => h) (Or.inl ⟨by rfl, ?_⟩) (by assumption) ?_
    rotate_left
    · intro w hSw
      (try dsimp only at hSw)
      first | (go_simp; done) | (go_simp; with_reducible rfl)
    simp only [Act.put, List.setIfInBounds_toArray, List.set_cons_zero, List.set_cons_succ]
    refine wpAnyH_take (i := 4) (oi := ⟨_, _, _, _, _, _⟩) (v := ?_) rfl (by kernel_rfl) (by kernel_rfl) (by kernel_rfl) (fun _ _ _ h => h) (Or.inl ⟨by rfl, ?_⟩) (by assumption) ?_
    rotate_left
    · intro w hSw
      (try dsimp only at hSw)
      first | (go_simp; done) | (go_simp; with_reducible rfl)
    simp only [Act.put, List.setIfInBounds_toArray, List.set_cons_zero, List.set_cons_succ]
    refine wpAnyH_take (i := 5) (oi := ⟨_, _, _, _, _, _⟩) (v := ?_) rfl (by kernel_rfl) (by kernel_rfl) (by kernel_rfl) (fun _ _ _ h => h) (Or.inl ⟨by rfl, ?_⟩) (by assumption) ?_
    rotate_left
    · intro w hSw
      (try dsimp only at hSw)
      first | (go_simp; done) | (go_simp; with_reducible rfl)
    simp only [Act.put, List.setIfInBounds_toArray, List.set_cons_zero, List.set_cons_succ]
    refine wpAnyH_ready (rs := [6]) (by kernel_rfl) (by simp) ?_
    refine AllReadyH.cons (o := ⟨_, _, _, _, _, _⟩) rfl (fun K hK => ?_) AllReadyH.nil
    go_simp
    refine (Covers_any L.hav f ha af hc cf _ (Nat.lt_trans hhl (by decide)) hf (hhrow.ents.ext hy1.drew) (hsf.ext hy1.drew)).mono ?_
    rintro e w2 ⟨rfl, hx2⟩
    refine hK.out _ _ ?_ (fun hS2 => ?_)
    · exact ⟨hx2.get hS.1, hx2.get hS.2⟩
    clear hK K
    (try simp only [Act.put, List.setIfInBounds_toArray, List.set_cons_zero, List.set_cons_succ])
    refine wpAnyH_take (i := 7) (oi := ⟨_, _, _, _, _, _⟩) (v := ?_) rfl (by kernel_rfl) (by kernel_rfl) (by kernel_rfl) (fun _ _ _ h => h) (Or.inl ⟨by rfl, ?_⟩) (by assumption) ?_
    rotate_left
    · intro w hSw
      (try dsimp only at hSw)
      first | (go_simp; done) | (go_simp; with_reducible rfl)
    simp only [Act.put, List.setIfInBounds_toArray, List.set_cons_zero, List.set_cons_succ]
    refine wpAnyH_done (by kernel_rfl) ?_ _
    rcases hcv : vCovers L.hav f with _ | _
    · have hl2 := Lib.hid (show logAccept L f h ws = .inl (.no 10) by rw [hl1.out, if_pos hcv])
      have HC := Lib.hid hcv
      go_wp2_with fail
      go_ret2
      exact AccPost.err hl2.out (by simp) rfl rfl (hy1.trans (Ext.trans (Ext.refl w1).drew hx2))
    · have hl2 := Lib.hid (show logAccept L f h ws = accJoin L ws (vJoin L.hav h) by rw [hl1.out, if_neg (by simp [hcv])])
      have HC := Lib.hid hcv
      clear hcv
      have hy2 : Ext w w2 := hy1.trans (Ext.trans (Ext.refl w1).drew hx2)
      have b1' := (Ext.trans (Ext.refl w1).drew hx2).get b1
      have b2' := (Ext.trans (Ext.refl w1).drew hx2).get b2
      have p1' := hy2.get q1
      have p2' := hy2.get q2
      clear b0 b1 b2 p1 p2
      go_wp2_with fail
      rcases hvj : vJoin L.hav h with kk | hvn
      · have HV := Lib.hid hvj
        have hl3 := Lib.hid (show logAccept L f h ws = .inl (.no kk) by rw [hl2.out, hvj]; rfl)
        clear hvj
        refine wp_region_held_drew (S := fun w' => w'.cell? ⟨b, 1, none⟩ = some (.slice ha L.hav.length hc) ∧ w'.cell? ⟨w.heap.size, 1, none⟩ = some (.slice ah h.length ch)) (by kernel_rfl) ⟨p1', b1'⟩ (fun hS => ?_)
        refine wpAnyH_take (i := 0) (oi := ⟨_, _, _, _, _, _⟩) (v := ?_) rfl (by kernel_rfl) (by kernel_rfl) (by kernel_rfl) (fun _ _ _ h => h) (Or.inl ⟨by rfl, ?_⟩) (by assumption) ?_
        rotate_left
        · intro w hSw
          (try dsimp only at hSw)
          first | (go_simp; done) | (go_simp; with_reducible rfl)
        simp only [Act.put, List.setIfInBounds_toArray, List.set_cons_zero, List.set_cons_succ]
        refine wpAnyH_take (i := 1) (oi := ⟨_, _, _, _, _, _⟩) (v := ?_) rfl (by kernel_rfl) (by kernel_rfl) (by kernel_rfl) (fun _ _ _ h => h) (Or.inl ⟨by rfl, ?_⟩) (by assumption) ?_
        rotate_left
        · intro w hSw
          (try dsimp only at hSw)
          first | (go_simp; done) | (go_simp; with_reducible rfl)
        simp only [Act.put, List.setIfInBounds_toArray, List.set_cons_zero, List.set_cons_succ]
        refine wpAnyH_take (i := 2) (oi := ⟨_, _, _, _, _, _⟩) (v := ?_) rfl (by kernel_rfl) (by kernel_rfl) (by kernel_rfl) (fun _ _ _ h => h) (Or.inl ⟨by rfl, ?_⟩) (by assumption) ?_
        rotate_left
        · intro w hSw
          (try dsimp only at hSw)
          first | (go_simp; done) | (go_simp; with_reducible rfl)
        simp only [Act.put, List.setIfInBounds_toArray, List.set_cons_zero, List.set_cons_succ]
        refine wpAnyH_take (i := 3) (oi := ⟨_, _, _, _, _, _⟩) (v := ?_) rfl (by kernel_rfl) (by kernel_rfl) (by kernel_rfl) (fun _ _ _ h => h) (Or.inl ⟨by rfl, ?_⟩) (by assumption) ?_
        rotate_left
        · intro w hSw
          (try dsimp only at hSw)
          first | (go_simp; done) | (go_simp; with_reducible rfl)
        simp only [Act.put, List.setIfInBounds_toArray, List.set_cons_zero, List.set_cons_succ]
        refine wpAnyH_take (i := 4) (oi := ⟨_, _, _, _, _, _⟩) (v := ?_) rfl (by kernel_rfl) (by kernel_rfl) (by kernel_rfl) (fun _ _ _ h => h) (Or.inl ⟨by rfl, ?_⟩) (by assumption) ?_
        rotate_left
        · intro w hSw
          (try dsimp only at hSw)
          first | (go_simp; done) | (go_simp; with_reducible rfl)
        simp only [Act.put, List.setIfInBounds_toArray, List.set_cons_zero, List.set_cons_succ]
        refine wpAnyH_take (i := 5) (oi := ⟨_, _, _, _, _, _⟩) (v := ?_) rfl (by kernel_rfl) (by kernel_rfl) (by kernel_rfl) (fun _ _ _ h => h) (Or.inl ⟨by rfl, ?_⟩) (by assumption) ?_
        rotate_left
        · intro w hSw
          (try dsimp only at hSw)
          first | (go_simp; done) | (go_simp; with_reducible rfl)
        simp only [Act.put, List.setIfInBounds_toArray, List.set_cons_zero, List.set_cons_succ]
        refine wpAnyH_ready (rs := [6]) (by kernel_rfl) (by simp) ?_
        refine AllReadyH.cons (o := ⟨_, _, _, _, _, _⟩) rfl (fun K hK => ?_) AllReadyH.nil
        go_simp
        refine (Join_any L.hav h ha ah hc ch _ (hg.ext hy2.drew) (Nat.lt_trans hhl (by decide)) hh hhc hch (hhrow.ents.ext hy2.drew) (hsh.ext hy2.drew)).mono ?_
        rintro e w3 ⟨hj1, hj2, hx3⟩
        obtain rfl := hj1 kk HV.out
        refine hK.out _ _ ?_ (fun hS2 => ?_)
        · exact ⟨hx3.get hS.1, hx3.get hS.2⟩
        clear hK K
        (try simp only [Act.put, List.setIfInBounds_toArray, List.set_cons_zero, List.set_cons_succ])
        refine wpAnyH_take (i := 7) (oi := ⟨_, _, _, _, _, _⟩) (v := ?_) rfl (by kernel_rfl) (by kernel_rfl) (by kernel_rfl) (fun _ _ _ h => h) (Or.inl ⟨by rfl, ?_⟩) (by assumption) ?_
        rotate_left
        · intro w hSw
          (try dsimp only at hSw)
          first | (go_simp; done) | (go_simp; with_reducible rfl)
        simp only [Act.put, List.setIfInBounds_toArray, List.set_cons_zero, List.set_cons_succ]
        refine wpAnyH_take (i := 8) (oi := ⟨_, _, _, _, _, _⟩) (v := ?_) rfl (by kernel_rfl) (by kernel_rfl) (by kernel_rfl) (fun _ _ _ h => h) (Or.inl ⟨by rfl, ?_⟩) (by assumption) ?_
        rotate_left
        · intro w hSw
          (try dsimp only at hSw)
          first | (go_simp; done) | (go_simp; with_reducible rfl)
        simp only [Act.put, List.setIfInBounds_toArray, List.set_cons_zero, List.set_cons_succ]
        refine wpAnyH_take (i := 9) (oi := ⟨_, _, _, _, _, _⟩) (v := ?_) rfl (by kernel_rfl) (by kernel_rfl) (by kernel_rfl) (fun _ _ _ h => h) (Or.inl ⟨by rfl, ?_⟩) (by assumption) ?_
        rotate_left
        · intro w hSw
          (try dsimp only at hSw)
          first | (go_simp; done) | (go_simp; with_reducible rfl)
        simp only [Act.put, List.setIfInBounds_toArray, List.set_cons_zero, List.set_cons_succ]
        refine wpAnyH_take (i := 10) (oi := ⟨_, _, _, _, _, _⟩) (v := ?_) rfl (by kernel_rfl) (by kernel_rfl) (by kernel_rfl) (fun _ _ _ h => h) (Or.inl ⟨by rfl, ?_⟩) (by assumption) ?_
        rotate_left
        · intro w hSw
          (try dsimp only at hSw)
          first | (go_simp; done) | (go_simp; with_reducible rfl)
        simp only [Act.put, List.setIfInBounds_toArray, List.set_cons_zero, List.set_cons_succ]
        refine wpAnyH_take (i := 11) (oi := ⟨_, _, _, _, _, _⟩) (v := ?_) rfl (by kernel_rfl) (by kernel_rfl) (by kernel_rfl) (fun _ _ _ h => h) (Or.inl ⟨by rfl, ?_⟩) (by assumption) ?_
        rotate_left
        · intro w hSw
          (try dsimp only at hSw)
          first | (go_simp; done) | (go_simp; with_reducible rfl)
        simp only [Act.put, List.setIfInBounds_toArray, List.set_cons_zero, List.set_cons_succ]
        refine wpAnyH_done (by kernel_rfl) ?_ _
        go_wp2_with fail
        go_ret2
        exact AccPost.err hl3.out (by simp) rfl rfl (hy2.trans (Ext.trans (Ext.refl w2).drew hx3))
      · have HV := Lib.hid hvj
        have hl3 := Lib.hid (show logAccept L f h ws = accFin L.rep hvn (accGo 0 ws L.wrs 0) by rw [hl2.out, hvj]; rfl)
        clear hvj
        refine wp_region_held_drew (S := fun w' => w'.cell? ⟨b, 1, none⟩ = some (.slice ha L.hav.length hc) ∧ w'.cell? ⟨w.heap.size, 1, none⟩ = some (.slice ah h.length ch)) (by kernel_rfl) ⟨p1', b1'⟩ (fun hS => ?_)
        refine wpAnyH_take (i := 0) (oi := ⟨_, _, _, _, _, _⟩) (v := ?_) rfl (by kernel_rfl) (by kernel_rfl) (by kernel_rfl) (fun _ _ _ h => h) (Or.inl ⟨by rfl, ?_⟩) (by assumption) ?_
        rotate_left
        · intro w hSw
          (try dsimp only at hSw)
          first | (go_simp; done) | (go_simp; with_reducible rfl)
        simp only [Act.put, List.setIfInBounds_toArray, List.set_cons_zero, List.set_cons_succ]
        refine wpAnyH_take (i := 1) (oi := ⟨_, _, _, _, _, _⟩) (v := ?_) rfl (by kernel_rfl) (by kernel_rfl) (by kernel_rfl) (fun _ _ _ h => h) (Or.inl ⟨by rfl, ?_⟩) (by assumption) ?_
        rotate_left
        · intro w hSw
          (try dsimp only at hSw)
          first | (go_simp; done) | (go_simp; with_reducible rfl)
        simp only [Act.put, List.setIfInBounds_toArray, List.set_cons_zero, List.set_cons_succ]
        refine wpAnyH_take (i := 2) (oi := ⟨_, _, _, _, _, _⟩) (v := ?_) rfl (by kernel_rfl) (by kernel_rfl) (by kernel_rfl) (fun _ _ _ h => h) (Or.inl ⟨by rfl, ?_⟩) (by assumption) ?_
        rotate_left
        · intro w hSw
          (try dsimp only at hSw)
          first | (go_simp; done) | (go_simp; with_reducible rfl)
        simp only [Act.put, List.setIfInBounds_toArray, List.set_cons_zero, List.set_cons_succ]
        refine wpAnyH_take (i := 3) (oi := ⟨_, _, _, _, _, _⟩) (v := ?_) rfl (by kernel_rfl) (by kernel_rfl) (by kernel_rfl) (fun _ _ _ h => h) (Or.inl ⟨by rfl, ?_⟩) (by assumption) ?_
        rotate_left
        · intro w hSw
          (try dsimp only at hSw)
          first | (go_simp; done) | (go_simp; with_reducible rfl)
        simp only [Act.put, List.setIfInBounds_toArray, List.set_cons_zero, List.set_cons_succ]
        refine wpAnyH_take (i := 4) (oi := ⟨_, _, _, _, _, _⟩) (v := ?_) rfl (by kernel_rfl) (by kernel_rfl) (by kernel_rfl) (fun _ _ _ h => h) (Or.inl ⟨by rfl, ?_⟩) (by assumption) ?_
        rotate_left
        · intro w hSw
          (try dsimp only at hSw)
          first | (go_simp; done) | (go_simp; with_reducible rfl)
        simp only [Act.put, List.setIfInBounds_toArray, List.set_cons_zero, List.set_cons_succ]
        refine wpAnyH_take (i := 5) (oi := ⟨_, _, _, _, _, _⟩) (v := ?_) rfl (by kernel_rfl) (by kernel_rfl) (by kernel_rfl) (fun _ _ _ h => h) (Or.inl ⟨by rfl, ?_⟩) (by assumption) ?_
        rotate_left
        · intro w hSw
          (try dsimp only at hSw)
          first | (go_simp; done) | (go_simp; with_reducible rfl)
        simp only [Act.put, List.setIfInBounds_toArray, List.set_cons_zero, List.set_cons_succ]
        refine wpAnyH_ready (rs := [6]) (by kernel_rfl) (by simp) ?_
        refine AllReadyH.cons (o := ⟨_, _, _, _, _, _⟩) rfl (fun K hK => ?_) AllReadyH.nil
        go_simp
        refine (Join_any L.hav h ha ah hc ch _ (hg.ext hy2.drew) (Nat.lt_trans hhl (by decide)) hh hhc hch (hhrow.ents.ext hy2.drew) (hsh.ext hy2.drew)).mono ?_
        rintro e w3 ⟨hj1, hj2, hx3⟩
        obtain ⟨nx, rfl, hnx⟩ := hj2 hvn HV.out
        unfold NewEnts at hnx
        obtain ⟨na, nc, rfl, hnc, hnrow, hnnil, hnb⟩ := own_row hnx
        refine hK.out _ _ ?_ (fun hS2 => ?_)
        · exact ⟨hx3.get hS.1, hx3.get hS.2⟩
        clear hK K
        (try simp only [Act.put, List.setIfInBounds_toArray, List.set_cons_zero, List.set_cons_succ])
        refine wpAnyH_take (i := 7) (oi := ⟨_, _, _, _, _, _⟩) (v := ?_) rfl (by kernel_rfl) (by kernel_rfl) (by kernel_rfl) (fun _ _ _ h => h) (Or.inl ⟨by rfl, ?_⟩) (by assumption) ?_
        rotate_left
        · intro w hSw
          (try dsimp only at hSw)
          first | (go_simp; done) | (go_simp; with_reducible rfl)
        simp only [Act.put, List.setIfInBounds_toArray, List.set_cons_zero, List.set_cons_succ]
        refine wpAnyH_take (i := 8) (oi := ⟨_, _, _, _, _, _⟩) (v := ?_) rfl (by kernel_rfl) (by kernel_rfl) (by kernel_rfl) (fun _ _ _ h => h) (Or.inl ⟨by rfl, ?_⟩) (by assumption) ?_
        rotate_left
        · intro w hSw
          (try dsimp only at hSw)
          first | (go_simp; done) | (go_simp; with_reducible rfl)
        simp only [Act.put, List.setIfInBounds_toArray, List.set_cons_zero, List.set_cons_succ]
        refine wpAnyH_take (i := 9) (oi := ⟨_, _, _, _, _, _⟩) (v := ?_) rfl (by kernel_rfl) (by kernel_rfl) (by kernel_rfl) (fun _ _ _ h => h) (Or.inl ⟨by rfl, ?_⟩) (by assumption) ?_
        rotate_left
        · intro w hSw
          (try dsimp only at hSw)
          first | (go_simp; done) | (go_simp; with_reducible rfl)
        simp only [Act.put, List.setIfInBounds_toArray, List.set_cons_zero, List.set_cons_succ]
        refine wpAnyH_take (i := 10) (oi := ⟨_, _, _, _, _, _⟩) (v := ?_) rfl (by kernel_rfl) (by kernel_rfl) (by kernel_rfl) (fun _ _ _ h => h) (Or.inl ⟨by rfl, ?_⟩) (by assumption) ?_
        rotate_left
        · intro w hSw
          (try dsimp only at hSw)
          first | (go_simp; done) | (go_simp; with_reducible rfl)
        simp only [Act.put, List.setIfInBounds_toArray, List.set_cons_zero, List.set_cons_succ]
        refine wpAnyH_take (i := 11) (oi := ⟨_, _, _, _, _, _⟩) (v := ?_) rfl (by kernel_rfl) (by kernel_rfl) (by kernel_rfl) (fun _ _ _ h => h) (Or.inl ⟨by rfl, ?_⟩) (by assumption) ?_
        rotate_left
        · intro w hSw
          (try dsimp only at hSw)
          first | (go_simp; done) | (go_simp; with_reducible rfl)
        simp only [Act.put, List.setIfInBounds_toArray, List.set_cons_zero, List.set_cons_succ]
        refine wpAnyH_done (by kernel_rfl) ?_ _
        have hy3 : Ext w w3 := hy2.trans (Ext.trans (Ext.refl w2).drew hx3)
        have b2'' := (Ext.trans (Ext.refl w2).drew hx3).get b2'
        have p2'' := hy3.get q2
        clear b1' b2' p1' p2'
        go_wp2_with fail
        refine (CloneW_any L.wrs wa wc _ (by omega) hwc (hwrow.wrs.ext hy3) (fun ha => slice_cap (hwnil ha))).mono ?_
        rintro e w4 ⟨nx0, rfl, hn0, _, hx4⟩
        have hy4 : Ext w w4 := hy3.trans hx4
        have b2 := hx4.get b2''
        have hwl2 : L.wrs.length ≤ 1000 := hwl
        have hbl3 : b < w3.heap.size := Nat.lt_of_lt_of_le hbl hy3.size
        have hws60 := (bRight_len HB.out).1
        go_wp2_with fail
        go_loopw [9, 10, 50] (fun nx mm i wr => ∃ (k m : Nat) (l : List Wr), i = .int .i64 k ∧ mm = .int .i64 m ∧ m ≤ k ∧ k ≤ ws.length ∧ l.length ≤ 1000 + k ∧ Srt l ∧ wr.ownsRow w3.heap.size 33 6 nx l.length (wCells l) ∧
            Hid (accGo k (ws.drop k) l m = accGo 0 ws L.wrs 0) ∧ Ext w3 wr) (fun _ _ i _ => ws.length - (intOf i).toNat)
        case atStart => exact ⟨0, 0, L.wrs, rfl, rfl, Nat.le_refl _, Nat.zero_le _, hwl2, hsrt, hn0, Lib.hid rfl, hx4⟩
        case round =>
          obtain ⟨k, m, l, rfl, rfl, hmk, hk, hll, hsl, hown, hrec, hbel⟩ := hrel
          obtain ⟨nxa, nxc, rfl, hnxc, hnxr, hnxnil, hnxb⟩ := own_row hown
          by_cases hlt : k < ws.length
          · obtain ⟨x, xb, xo, rfl, hx1', hx2', hxb, d0, d1, d2, d3, d4, d5⟩ := (hsw.ext (hy3.trans hbel)).at k hlt
            have hp := posW_parted x hsl
            have hpl := posW_le l x
            have hstep := Lib.hid (accGo_drop ws l m k hlt)
            rw [hx2'] at hstep
            go_wp2_with fail
            refine (BS_any l x (posW l x) nxa nxc _ (by omega) (hnxr.wrs.ext ((Ext.refl _).alloc _)) hp).mono ?_
            rintro e w6 ⟨rfl, hx6⟩
            have hx46 : Ext wr w6 := Ext.trans ((Ext.refl _).alloc _) hx6
            have c0 := hx6.get (p := ⟨wr.heap.size, 0, none⟩) (v := .int .i64 x.t) (by simp)
            have c1 := hx6.get (p := ⟨wr.heap.size, 1, none⟩) (v := .int .i64 x.r) (by simp)
            have c2 := hx6.get (p := ⟨wr.heap.size, 2, none⟩) (v := .int .i64 x.kind) (by simp)
            have c3 := hx6.get (p := ⟨wr.heap.size, 3, none⟩) (v := .string x.key) (by simp)
            have c4 := hx6.get (p := ⟨wr.heap.size, 4, none⟩) (v := .string x.val) (by simp)
            have c5 := hx6.get (p := ⟨wr.heap.size, 5, none⟩) (v := .int .i64 x.n) (by simp)
            clear hx1' hx2' hp
            rcases hhas : hasAt l x (posW l x) with _ | _
            · have HS := Lib.hid hhas
              clear hhas
              go_wp2_with fail
              refine wp_region_held_drew (S := fun _ => True) (by kernel_rfl) trivial (fun hS => ?_)
              refine wpAnyH_take (i := 0) (oi := ⟨_, _, _, _, _, _⟩) (v := ?_) rfl (by kernel_rfl) (by kernel_rfl) (by kernel_rfl) (fun _ _ _ h => h) (Or.inl ⟨by rfl, ?_⟩) (by assumption) ?_
              rotate_left
              · intro w hSw
                (try dsimp only at hSw)
                first | (go_simp; done) | (go_simp; with_reducible rfl)
              simp only [Act.put, List.setIfInBounds_toArray, List.set_cons_zero, List.set_cons_succ]
              refine wpAnyH_take (i := 1) (oi := ⟨_, _, _, _, _, _⟩) (v := ?_) rfl (by kernel_rfl) (by kernel_rfl) (by kernel_rfl) (fun _ _ _ h => h) (Or.inl ⟨by rfl, ?_⟩) (by assumption) ?_
              rotate_left
              · intro w hSw
                (try dsimp only at hSw)
                first | (go_simp; done) | (go_simp; with_reducible rfl)
              simp only [Act.put, List.setIfInBounds_toArray, List.set_cons_zero, List.set_cons_succ]
              refine wpAnyH_take (i := 2) (oi := ⟨_, _, _, _, _, _⟩) (v := undef) rfl (by kernel_rfl) (by kernel_rfl) (by kernel_rfl) (fun _ _ _ h => h) (Or.inr ⟨by rfl, rfl⟩) (by assumption) ?_
              simp only [Act.put, List.setIfInBounds_toArray, List.set_cons_zero, List.set_cons_succ]
              refine wpAnyH_take (i := 3) (oi := ⟨_, _, _, _, _, _⟩) (v := undef) rfl (by kernel_rfl) (by kernel_rfl) (by kernel_rfl) (fun _ _ _ h => h) (Or.inr ⟨by rfl, rfl⟩) (by assumption) ?_
              simp only [Act.put, List.setIfInBounds_toArray, List.set_cons_zero, List.set_cons_succ]
              refine wpAnyH_take (i := 4) (oi := ⟨_, _, _, _, _, _⟩) (v := undef) rfl (by kernel_rfl) (by kernel_rfl) (by kernel_rfl) (fun _ _ _ h => h) (Or.inr ⟨by rfl, rfl⟩) (by assumption) ?_
              simp only [Act.put, List.setIfInBounds_toArray, List.set_cons_zero, List.set_cons_succ]
              refine wpAnyH_take (i := 5) (oi := ⟨_, _, _, _, _, _⟩) (v := undef) rfl (by kernel_rfl) (by kernel_rfl) (by kernel_rfl) (fun _ _ _ h => h) (Or.inr ⟨by rfl, rfl⟩) (by assumption) ?_
              simp only [Act.put, List.setIfInBounds_toArray, List.set_cons_zero, List.set_cons_succ]
              refine wpAnyH_take (i := 6) (oi := ⟨_, _, _, _, _, _⟩) (v := undef) rfl (by kernel_rfl) (by kernel_rfl) (by kernel_rfl) (fun _ _ _ h => h) (Or.inr ⟨by rfl, rfl⟩) (by assumption) ?_
              simp only [Act.put, List.setIfInBounds_toArray, List.set_cons_zero, List.set_cons_succ]
              refine wpAnyH_take (i := 7) (oi := ⟨_, _, _, _, _, _⟩) (v := undef) rfl (by kernel_rfl) (by kernel_rfl) (by kernel_rfl) (fun _ _ _ h => h) (Or.inr ⟨by rfl, rfl⟩) (by assumption) ?_
              simp only [Act.put, List.setIfInBounds_toArray, List.set_cons_zero, List.set_cons_succ]
              refine wpAnyH_take (i := 8) (oi := ⟨_, _, _, _, _, _⟩) (v := ?_) rfl (by kernel_rfl) (by kernel_rfl) (by kernel_rfl) (fun _ _ _ h => h) (Or.inl ⟨by rfl, ?_⟩) (by assumption) ?_
              rotate_left
              · intro w hSw
                (try dsimp only at hSw)
                first | (go_simp; done) | (go_simp; with_reducible rfl)
              simp only [Act.put, List.setIfInBounds_toArray, List.set_cons_zero, List.set_cons_succ]
              refine wpAnyH_take (i := 9) (oi := ⟨_, _, _, _, _, _⟩) (v := ?_) rfl (by kernel_rfl) (by kernel_rfl) (by kernel_rfl) (fun _ _ _ h => h) (Or.inl ⟨by rfl, ?_⟩) (by assumption) ?_
              rotate_left
              · intro w hSw
                (try dsimp only at hSw)
                first | (go_simp; done) | (go_simp; with_reducible rfl)
              simp only [Act.put, List.setIfInBounds_toArray, List.set_cons_zero, List.set_cons_succ]
              refine wpAnyH_done (by kernel_rfl) ?_ _
              go_wp2_with fail
              have hx47 : Ext wr (w6.drew.alloc (.cells (wCells1 x).toArray 33)) := hx46.drew.alloc _
              have hown7 := own_ext hown hx47
              have hnv6 : (Value.slice nxa l.length nxc).ownBlock ≠ some w6.heap.size := fun hh => by
                have := own_lt hown _ hh
                have := hx46.size
                omega
              refine (Ins_any w3.heap.size (posW l x) _ l x w6.heap.size _ (by have := (hbel.trans hx47).size; simpa using this) hown7 (by omega) hpl (by exact blk_new_drew _ _ _ rfl) hnv6).mono ?_
              rintro e w7 ⟨nv, rfl, hnv, hchg, hnvb⟩
              have hx37 : Ext w3 w7 := Chg.ext (hbel.trans hx47) hchg (fun i hi => own_ge hown i hi)
              have hi1 := insAt_length l (posW l x) x hpl
              have hm1 : IntKind.i64.wrap ((m : Int) + 1) = (m : Int) + 1 := IntWalk.i64_in _ (by omega)
              have hk1 : IntKind.i64.wrap ((k : Int) + 1) = (k : Int) + 1 := IntWalk.i64_in _ (by omega)
              have HI := Lib.hid hi1
              clear hi1
              go_wp2_with fail
              refine ⟨⟨k + 1, m + 1, insAt l (posW l x) x, by go_num, by go_num, by omega, by omega, by rw [HI.out]; omega, hsl.ins HS.out, by rw [HI.out]; exact hnv, ?_, hx37⟩, by simp [intOf]; omega⟩
              rw [hstep.out, if_neg (by rw [HS.out]; simp)] at hrec
              exact hrec
            · have HS := Lib.hid hhas
              obtain ⟨y, hy1'⟩ : ∃ y, l[posW l x]? = some y := by
                rcases hq : l[posW l x]? with _ | y
                · rw [hasAt, hq] at hhas; cases hhas
                · exact ⟨y, rfl⟩
              have hpl2 : posW l x < l.length := (List.getElem?_eq_some_iff.1 hy1').1
              clear hhas
              obtain ⟨y', yb, yo, rfl, hy2', _, hyb, g0, g1, g2, g3, g4, g5⟩ := (hnxr.wrs.ext hx46).at (posW l x) hpl2
              obtain rfl : y' = y := by rw [hy1'] at hy2'; cases hy2'; rfl
              have HY := Lib.hid hy1'
              clear hy1' hy2'
              have heq : ∀ w, (Op.equalIn 10000 33 (.agg #[.int .i64 y'.t, .int .i64 y'.r, .int .i64 y'.kind, .string y'.key, .string y'.val, .int .i64 y'.n]) (.agg #[.int .i64 x.t, .int .i64 x.r, .int .i64 x.kind, .string x.key, .string x.val, .int .i64 x.n])).run Tryz.prog w = .ok (y' == x) w := fun w => eq_wr 9997 w y' x
              have hgd : Tryz.prog.eqGuardType Tryz.prog.depth 33 = false := by kernel_rfl
              have hk1 : IntKind.i64.wrap ((k : Int) + 1) = (k : Int) + 1 := IntWalk.i64_in _ (by omega)
              by_cases hyx : y' = x
              · have hyb : (y' == x) = true := by simp [hyx]
                have HX := Lib.hid hyx
                clear hyx
                go_wp2_with fail
                refine wp_region_held_drew (S := fun w' => w'.cell? ⟨wr.heap.size, 0, none⟩ = some (.int .i64 x.t) ∧ w'.cell? ⟨wr.heap.size, 1, none⟩ = some (.int .i64 x.r) ∧ w'.cell? ⟨wr.heap.size, 2, none⟩ = some (.int .i64 x.kind) ∧ w'.cell? ⟨wr.heap.size, 3, none⟩ = some (.string x.key) ∧ w'.cell? ⟨wr.heap.size, 4, none⟩ = some (.string x.val) ∧ w'.cell? ⟨wr.heap.size, 5, none⟩ = some (.int .i64 x.n) ∧ w'.cell? ⟨yb, yo + posW l x * 6, none⟩ = some (.int .i64 y'.t) ∧ w'.cell? ⟨yb, yo + posW l x * 6 + 1, none⟩ = some (.int .i64 y'.r) ∧ w'.cell? ⟨yb, yo + posW l x * 6 + 2, none⟩ = some (.int .i64 y'.kind) ∧ w'.cell? ⟨yb, yo + posW l x * 6 + 3, none⟩ = some (.string y'.key) ∧ w'.cell? ⟨yb, yo + posW l x * 6 + 4, none⟩ = some (.string y'.val) ∧ w'.cell? ⟨yb, yo + posW l x * 6 + 5, none⟩ = some (.int .i64 y'.n)) (by kernel_rfl) ⟨c0, c1, c2, c3, c4, c5, g0, g1, g2, g3, g4, g5⟩ (fun hS => ?_)
                refine wpAnyH_take (i := 0) (oi := ⟨_, _, _, _, _, _⟩) (v := ?_) rfl (by kernel_rfl) (by kernel_rfl) (by kernel_rfl) (fun _ _ _ h => h) (Or.inl ⟨by rfl, ?_⟩) (by assumption) ?_
                rotate_left
                · intro w hSw
                  (try dsimp only at hSw)
                  first | (go_simp; done) | (go_simp; with_reducible rfl)
                simp only [Act.put, List.setIfInBounds_toArray, List.set_cons_zero, List.set_cons_succ]
                refine wpAnyH_take (i := 1) (oi := ⟨_, _, _, _, _, _⟩) (v := ?_) rfl (by kernel_rfl) (by kernel_rfl) (by kernel_rfl) (fun _ _ _ h => h) (Or.inl ⟨by rfl, ?_⟩) (by assumption) ?_
                rotate_left
                · intro w hSw
                  (try dsimp only at hSw)
                  first | (go_simp; done) | (go_simp; with_reducible rfl)
                simp only [Act.put, List.setIfInBounds_toArray, List.set_cons_zero, List.set_cons_succ]
                refine wpAnyH_take (i := 2) (oi := ⟨_, _, _, _, _, _⟩) (v := ?_) rfl (by kernel_rfl) (by kernel_rfl) (by kernel_rfl) (fun _ _ _ h => h) (Or.inl ⟨by rfl, ?_⟩) (by assumption) ?_
                rotate_left
                · intro w hSw
                  (try dsimp only at hSw)
                  first | (go_simp; done) | (go_simp; with_reducible rfl)
                simp only [Act.put, List.setIfInBounds_toArray, List.set_cons_zero, List.set_cons_succ]
                refine wpAnyH_take (i := 3) (oi := ⟨_, _, _, _, _, _⟩) (v := ?_) rfl (by kernel_rfl) (by kernel_rfl) (by kernel_rfl) (fun _ _ _ h => h) (Or.inl ⟨by rfl, ?_⟩) (by assumption) ?_
                rotate_left
                · intro w hSw
                  (try dsimp only at hSw)
                  first | (go_simp; done) | (go_simp; with_reducible rfl)
                simp only [Act.put, List.setIfInBounds_toArray, List.set_cons_zero, List.set_cons_succ]
                refine wpAnyH_take (i := 4) (oi := ⟨_, _, _, _, _, _⟩) (v := ?_) rfl (by kernel_rfl) (by kernel_rfl) (by kernel_rfl) (fun _ _ _ h => h) (Or.inl ⟨by rfl, ?_⟩) (by assumption) ?_
                rotate_left
                · intro w hSw
                  (try dsimp only at hSw)
                  first | (go_simp; done) | (go_simp; with_reducible rfl)
                simp only [Act.put, List.setIfInBounds_toArray, List.set_cons_zero, List.set_cons_succ]
                refine wpAnyH_take (i := 5) (oi := ⟨_, _, _, _, _, _⟩) (v := ?_) rfl (by kernel_rfl) (by kernel_rfl) (by kernel_rfl) (fun _ _ _ h => h) (Or.inl ⟨by rfl, ?_⟩) (by assumption) ?_
                rotate_left
                · intro w hSw
                  (try dsimp only at hSw)
                  first | (go_simp; done) | (go_simp; with_reducible rfl)
                simp only [Act.put, List.setIfInBounds_toArray, List.set_cons_zero, List.set_cons_succ]
                refine wpAnyH_take (i := 6) (oi := ⟨_, _, _, _, _, _⟩) (v := ?_) rfl (by kernel_rfl) (by kernel_rfl) (by kernel_rfl) (fun _ _ _ h => h) (Or.inl ⟨by rfl, ?_⟩) (by assumption) ?_
                rotate_left
                · intro w hSw
                  (try dsimp only at hSw)
                  first | (go_simp; done) | (go_simp; with_reducible rfl)
                simp only [Act.put, List.setIfInBounds_toArray, List.set_cons_zero, List.set_cons_succ]
                refine wpAnyH_take (i := 7) (oi := ⟨_, _, _, _, _, _⟩) (v := ?_) rfl (by kernel_rfl) (by kernel_rfl) (by kernel_rfl) (fun _ _ _ h => h) (Or.inl ⟨by rfl, ?_⟩) (by assumption) ?_
                rotate_left
                · intro w hSw
                  (try dsimp only at hSw)
                  first | (go_simp; done) | (go_simp; with_reducible rfl)
                simp only [Act.put, List.setIfInBounds_toArray, List.set_cons_zero, List.set_cons_succ]
                refine wpAnyH_take (i := 8) (oi := ⟨_, _, _, _, _, _⟩) (v := ?_) rfl (by kernel_rfl) (by kernel_rfl) (by kernel_rfl) (fun _ _ _ h => h) (Or.inl ⟨by rfl, ?_⟩) (by assumption) ?_
                rotate_left
                · intro w hSw
                  (try dsimp only at hSw)
                  first | (go_simp; done) | (go_simp; with_reducible rfl)
                simp only [Act.put, List.setIfInBounds_toArray, List.set_cons_zero, List.set_cons_succ]
                refine wpAnyH_take (i := 9) (oi := ⟨_, _, _, _, _, _⟩) (v := ?_) rfl (by kernel_rfl) (by kernel_rfl) (by kernel_rfl) (fun _ _ _ h => h) (Or.inl ⟨by rfl, ?_⟩) (by assumption) ?_
                rotate_left
                · intro w hSw
                  (try dsimp only at hSw)
                  first | (go_simp; done) | (go_simp; with_reducible rfl)
                simp only [Act.put, List.setIfInBounds_toArray, List.set_cons_zero, List.set_cons_succ]
                refine wpAnyH_done (by kernel_rfl) ?_ _
                go_wp2_with fail
                refine ⟨⟨k + 1, m, l, by go_num, rfl, by omega, by omega, by omega, hsl, own_ext hown hx46.drew, ?_, hbel.trans hx46.drew⟩, by simp [intOf]; omega⟩
                rw [hstep.out, if_pos HS.out, if_pos (by rw [HY.out, HX.out])] at hrec
                exact hrec
              · have hyb : (y' == x) = false := by simp [hyx]
                have HX := Lib.hid hyx
                clear hyx
                go_wp2_with fail
                refine wp_region_held_drew (S := fun w' => w'.cell? ⟨wr.heap.size, 0, none⟩ = some (.int .i64 x.t) ∧ w'.cell? ⟨wr.heap.size, 1, none⟩ = some (.int .i64 x.r) ∧ w'.cell? ⟨wr.heap.size, 2, none⟩ = some (.int .i64 x.kind) ∧ w'.cell? ⟨wr.heap.size, 3, none⟩ = some (.string x.key) ∧ w'.cell? ⟨wr.heap.size, 4, none⟩ = some (.string x.val) ∧ w'.cell? ⟨wr.heap.size, 5, none⟩ = some (.int .i64 x.n) ∧ w'.cell? ⟨yb, yo + posW l x * 6, none⟩ = some (.int .i64 y'.t) ∧ w'.cell? ⟨yb, yo + posW l x * 6 + 1, none⟩ = some (.int .i64 y'.r) ∧ w'.cell? ⟨yb, yo + posW l x * 6 + 2, none⟩ = some (.int .i64 y'.kind) ∧ w'.cell? ⟨yb, yo + posW l x * 6 + 3, none⟩ = some (.string y'.key) ∧ w'.cell? ⟨yb, yo + posW l x * 6 + 4, none⟩ = some (.string y'.val) ∧ w'.cell? ⟨yb, yo + posW l x * 6 + 5, none⟩ = some (.int .i64 y'.n)) (by kernel_rfl) ⟨c0, c1, c2, c3, c4, c5, g0, g1, g2, g3, g4, g5⟩ (fun hS => ?_)
                refine wpAnyH_take (i := 0) (oi := ⟨_, _, _, _, _, _⟩) (v := ?_) rfl (by kernel_rfl) (by kernel_rfl) (by kernel_rfl) (fun _ _ _ h => h) (Or.inl ⟨by rfl, ?_⟩) (by assumption) ?_
                rotate_left
                · intro w hSw
                  (try dsimp only at hSw)
                  first | (go_simp; done) | (go_simp; with_reducible rfl)
                simp only [Act.put, List.setIfInBounds_toArray, List.set_cons_zero, List.set_cons_succ]
                refine wpAnyH_take (i := 1) (oi := ⟨_, _, _, _, _, _⟩) (v := ?_) rfl (by kernel_rfl) (by kernel_rfl) (by kernel_rfl) (fun _ _ _ h => h) (Or.inl ⟨by rfl, ?_⟩) (by assumption) ?_
                rotate_left
                · intro w hSw
                  (try dsimp only at hSw)
                  first | (go_simp; done) | (go_simp; with_reducible rfl)
                simp only [Act.put, List.setIfInBounds_toArray, List.set_cons_zero, List.set_cons_succ]
                refine wpAnyH_take (i := 2) (oi := ⟨_, _, _, _, _, _⟩) (v := ?_) rfl (by kernel_rfl) (by kernel_rfl) (by kernel_rfl) (fun _ _ _ h => h) (Or.inl ⟨by rfl, ?_⟩) (by assumption) ?_
                rotate_left
                · intro w hSw
                  (try dsimp only at hSw)
                  first | (go_simp; done) | (go_simp; with_reducible rfl)
                simp only [Act.put, List.setIfInBounds_toArray, List.set_cons_zero, List.set_cons_succ]
                refine wpAnyH_take (i := 3) (oi := ⟨_, _, _, _, _, _⟩) (v := ?_) rfl (by kernel_rfl) (by kernel_rfl) (by kernel_rfl) (fun _ _ _ h => h) (Or.inl ⟨by rfl, ?_⟩) (by assumption) ?_
                rotate_left
                · intro w hSw
                  (try dsimp only at hSw)
                  first | (go_simp; done) | (go_simp; with_reducible rfl)
                simp only [Act.put, List.setIfInBounds_toArray, List.set_cons_zero, List.set_cons_succ]
                refine wpAnyH_take (i := 4) (oi := ⟨_, _, _, _, _, _⟩) (v := ?_) rfl (by kernel_rfl) (by kernel_rfl) (by kernel_rfl) (fun _ _ _ h => h) (Or.inl ⟨by rfl, ?_⟩) (by assumption) ?_
                rotate_left
                · intro w hSw
                  (try dsimp only at hSw)
                  first | (go_simp; done) | (go_simp; with_reducible rfl)
                simp only [Act.put, List.setIfInBounds_toArray, List.set_cons_zero, List.set_cons_succ]
                refine wpAnyH_take (i := 5) (oi := ⟨_, _, _, _, _, _⟩) (v := ?_) rfl (by kernel_rfl) (by kernel_rfl) (by kernel_rfl) (fun _ _ _ h => h) (Or.inl ⟨by rfl, ?_⟩) (by assumption) ?_
                rotate_left
                · intro w hSw
                  (try dsimp only at hSw)
                  first | (go_simp; done) | (go_simp; with_reducible rfl)
                simp only [Act.put, List.setIfInBounds_toArray, List.set_cons_zero, List.set_cons_succ]
                refine wpAnyH_take (i := 6) (oi := ⟨_, _, _, _, _, _⟩) (v := ?_) rfl (by kernel_rfl) (by kernel_rfl) (by kernel_rfl) (fun _ _ _ h => h) (Or.inl ⟨by rfl, ?_⟩) (by assumption) ?_
                rotate_left
                · intro w hSw
                  (try dsimp only at hSw)
                  first | (go_simp; done) | (go_simp; with_reducible rfl)
                simp only [Act.put, List.setIfInBounds_toArray, List.set_cons_zero, List.set_cons_succ]
                refine wpAnyH_take (i := 7) (oi := ⟨_, _, _, _, _, _⟩) (v := ?_) rfl (by kernel_rfl) (by kernel_rfl) (by kernel_rfl) (fun _ _ _ h => h) (Or.inl ⟨by rfl, ?_⟩) (by assumption) ?_
                rotate_left
                · intro w hSw
                  (try dsimp only at hSw)
                  first | (go_simp; done) | (go_simp; with_reducible rfl)
                simp only [Act.put, List.setIfInBounds_toArray, List.set_cons_zero, List.set_cons_succ]
                refine wpAnyH_take (i := 8) (oi := ⟨_, _, _, _, _, _⟩) (v := ?_) rfl (by kernel_rfl) (by kernel_rfl) (by kernel_rfl) (fun _ _ _ h => h) (Or.inl ⟨by rfl, ?_⟩) (by assumption) ?_
                rotate_left
                · intro w hSw
                  (try dsimp only at hSw)
                  first | (go_simp; done) | (go_simp; with_reducible rfl)
                simp only [Act.put, List.setIfInBounds_toArray, List.set_cons_zero, List.set_cons_succ]
                refine wpAnyH_take (i := 9) (oi := ⟨_, _, _, _, _, _⟩) (v := ?_) rfl (by kernel_rfl) (by kernel_rfl) (by kernel_rfl) (fun _ _ _ h => h) (Or.inl ⟨by rfl, ?_⟩) (by assumption) ?_
                rotate_left
                · intro w hSw
                  (try dsimp only at hSw)
                  first | (go_simp; done) | (go_simp; with_reducible rfl)
                simp only [Act.put, List.setIfInBounds_toArray, List.set_cons_zero, List.set_cons_succ]
                refine wpAnyH_done (by kernel_rfl) ?_ _
                go_wp2_with fail
                go_ret2
                rw [hstep.out, if_pos HS.out, if_neg (by rw [HY.out]; intro hh; injection hh with hh; exact HX.out hh)] at hrec
                exact AccPost.err (er := .plc 9 k) (by rw [hl3.out, ← hrec.out]; rfl) (by simp) rfl (er_new _ _ _ _ (by simp)) (((hy3.trans (hbel.trans hx46)).drew).alloc _)
          · obtain rfl : k = ws.length := by omega
            have hrec' := Lib.hid (show accGo 0 ws L.wrs 0 = .inr (l, m) by rw [← hrec.out, List.drop_eq_nil_of_le (Nat.le_refl _)]; rfl)
            have hyr := hy3.trans hbel
            have k1 : wr.frozen? ⟨b, 1, none⟩ = false := hyr.free q1 (free_blk hLog.blk)
            have k2 : wr.frozen? ⟨b, 2, none⟩ = false := hyr.free q2 (free_blk hLog.blk)
            have p1 := hyr.get q1
            have p2 := hyr.get q2
            by_cases h300 : 300 < l.length
            · go_wp2_with fail
              go_ret2
              exact AccPost.err (er := .no 12) (by rw [hl3.out, hrec'.out, accFin, if_pos h300]) (by simp) rfl rfl hyr
            · have hl4 := Lib.hid (show logAccept L f h ws = .inr (m, ⟨L.rep, hvn, l⟩) by rw [hl3.out, hrec'.out, accFin, if_neg h300])
              go_wp2_with fail
              go_ret2
              exact AccPost.ok hl4.out rfl (acc_fin hLog hyr (own_ext hnx hbel) hown (by have := hy2.size; simpa using this) (by have := hy3.size; simpa using this))
  · obtain ⟨t5, y5, rfl⟩ := he1.iface hbr
    have HW := Lib.hid (show logAccept L f h ws = .inl (bRight f h ws) by rw [logAccept, if_pos hbr])
    have HN := Lib.hid hbr
    clear hbr
    go_wp2_with fail
    go_ret2
    exact AccPost.err HW.out HN.out rfl he1 hy1

end Go.Proofs.YtbahalckcenfmaaGreatDoor
