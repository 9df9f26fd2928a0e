/-
  The contract of (*log.Log).Local.
-/
import Derived.Test.YtbahalckcenfmaaGreatDoorBatch
namespace Go.Proofs.YtbahalckcenfmaaGreatDoor
set_option linter.unusedSimpArgs false
open Go.RowKit

/-- A write with an id. -/
def withId (x : Wr) (t r : Int) : Wr := { x with t := t, r := r }

/-- What Local does: an error, or the log behind it. -/
def logLocal (L : LogS) (x : Wr) : Er ⊕ LogS :=
  if lMax L.hav = 1099511627776 then .inl (.no 4)
  else if wRight (withId x (lMax L.hav + 1) L.rep) ≠ .nil then .inl (wRight (withId x (lMax L.hav + 1) L.rep))
  else if 300 ≤ L.wrs.length then .inl (.no 12)
  else match vJoin L.hav [⟨L.rep, lMax L.hav + 1⟩] with
    | .inl k => .inl (.no k)
    | .inr h => .inr ⟨L.rep, h, L.wrs ++ [withId x (lMax L.hav + 1) L.rep]⟩

/-- The block of a log, and that of its writes. -/
def logBlocks (b : Nat) (wv : Value) : Nat → Prop := fun k => k = b ∨ wv.ownBlock = some k

def LocalPost (b : Nat) (wv : Value) (L : LogS) (x : Wr) (w : World) (e : Ending) (w' : World) : Prop :=
  (∀ er, logLocal L x = .inl er → er ≠ .nil ∧ Ext w w' ∧ ∃ v, e = .returned (.tuple #[.agg #[.int .i64 0, .int .i64 0], v]) ∧ IsEr w' v er) ∧
  (∀ L', logLocal L x = .inr L' → e = .returned (.tuple #[.agg #[.int .i64 (lMax L.hav + 1), .int .i64 L.rep], .nilIface]) ∧ Chg (logBlocks b wv) w w' ∧
    ∃ hv' wv', LogAt w' b hv' wv' L' ∧ (∀ k, hv'.ownBlock = some k → w.heap.size ≤ k) ∧ (∀ k, wv'.ownBlock = some k → wv.ownBlock = some k ∨ w.heap.size ≤ k))
theorem LocalPost.err {b : Nat} {wv : Value} {L : LogS} {x : Wr} {w w' : World} {e : Ending} {er : Er} {v : Value} (h : logLocal L x = .inl er) (hn : er ≠ .nil) (he : e = .returned (.tuple #[.agg #[.int .i64 0, .int .i64 0], v])) (hv : IsEr w' v er) (hx : Ext w w') : LocalPost b wv L x w e w' :=
  ⟨fun er' h' => by rw [h] at h'; cases h'; exact ⟨hn, hx, v, he, hv⟩, fun L' h' => by rw [h] at h'; cases h'⟩

theorem LocalPost.ok {b : Nat} {wv : Value} {L L' : LogS} {x : Wr} {w w' : World} {e : Ending} (h : logLocal L x = .inr L') (he : e = .returned (.tuple #[.agg #[.int .i64 (lMax L.hav + 1), .int .i64 L.rep], .nilIface]))
    (hx : Chg (logBlocks b wv) w w' ∧ ∃ hv' wv', LogAt w' b hv' wv' L' ∧ (∀ k, hv'.ownBlock = some k → w.heap.size ≤ k) ∧ (∀ k, wv'.ownBlock = some k → wv.ownBlock = some k ∨ w.heap.size ≤ k)) : LocalPost b wv L x w e w' :=
  ⟨fun er h' => by rw [h] at h'; (cases h'), fun L'' h' => by rw [h] at h'; cases h'; exact ⟨he, hx⟩⟩

theorem local_fin {w w7 w9 : World} {b g cap base H : Nat} {hv wv nx : Value} {L : LogS} {hh : List Ent} {x' : Wr} {X : Obj}
    (h : LogAt w b hv wv L) (hx : Ext w w7) (hnx : w7.ownsRow base 45 2 nx hh.length (eCells hh)) (hbase : w.heap.size ≤ base)
    (hg : ((w7.setCell ⟨b, 1, none⟩ nx).alloc X).drew.grownBy w9 wv.ownBlock)
    (ho : w9.ownsRow 0 33 6 (.slice (some ⟨g, 0, none⟩) (L.wrs.length + 1) cap) (L.wrs.length + 1) (wCells L.wrs ++ wCells1 x')) (hat : wv.ownBlock = some g ∨ g = H) (hH : w.heap.size ≤ H) :
    Chg (logBlocks b wv) w (w9.setCell ⟨b, 2, none⟩ (.slice (some ⟨g, 0, none⟩) (L.wrs.length + 1) cap)) ∧
    LogAt (w9.setCell ⟨b, 2, none⟩ (.slice (some ⟨g, 0, none⟩) (L.wrs.length + 1) cap)) b nx (.slice (some ⟨g, 0, none⟩) (L.wrs.length + 1) cap) ⟨L.rep, hh, L.wrs ++ [x']⟩ ∧
    (∀ k, nx.ownBlock = some k → w.heap.size ≤ k) ∧ (∀ k, (Value.slice (some ⟨g, 0, none⟩) (L.wrs.length + 1) cap).ownBlock = some k → wv.ownBlock = some k ∨ w.heap.size ≤ k) := by
  have hbl := lt_blk h.blk
  have hwb : wv.ownBlock ≠ some b := own_ne h.wown h.blk (by decide)
  have hb7 : w7.heap[b]? = some (.cells #[.int .i64 L.rep, hv, wv] 68 (0, 0)) := by rw [hx.block b hbl]; exact h.blk
  have hnb : nx.ownBlock ≠ some b := own_ne hnx hb7 (by decide)
  have hnw : ∀ k, nx.ownBlock = some k → some k ≠ wv.ownBlock := fun k hk he => own_two hnx (own_ext h.wown hx) (by decide) k hk he.symm
  have hb8 : (w7.setCell ⟨b, 1, none⟩ nx).heap[b]? = some (.cells #[.int .i64 L.rep, nx, wv] 68 (0, 0)) := by simpa using set_blk hb7 (i := 1) nx
  have hb8' : ((w7.setCell ⟨b, 1, none⟩ nx).alloc X).drew.heap[b]? = some (.cells #[.int .i64 L.rep, nx, wv] 68 (0, 0)) := by
    show ((w7.setCell ⟨b, 1, none⟩ nx).alloc X).heap[b]? = _
    rw [Below.heap_alloc _ _ _ (by have := lt_blk hb8; simpa using this)]; exact hb8
  have hb9 : w9.heap[b]? = some (.cells #[.int .i64 L.rep, nx, wv] 68 (0, 0)) := by
    rw [hg.block b (lt_blk hb8') (fun he => hwb he.symm)]; exact hb8'
  refine ⟨?_, ⟨?_, ?_, ?_⟩, ?_, ?_⟩
  · exact Chg.set (Chg.grown (((Chg.set (hx.chg _) (.inl (.inl rfl)) _).alloc X).drew) hg (fun k hk => .inl (.inr hk))) (.inl (.inl rfl)) _
  · simpa using set_blk hb9 (i := 2) (.slice (some ⟨g, 0, none⟩) (L.wrs.length + 1) cap)
  · refine own_set (own_grown hg (own_ext (own_set (own_base hnx (Nat.zero_le _)) hnb _) (((Ext.refl _).alloc X).drew)) hnw) hnb _
  · have hgb : (Value.slice (some ⟨g, 0, none⟩) (L.wrs.length + 1) cap).ownBlock ≠ some b := own_ne ho hb9 (by decide)
    have := own_set ho hgb (a := ⟨b, 2, none⟩) (.slice (some ⟨g, 0, none⟩) (L.wrs.length + 1) cap)
    simpa [wCells_append, wCells, wCells1] using this
  · intro k hk; exact Nat.le_trans hbase (own_ge hnx k hk)
  · intro k hk
    simp [Value.ownBlock] at hk
    subst hk
    rcases hat with hat | hat
    · exact .inl hat
    · exact .inr (by omega)

theorem LogAt.set {w : World} {b : Nat} {hv wv : Value} {L : LogS} (h : LogAt w b hv wv L) {a : Addr} (ha : b ≠ a.block) (hh : hv.ownBlock ≠ some a.block) (hw : wv.ownBlock ≠ some a.block) (u : Value) : LogAt (w.setCell a u) b hv wv L :=
  ⟨by rw [set_far _ _ _ _ ha]; exact h.blk, own_set h.hown hh u, own_set h.wown hw u⟩

theorem local_fin2 {w w7 w9 : World} {b g cap base H r : Nat} {hv wv nx : Value} {L : LogS} {hh : List Ent} {x' : Wr} {X : Obj} {u1 u2 : Value}
    (h : LogAt w b hv wv L) (hx : Ext w w7) (hnx : w7.ownsRow base 45 2 nx hh.length (eCells hh)) (hbase : w.heap.size ≤ base)
    (hg : ((w7.setCell ⟨b, 1, none⟩ nx).alloc X).drew.grownBy w9 wv.ownBlock)
    (ho : w9.ownsRow 0 33 6 (.slice (some ⟨g, 0, none⟩) (L.wrs.length + 1) cap) (L.wrs.length + 1) (wCells L.wrs ++ wCells1 x')) (hat : wv.ownBlock = some g ∨ g = H) (hH : w.heap.size ≤ H)
    (hr : w.heap.size ≤ r) (hrb : r < base) (hrH : r < H) :
    Chg (logBlocks b wv) w (((w9.setCell ⟨b, 2, none⟩ (.slice (some ⟨g, 0, none⟩) (L.wrs.length + 1) cap)).setCell ⟨r, 0, none⟩ u1).setCell ⟨r, 1, none⟩ u2) ∧
    ∃ hv' wv', LogAt (((w9.setCell ⟨b, 2, none⟩ (.slice (some ⟨g, 0, none⟩) (L.wrs.length + 1) cap)).setCell ⟨r, 0, none⟩ u1).setCell ⟨r, 1, none⟩ u2) b hv' wv' ⟨L.rep, hh, L.wrs ++ [x']⟩ ∧
      (∀ k, hv'.ownBlock = some k → w.heap.size ≤ k) ∧ (∀ k, wv'.ownBlock = some k → wv.ownBlock = some k ∨ w.heap.size ≤ k) := by
  obtain ⟨h1, h2, h3, h4⟩ := local_fin h hx hnx hbase hg ho hat hH
  have hbr : b ≠ r := by have := lt_blk h.blk; omega
  have hnr : nx.ownBlock ≠ some r := fun he => by have := own_ge hnx _ he; omega
  have hwr : (Value.slice (some ⟨g, 0, none⟩) (L.wrs.length + 1) cap).ownBlock ≠ some r := fun he => by
    simp [Value.ownBlock] at he
    subst he
    rcases hat with hat | hat
    · have := own_lt h.wown _ hat; omega
    · omega
  exact ⟨(h1.set (.inr hr) _).set (.inr hr) _, _, _, (h2.set hbr hnr hwr _).set hbr hnr hwr _, h3, h4⟩

set_option maxRecDepth 100000 in
set_option maxHeartbeats 4000000 in
theorem Local_any (b : Nat) (hv wv : Value) (L : LogS) (x : Wr) (w : World) (hg : Good w) (h : LogAt w b hv wv L) (hl : L.hav.length < 1000000) (hlw : L.wrs.length < 1000000) (hf : wFits x) (_hr0 : 0 ≤ L.rep) (_hr1 : L.rep ≤ 200)
    (hm0 : ∀ e ∈ L.hav, 0 ≤ e.t ∧ e.t ≤ 1099511627776) :
    Calls Tryz.prog 22 #[.pointer (some ⟨b, 0, none⟩), wVal x] w (LocalPost b wv L x w) := by
  have q0 : w.cell? ⟨b, 0, none⟩ = some (.int .i64 L.rep) := cell_blk h.blk rfl
  have q1 : w.cell? ⟨b, 1, none⟩ = some hv := cell_blk h.blk rfl
  have q2 : w.cell? ⟨b, 2, none⟩ = some wv := cell_blk h.blk rfl
  have hbl := lt_blk h.blk
  have hLog := h
  obtain ⟨ha, hc, rfl, hhc, hhrow, hhnil, hhb⟩ := own_row h.hown
  obtain ⟨wa, wc, rfl, hwc, hwrow, hwnil, hwb⟩ := own_row h.wown
  unfold wVal
  go_enter Tryz.func22, Tryz.ntmps22
  go_wp2_with fail
  go_loopw [6, 17] (fun m i wr => ∃ k : Nat, k ≤ L.hav.length ∧ i = .int .i64 k ∧ m = .int .i64 (lMax (L.hav.take k)) ∧ Ext ((w.alloc (.cells #[.int .i64 x.t, .int .i64 x.r, .int .i64 x.kind, .string x.key, .string x.val, .int .i64 x.n] 33)).alloc (.cells #[.int .i64 0, .int .i64 0] 31)) wr) (fun _ i _ => L.hav.length - (intOf i).toNat)
  case atStart => exact ⟨0, Nat.zero_le _, rfl, by simp [lMax], Ext.refl _⟩
  case round =>
    obtain ⟨k, hk, rfl, rfl, hbel⟩ := hrel
    have hy : Ext w wr := Ext.trans (((Ext.refl _).alloc _).alloc _) hbel
    by_cases hlt : k < L.hav.length
    · obtain hnil | ⟨b2, o2, rfl, hb2, hc2⟩ := hhrow.ents
      · simp [hnil] at hlt
      obtain ⟨h0, h1⟩ := hc2 k hlt
      have g0 := hy.get h0
      have g1 := hy.get h1
      have hmx := lMax_take L.hav k hlt
      clear h0 h1 hc2
      by_cases hgt : lMax (L.hav.take k) < L.hav[k].t
      · have hmx' : lMax (L.hav.take (k + 1)) = L.hav[k].t := by rw [hmx]; omega
        have HM := Lib.hid hmx'
        clear hmx hmx'
        go_wp2_with fail
        exact ⟨⟨k + 1, by omega, by go_num, by rw [HM.out], hbel.alloc _⟩, by simp [intOf]; omega⟩
      · have hmx' : lMax (L.hav.take (k + 1)) = lMax (L.hav.take k) := by rw [hmx]; omega
        have HM := Lib.hid hmx'
        have hgt' : (lMax (L.hav.take k) < L.hav[k].t) = False := eq_false hgt
        clear hmx hmx' hgt
        go_wp2_with fail
        exact ⟨⟨k + 1, by omega, by go_num, by rw [HM.out], hbel.alloc _⟩, by simp [intOf]; omega⟩
    · have hkl : L.hav.take k = L.hav := List.take_of_length_le (by omega)
      have c0 := hbel.get (p := ⟨w.heap.size, 0, none⟩) (v := .int .i64 x.t) (by simp)
      have c1 := hbel.get (p := ⟨w.heap.size, 1, none⟩) (v := .int .i64 x.r) (by simp)
      have c2 := hbel.get (p := ⟨w.heap.size, 2, none⟩) (v := .int .i64 x.kind) (by simp)
      have c3 := hbel.get (p := ⟨w.heap.size, 3, none⟩) (v := .string x.key) (by simp)
      have c4 := hbel.get (p := ⟨w.heap.size, 4, none⟩) (v := .string x.val) (by simp)
      have c5 := hbel.get (p := ⟨w.heap.size, 5, none⟩) (v := .int .i64 x.n) (by simp)
      have r0 := hbel.get (p := ⟨w.heap.size + 1, 0, none⟩) (v := .int .i64 0) (by simp)
      have r1 := hbel.get (p := ⟨w.heap.size + 1, 1, none⟩) (v := .int .i64 0) (by simp)
      have f0 : wr.frozen? ⟨w.heap.size, 0, none⟩ = false := (hbel.frozen (p := ⟨w.heap.size, 0, none⟩) (by simp; omega)).trans (by simp)
      have f1 : wr.frozen? ⟨w.heap.size, 1, none⟩ = false := (hbel.frozen (p := ⟨w.heap.size, 1, none⟩) (by simp; omega)).trans (by simp)
      have e0 : wr.frozen? ⟨w.heap.size + 1, 0, none⟩ = false := (hbel.frozen (p := ⟨w.heap.size + 1, 0, none⟩) (by simp)).trans (by simp)
      have e1 : wr.frozen? ⟨w.heap.size + 1, 1, none⟩ = false := (hbel.frozen (p := ⟨w.heap.size + 1, 1, none⟩) (by simp)).trans (by simp)
      rw [hkl] at *
      have HKL := Lib.hid hkl
      clear hkl
      obtain ⟨T0, T1⟩ := lMax_bd L.hav 1099511627776 (by omega) hm0
      by_cases hT : lMax L.hav = 1099511627776
      · have hT' : (lMax L.hav == 1099511627776) = true := by simp [hT]
        have hlog := Lib.hid (show logLocal L x = .inl (.no 4) by rw [logLocal, if_pos hT])
        clear hT
        go_wp2_with fail
        refine bodyPost_ret (v := .tuple #[.agg #[.int .i64 0, .int .i64 0], .iface 50 (.int .i64 4)]) ?_ rfl ?_
        · simp [results, Tryz.results22, go_sem, r0, r1, e0, e1]
        · exact LocalPost.err hlog.out (by simp) rfl rfl (Ext.set (Ext.set hy (by simp) _) (by simp) _)
      · have hT' : (lMax L.hav == 1099511627776) = false := by simp [hT]
        have hl1 := Lib.hid (show logLocal L x = if wRight (withId x (lMax L.hav + 1) L.rep) ≠ .nil then .inl (wRight (withId x (lMax L.hav + 1) L.rep))
            else if 300 ≤ L.wrs.length then .inl (.no 12)
            else match vJoin L.hav [⟨L.rep, lMax L.hav + 1⟩] with
              | .inl k => .inl (.no k)
              | .inr h => .inr ⟨L.rep, h, L.wrs ++ [withId x (lMax L.hav + 1) L.rep]⟩ by rw [logLocal, if_neg hT])
        have p0 := hy.get q0
        have p1 := hy.get q1
        have p2 := hy.get q2
        have hbne : b ≠ w.heap.size := by omega
        have hbne1 : b ≠ w.heap.size + 1 := by omega
        have T2 : lMax L.hav + 1 ≤ 1099511627776 := by omega
        clear hT
        go_wp2_with fail
        have hW1 : Ext w ((wr.setCell ⟨w.heap.size, 0, none⟩ (.int .i64 (lMax L.hav + 1))).setCell ⟨w.heap.size, 1, none⟩ (.int .i64 L.rep)) := Ext.set (Ext.set hy (by simp) _) (by simp) _
        refine (wRight_any (withId x (lMax L.hav + 1) L.rep) _ hf.1 hf.2.1 hf.2.2.1 hf.2.2.2).mono ?_
        rintro e w5 ⟨v5, rfl, he5, hx5⟩
        have hy5 : Ext w w5 := hW1.trans hx5
        have r0' := hx5.get (p := ⟨w.heap.size + 1, 0, none⟩) (v := .int .i64 0) (by simp [go_sem, r0])
        have r1' := hx5.get (p := ⟨w.heap.size + 1, 1, none⟩) (v := .int .i64 0) (by simp [go_sem, r1])
        have e0' : w5.frozen? ⟨w.heap.size + 1, 0, none⟩ = false := (hx5.frozen (p := ⟨w.heap.size + 1, 0, none⟩) (by have := hbel.size; simp at this ⊢; omega)).trans (by simp [go_sem, e0])
        have e1' : w5.frozen? ⟨w.heap.size + 1, 1, none⟩ = false := (hx5.frozen (p := ⟨w.heap.size + 1, 1, none⟩) (by have := hbel.size; simp at this ⊢; omega)).trans (by simp [go_sem, e1])
        have c0' := hx5.get (p := ⟨w.heap.size, 0, none⟩) (v := .int .i64 (lMax L.hav + 1)) (by simp [go_sem, c0])
        have c1' := hx5.get (p := ⟨w.heap.size, 1, none⟩) (v := .int .i64 L.rep) (by simp [go_sem, c1])
        have c2' := hx5.get (p := ⟨w.heap.size, 2, none⟩) (v := .int .i64 x.kind) (by simp [go_sem, c2])
        have c3' := hx5.get (p := ⟨w.heap.size, 3, none⟩) (v := .string x.key) (by simp [go_sem, c3])
        have c4' := hx5.get (p := ⟨w.heap.size, 4, none⟩) (v := .string x.val) (by simp [go_sem, c4])
        have c5' := hx5.get (p := ⟨w.heap.size, 5, none⟩) (v := .int .i64 x.n) (by simp [go_sem, c5])
        have p0' := hy5.get q0
        have p1' := hy5.get q1
        have p2' := hy5.get q2
        clear r0 r1 e0 e1 c0 c1 c2 c3 c4 c5 f0 f1 p0 p1 p2
        by_cases hwr : wRight (withId x (lMax L.hav + 1) L.rep) = .nil
        · have HW := Lib.hid hwr
          rw [hwr] at he5
          obtain rfl : v5 = _ := he5
          have hl2 := Lib.hid (show logLocal L x = if 300 ≤ L.wrs.length then .inl (.no 12)
            else match vJoin L.hav [⟨L.rep, lMax L.hav + 1⟩] with
              | .inl k => .inl (.no k)
              | .inr h => .inr ⟨L.rep, h, L.wrs ++ [withId x (lMax L.hav + 1) L.rep]⟩ by rw [hl1.out, if_neg (by rw [hwr]; simp)])
          clear hwr
          by_cases h300 : 300 ≤ L.wrs.length
          · go_wp2_with fail
            refine bodyPost_ret (v := .tuple #[.agg #[.int .i64 0, .int .i64 0], .iface 50 (.int .i64 12)]) ?_ rfl ?_
            · simp [results, Tryz.results22, go_sem, r0', r1', e0', e1']
            · exact LocalPost.err (er := .no 12) (by rw [hl2.out, if_pos h300]) (by simp) rfl rfl (Ext.set (Ext.set hy5 (by simp) _) (by simp) _)
          · have hl3 := Lib.hid (show logLocal L x = match vJoin L.hav [⟨L.rep, lMax L.hav + 1⟩] with
              | .inl k => .inl (.no k)
              | .inr h => .inr ⟨L.rep, h, L.wrs ++ [withId x (lMax L.hav + 1) L.rep]⟩ by rw [hl2.out, if_neg h300])
            have hwrap : IntKind.i64.wrap (lMax L.hav + 1) = lMax L.hav + 1 := IntWalk.i64_in _ (by omega)
            go_wp2_with fail
            rcases hvj : vJoin L.hav [⟨L.rep, lMax L.hav + 1⟩] with kk | hh
            · have HV := Lib.hid hvj
              have hl4 := Lib.hid (show logLocal L x = .inl (.no kk) by rw [hl3.out, hvj])
              clear hvj
              refine wp_region_held_drew (S := fun w' => w'.cell? ⟨b, 0, none⟩ = some (.int .i64 L.rep) ∧ w'.cell? ⟨b, 1, none⟩ = some (.slice ha L.hav.length hc)) (by kernel_rfl) ⟨p0', p1'⟩ (fun hS => ?_)
              refine wpAnyH_take (i := 0) (oi := ⟨_, _, _, _, _, _⟩) (v := ?_) rfl (by kernel_rfl) (by kernel_rfl) (by kernel_rfl) (fun _ _ _ h => h) (Or.inl ⟨by rfl, ?_⟩) (by assumption) ?_
              rotate_left
              · intro w hSw
                (try dsimp only at hSw)
                first | (go_simp; done) | (go_simp; with_reducible rfl)
              simp only [Act.put, List.setIfInBounds_toArray, List.set_cons_zero, List.set_cons_succ]
              refine wpAnyH_take (i := 1) (oi := ⟨_, _, _, _, _, _⟩) (v := ?_) rfl (by kernel_rfl) (by kernel_rfl) (by kernel_rfl) (fun _ _ _ h => h) (Or.inl ⟨by rfl, ?_⟩) (by assumption) ?_
              rotate_left
              · intro w hSw
                (try dsimp only at hSw)
                first | (go_simp; done) | (go_simp; with_reducible rfl)
              simp only [Act.put, List.setIfInBounds_toArray, List.set_cons_zero, List.set_cons_succ]
              refine wpAnyH_take (i := 2) (oi := ⟨_, _, _, _, _, _⟩) (v := ?_) rfl (by kernel_rfl) (by kernel_rfl) (by kernel_rfl) (fun _ _ _ h => h) (Or.inl ⟨by rfl, ?_⟩) (by assumption) ?_
              rotate_left
              · intro w hSw
                (try dsimp only at hSw)
                first | (go_simp; done) | (go_simp; with_reducible rfl)
              simp only [Act.put, List.setIfInBounds_toArray, List.set_cons_zero, List.set_cons_succ]
              refine wpAnyH_take (i := 3) (oi := ⟨_, _, _, _, _, _⟩) (v := ?_) rfl (by kernel_rfl) (by kernel_rfl) (by kernel_rfl) (fun _ _ _ h => h) (Or.inl ⟨by rfl, ?_⟩) (by assumption) ?_
              rotate_left
              · intro w hSw
                (try dsimp only at hSw)
                first | (go_simp; done) | (go_simp; with_reducible rfl)
              simp only [Act.put, List.setIfInBounds_toArray, List.set_cons_zero, List.set_cons_succ]
              refine wpAnyH_take (i := 4) (oi := ⟨_, _, _, _, _, _⟩) (v := ?_) rfl (by kernel_rfl) (by kernel_rfl) (by kernel_rfl) (fun _ _ _ h => h) (Or.inl ⟨by rfl, ?_⟩) (by assumption) ?_
              rotate_left
              · intro w hSw
                (try dsimp only at hSw)
                first | (go_simp; done) | (go_simp; with_reducible rfl)
              simp only [Act.put, List.setIfInBounds_toArray, List.set_cons_zero, List.set_cons_succ]
              refine wpAnyH_take (i := 5) (oi := ⟨_, _, _, _, _, _⟩) (v := ?_) rfl (by kernel_rfl) (by kernel_rfl) (by kernel_rfl) (fun _ _ _ h => h) (Or.inl ⟨by rfl, ?_⟩) (by assumption) ?_
              rotate_left
              · intro w hSw
                (try dsimp only at hSw)
                first | (go_simp; done) | (go_simp; with_reducible rfl)
              simp only [Act.put, List.setIfInBounds_toArray, List.set_cons_zero, List.set_cons_succ]
              refine wpAnyH_take (i := 6) (oi := ⟨_, _, _, _, _, _⟩) (v := ?_) rfl (by kernel_rfl) (by kernel_rfl) (by kernel_rfl) (fun _ _ _ h => h) (Or.inl ⟨by rfl, ?_⟩) (by assumption) ?_
              rotate_left
              · intro w hSw
                (try dsimp only at hSw)
                first | (go_simp; done) | (go_simp; with_reducible rfl)
              simp only [Act.put, List.setIfInBounds_toArray, List.set_cons_zero, List.set_cons_succ]
              refine wpAnyH_take (i := 7) (oi := ⟨_, _, _, _, _, _⟩) (v := ?_) rfl (by kernel_rfl) (by kernel_rfl) (by kernel_rfl) (fun _ _ _ h => h) (Or.inl ⟨by rfl, ?_⟩) (by assumption) ?_
              rotate_left
              · intro w hSw
                (try dsimp only at hSw)
                first | (go_simp; done) | (go_simp; with_reducible rfl)
              simp only [Act.put, List.setIfInBounds_toArray, List.set_cons_zero, List.set_cons_succ]
              refine wpAnyH_take (i := 8) (oi := ⟨_, _, _, _, _, _⟩) (v := ?_) rfl (by kernel_rfl) (by kernel_rfl) (by kernel_rfl) (fun _ _ _ h => h) (Or.inl ⟨by rfl, ?_⟩) (by assumption) ?_
              rotate_left
              · intro w hSw
                (try dsimp only at hSw)
                first | (go_simp; done) | (go_simp; with_reducible rfl)
              simp only [Act.put, List.setIfInBounds_toArray, List.set_cons_zero, List.set_cons_succ]
              refine wpAnyH_take (i := 9) (oi := ⟨_, _, _, _, _, _⟩) (v := ?_) rfl (by kernel_rfl) (by kernel_rfl) (by kernel_rfl) (fun _ _ _ h => h) (Or.inl ⟨by rfl, ?_⟩) (by assumption) ?_
              rotate_left
              · intro w hSw
                (try dsimp only at hSw)
                first | (go_simp; done) | (go_simp; with_reducible rfl)
              simp only [Act.put, List.setIfInBounds_toArray, List.set_cons_zero, List.set_cons_succ]
              refine wpAnyH_take (i := 10) (oi := ⟨_, _, _, _, _, _⟩) (v := ?_) rfl (by kernel_rfl) (by kernel_rfl) (by kernel_rfl) (fun _ _ _ h => h) (Or.inl ⟨by rfl, ?_⟩) (by assumption) ?_
              rotate_left
              · intro w hSw
                (try dsimp only at hSw)
                first | (go_simp; done) | (go_simp; with_reducible rfl)
              simp only [Act.put, List.setIfInBounds_toArray, List.set_cons_zero, List.set_cons_succ]
              refine wpAnyH_ready (rs := [11]) (by kernel_rfl) (by simp) ?_
              refine AllReadyH.cons (o := ⟨_, _, _, _, _, _⟩) rfl (fun K hK => ?_) AllReadyH.nil
              go_simp
              refine hK.out _ _ ?_ (fun hS2 => ?_)
              · exact ⟨((Ext.refl _).alloc _).get hS.1, ((Ext.refl _).alloc _).get hS.2⟩
              clear hK K
              (try simp only [Act.put, List.setIfInBounds_toArray, List.set_cons_zero, List.set_cons_succ])
              refine wpAnyH_ready (rs := [12]) (by kernel_rfl) (by simp) ?_
              refine AllReadyH.cons (o := ⟨_, _, _, _, _, _⟩) rfl (fun K hK => ?_) AllReadyH.nil
              go_simp
              refine (Join_any L.hav [⟨L.rep, lMax L.hav + 1⟩] ha (some ⟨w5.heap.size, 0, none⟩) hc 1 _ (hg.ext (hy5.drew.alloc _)) (Nat.lt_trans hl (by decide)) (by simp) hhc (by simp) (hhrow.ents.ext (hy5.drew.alloc _)) (by exact ents_one w5.drew w5.heap.size _ rfl)).mono ?_
              rintro e w7 ⟨hj1, hj2, hx7⟩
              obtain rfl := hj1 kk HV.out
              refine hK.out _ _ ?_ (fun hS2 => ?_)
              · exact ⟨hx7.get hS2.1, hx7.get hS2.2⟩
              clear hK K
              (try simp only [Act.put, List.setIfInBounds_toArray, List.set_cons_zero, List.set_cons_succ])
              refine wpAnyH_take (i := 13) (oi := ⟨_, _, _, _, _, _⟩) (v := ?_) rfl (by kernel_rfl) (by kernel_rfl) (by kernel_rfl) (fun _ _ _ h => h) (Or.inl ⟨by rfl, ?_⟩) (by assumption) ?_
              rotate_left
              · intro w hSw
                (try dsimp only at hSw)
                first | (go_simp; done) | (go_simp; with_reducible rfl)
              simp only [Act.put, List.setIfInBounds_toArray, List.set_cons_zero, List.set_cons_succ]
              refine wpAnyH_take (i := 14) (oi := ⟨_, _, _, _, _, _⟩) (v := ?_) rfl (by kernel_rfl) (by kernel_rfl) (by kernel_rfl) (fun _ _ _ h => h) (Or.inl ⟨by rfl, ?_⟩) (by assumption) ?_
              rotate_left
              · intro w hSw
                (try dsimp only at hSw)
                first | (go_simp; done) | (go_simp; with_reducible rfl)
              simp only [Act.put, List.setIfInBounds_toArray, List.set_cons_zero, List.set_cons_succ]
              refine wpAnyH_take (i := 15) (oi := ⟨_, _, _, _, _, _⟩) (v := ?_) rfl (by kernel_rfl) (by kernel_rfl) (by kernel_rfl) (fun _ _ _ h => h) (Or.inl ⟨by rfl, ?_⟩) (by assumption) ?_
              rotate_left
              · intro w hSw
                (try dsimp only at hSw)
                first | (go_simp; done) | (go_simp; with_reducible rfl)
              simp only [Act.put, List.setIfInBounds_toArray, List.set_cons_zero, List.set_cons_succ]
              refine wpAnyH_take (i := 16) (oi := ⟨_, _, _, _, _, _⟩) (v := ?_) rfl (by kernel_rfl) (by kernel_rfl) (by kernel_rfl) (fun _ _ _ h => h) (Or.inl ⟨by rfl, ?_⟩) (by assumption) ?_
              rotate_left
              · intro w hSw
                (try dsimp only at hSw)
                first | (go_simp; done) | (go_simp; with_reducible rfl)
              simp only [Act.put, List.setIfInBounds_toArray, List.set_cons_zero, List.set_cons_succ]
              refine wpAnyH_take (i := 17) (oi := ⟨_, _, _, _, _, _⟩) (v := ?_) rfl (by kernel_rfl) (by kernel_rfl) (by kernel_rfl) (fun _ _ _ h => h) (Or.inl ⟨by rfl, ?_⟩) (by assumption) ?_
              rotate_left
              · intro w hSw
                (try dsimp only at hSw)
                first | (go_simp; done) | (go_simp; with_reducible rfl)
              simp only [Act.put, List.setIfInBounds_toArray, List.set_cons_zero, List.set_cons_succ]
              refine wpAnyH_done (by kernel_rfl) ?_ _
              have hx57 : Ext w5 w7 := Ext.trans ((Ext.refl w5).drew.alloc _) hx7
              have hy7 : Ext w w7 := hy5.trans hx57
              have r0'' := hx57.get r0'
              have r1'' := hx57.get r1'
              have e0'' := hx57.free r0' e0'
              have e1'' := hx57.free r1' e1'
              clear hwrap
              go_wp2_with fail
              refine bodyPost_ret (v := .tuple #[.agg #[.int .i64 0, .int .i64 0], .iface 50 (.int .i64 kk)]) ?_ rfl ?_
              · simp [results, Tryz.results22, go_sem, r0'', r1'', e0'', e1'']
              · exact LocalPost.err (er := .no kk) hl4.out (by simp) rfl rfl (Ext.set (Ext.set hy7 (by simp) _) (by simp) _)
            · have HV := Lib.hid hvj
              have hl4 := Lib.hid (show logLocal L x = .inr ⟨L.rep, hh, L.wrs ++ [withId x (lMax L.hav + 1) L.rep]⟩ by rw [hl3.out, hvj])
              clear hvj
              refine wp_region_held_drew (S := fun w' => w'.cell? ⟨b, 0, none⟩ = some (.int .i64 L.rep) ∧ w'.cell? ⟨b, 1, none⟩ = some (.slice ha L.hav.length hc)) (by kernel_rfl) ⟨p0', p1'⟩ (fun hS => ?_)
              refine wpAnyH_take (i := 0) (oi := ⟨_, _, _, _, _, _⟩) (v := ?_) rfl (by kernel_rfl) (by kernel_rfl) (by kernel_rfl) (fun _ _ _ h => h) (Or.inl ⟨by rfl, ?_⟩) (by assumption) ?_
              rotate_left
              · intro w hSw
                (try dsimp only at hSw)
                first | (go_simp; done) | (go_simp; with_reducible rfl)
              simp only [Act.put, List.setIfInBounds_toArray, List.set_cons_zero, List.set_cons_succ]
              refine wpAnyH_take (i := 1) (oi := ⟨_, _, _, _, _, _⟩) (v := ?_) rfl (by kernel_rfl) (by kernel_rfl) (by kernel_rfl) (fun _ _ _ h => h) (Or.inl ⟨by rfl, ?_⟩) (by assumption) ?_
              rotate_left
              · intro w hSw
                (try dsimp only at hSw)
                first | (go_simp; done) | (go_simp; with_reducible rfl)
              simp only [Act.put, List.setIfInBounds_toArray, List.set_cons_zero, List.set_cons_succ]
              refine wpAnyH_take (i := 2) (oi := ⟨_, _, _, _, _, _⟩) (v := ?_) rfl (by kernel_rfl) (by kernel_rfl) (by kernel_rfl) (fun _ _ _ h => h) (Or.inl ⟨by rfl, ?_⟩) (by assumption) ?_
              rotate_left
              · intro w hSw
                (try dsimp only at hSw)
                first | (go_simp; done) | (go_simp; with_reducible rfl)
              simp only [Act.put, List.setIfInBounds_toArray, List.set_cons_zero, List.set_cons_succ]
              refine wpAnyH_take (i := 3) (oi := ⟨_, _, _, _, _, _⟩) (v := ?_) rfl (by kernel_rfl) (by kernel_rfl) (by kernel_rfl) (fun _ _ _ h => h) (Or.inl ⟨by rfl, ?_⟩) (by assumption) ?_
              rotate_left
              · intro w hSw
                (try dsimp only at hSw)
                first | (go_simp; done) | (go_simp; with_reducible rfl)
              simp only [Act.put, List.setIfInBounds_toArray, List.set_cons_zero, List.set_cons_succ]
              refine wpAnyH_take (i := 4) (oi := ⟨_, _, _, _, _, _⟩) (v := ?_) rfl (by kernel_rfl) (by kernel_rfl) (by kernel_rfl) (fun _ _ _ h => h) (Or.inl ⟨by rfl, ?_⟩) (by assumption) ?_
              rotate_left
              · intro w hSw
                (try dsimp only at hSw)
                first | (go_simp; done) | (go_simp; with_reducible rfl)
              simp only [Act.put, List.setIfInBounds_toArray, List.set_cons_zero, List.set_cons_succ]
              refine wpAnyH_take (i := 5) (oi := ⟨_, _, _, _, _, _⟩) (v := ?_) rfl (by kernel_rfl) (by kernel_rfl) (by kernel_rfl) (fun _ _ _ h => h) (Or.inl ⟨by rfl, ?_⟩) (by assumption) ?_
              rotate_left
              · intro w hSw
                (try dsimp only at hSw)
                first | (go_simp; done) | (go_simp; with_reducible rfl)
              simp only [Act.put, List.setIfInBounds_toArray, List.set_cons_zero, List.set_cons_succ]
              refine wpAnyH_take (i := 6) (oi := ⟨_, _, _, _, _, _⟩) (v := ?_) rfl (by kernel_rfl) (by kernel_rfl) (by kernel_rfl) (fun _ _ _ h => h) (Or.inl ⟨by rfl, ?_⟩) (by assumption) ?_
              rotate_left
              · intro w hSw
                (try dsimp only at hSw)
                first | (go_simp; done) | (go_simp; with_reducible rfl)
              simp only [Act.put, List.setIfInBounds_toArray, List.set_cons_zero, List.set_cons_succ]
              refine wpAnyH_take (i := 7) (oi := ⟨_, _, _, _, _, _⟩) (v := ?_) rfl (by kernel_rfl) (by kernel_rfl) (by kernel_rfl) (fun _ _ _ h => h) (Or.inl ⟨by rfl, ?_⟩) (by assumption) ?_
              rotate_left
              · intro w hSw
                (try dsimp only at hSw)
                first | (go_simp; done) | (go_simp; with_reducible rfl)
              simp only [Act.put, List.setIfInBounds_toArray, List.set_cons_zero, List.set_cons_succ]
              refine wpAnyH_take (i := 8) (oi := ⟨_, _, _, _, _, _⟩) (v := ?_) rfl (by kernel_rfl) (by kernel_rfl) (by kernel_rfl) (fun _ _ _ h => h) (Or.inl ⟨by rfl, ?_⟩) (by assumption) ?_
              rotate_left
              · intro w hSw
                (try dsimp only at hSw)
                first | (go_simp; done) | (go_simp; with_reducible rfl)
              simp only [Act.put, List.setIfInBounds_toArray, List.set_cons_zero, List.set_cons_succ]
              refine wpAnyH_take (i := 9) (oi := ⟨_, _, _, _, _, _⟩) (v := ?_) rfl (by kernel_rfl) (by kernel_rfl) (by kernel_rfl) (fun _ _ _ h => h) (Or.inl ⟨by rfl, ?_⟩) (by assumption) ?_
              rotate_left
              · intro w hSw
                (try dsimp only at hSw)
                first | (go_simp; done) | (go_simp; with_reducible rfl)
              simp only [Act.put, List.setIfInBounds_toArray, List.set_cons_zero, List.set_cons_succ]
              refine wpAnyH_take (i := 10) (oi := ⟨_, _, _, _, _, _⟩) (v := ?_) rfl (by kernel_rfl) (by kernel_rfl) (by kernel_rfl) (fun _ _ _ h => h) (Or.inl ⟨by rfl, ?_⟩) (by assumption) ?_
              rotate_left
              · intro w hSw
                (try dsimp only at hSw)
                first | (go_simp; done) | (go_simp; with_reducible rfl)
              simp only [Act.put, List.setIfInBounds_toArray, List.set_cons_zero, List.set_cons_succ]
              refine wpAnyH_ready (rs := [11]) (by kernel_rfl) (by simp) ?_
              refine AllReadyH.cons (o := ⟨_, _, _, _, _, _⟩) rfl (fun K hK => ?_) AllReadyH.nil
              go_simp
              refine hK.out _ _ ?_ (fun hS2 => ?_)
              · exact ⟨((Ext.refl _).alloc _).get hS.1, ((Ext.refl _).alloc _).get hS.2⟩
              clear hK K
              (try simp only [Act.put, List.setIfInBounds_toArray, List.set_cons_zero, List.set_cons_succ])
              refine wpAnyH_ready (rs := [12]) (by kernel_rfl) (by simp) ?_
              refine AllReadyH.cons (o := ⟨_, _, _, _, _, _⟩) rfl (fun K hK => ?_) AllReadyH.nil
              go_simp
              refine (Join_any L.hav [⟨L.rep, lMax L.hav + 1⟩] ha (some ⟨w5.heap.size, 0, none⟩) hc 1 _ (hg.ext (hy5.drew.alloc _)) (Nat.lt_trans hl (by decide)) (by simp) hhc (by simp) (hhrow.ents.ext (hy5.drew.alloc _)) (by exact ents_one w5.drew w5.heap.size _ rfl)).mono ?_
              rintro e w7 ⟨hj1, hj2, hx7⟩
              obtain ⟨nx, rfl, hnx⟩ := hj2 hh HV.out
              unfold NewEnts at hnx
              obtain ⟨na, nc, rfl, hnc, hnrow, hnnil, hnb⟩ := own_row hnx
              refine hK.out _ _ ?_ (fun hS2 => ?_)
              · exact ⟨hx7.get hS2.1, hx7.get hS2.2⟩
              clear hK K
              (try simp only [Act.put, List.setIfInBounds_toArray, List.set_cons_zero, List.set_cons_succ])
              refine wpAnyH_take (i := 13) (oi := ⟨_, _, _, _, _, _⟩) (v := ?_) rfl (by kernel_rfl) (by kernel_rfl) (by kernel_rfl) (fun _ _ _ h => h) (Or.inl ⟨by rfl, ?_⟩) (by assumption) ?_
              rotate_left
              · intro w hSw
                (try dsimp only at hSw)
                first | (go_simp; done) | (go_simp; with_reducible rfl)
              simp only [Act.put, List.setIfInBounds_toArray, List.set_cons_zero, List.set_cons_succ]
              refine wpAnyH_take (i := 14) (oi := ⟨_, _, _, _, _, _⟩) (v := ?_) rfl (by kernel_rfl) (by kernel_rfl) (by kernel_rfl) (fun _ _ _ h => h) (Or.inl ⟨by rfl, ?_⟩) (by assumption) ?_
              rotate_left
              · intro w hSw
                (try dsimp only at hSw)
                first | (go_simp; done) | (go_simp; with_reducible rfl)
              simp only [Act.put, List.setIfInBounds_toArray, List.set_cons_zero, List.set_cons_succ]
              refine wpAnyH_take (i := 15) (oi := ⟨_, _, _, _, _, _⟩) (v := ?_) rfl (by kernel_rfl) (by kernel_rfl) (by kernel_rfl) (fun _ _ _ h => h) (Or.inl ⟨by rfl, ?_⟩) (by assumption) ?_
              rotate_left
              · intro w hSw
                (try dsimp only at hSw)
                first | (go_simp; done) | (go_simp; with_reducible rfl)
              simp only [Act.put, List.setIfInBounds_toArray, List.set_cons_zero, List.set_cons_succ]
              refine wpAnyH_take (i := 16) (oi := ⟨_, _, _, _, _, _⟩) (v := ?_) rfl (by kernel_rfl) (by kernel_rfl) (by kernel_rfl) (fun _ _ _ h => h) (Or.inl ⟨by rfl, ?_⟩) (by assumption) ?_
              rotate_left
              · intro w hSw
                (try dsimp only at hSw)
                first | (go_simp; done) | (go_simp; with_reducible rfl)
              simp only [Act.put, List.setIfInBounds_toArray, List.set_cons_zero, List.set_cons_succ]
              refine wpAnyH_take (i := 17) (oi := ⟨_, _, _, _, _, _⟩) (v := ?_) rfl (by kernel_rfl) (by kernel_rfl) (by kernel_rfl) (fun _ _ _ h => h) (Or.inl ⟨by rfl, ?_⟩) (by assumption) ?_
              rotate_left
              · intro w hSw
                (try dsimp only at hSw)
                first | (go_simp; done) | (go_simp; with_reducible rfl)
              simp only [Act.put, List.setIfInBounds_toArray, List.set_cons_zero, List.set_cons_succ]
              refine wpAnyH_done (by kernel_rfl) ?_ _
              have hx57 : Ext w5 w7 := Ext.trans ((Ext.refl w5).drew.alloc _) hx7
              have hy7 : Ext w w7 := hy5.trans hx57
              have r0'' := hx57.get r0'
              have r1'' := hx57.get r1'
              have e0'' := hx57.free r0' e0'
              have e1'' := hx57.free r1' e1'
              have c0'' := hx57.get c0'
              have c1'' := hx57.get c1'
              have c2'' := hx57.get c2'
              have c3'' := hx57.get c3'
              have c4'' := hx57.get c4'
              have c5'' := hx57.get c5'
              have p1'' := hx57.get p1'
              have p2'' := hx57.get p2'
              have k1 : w7.frozen? ⟨b, 1, none⟩ = false := hy7.free q1 (free_blk hLog.blk)
              have k2 : w7.frozen? ⟨b, 2, none⟩ = false := hy7.free q2 (free_blk hLog.blk)
              have hsz5 : w.heap.size + 1 < w5.heap.size := lt_of_cell r0'
              have hsz57 : w.heap.size + 1 < w7.heap.size := lt_of_cell r0''
              clear hwrap r0' r1' e0' e1' c0' c1' c2' c3' c4' c5' p0' p1' p2'
              have hwb : (Value.slice wa L.wrs.length wc).ownBlock ≠ some b := own_ne hLog.wown hLog.blk (by decide)
              have hbw1 : w.heap.size ≠ b := fun h => hbne h.symm
              have hown := own_set (own_ext hLog.wown hy7) hwb (a := ⟨b, 1, none⟩) (.slice na hh.length nc)
              obtain ⟨i0, hi0, hi1, hi2, hi3⟩ := info_parts info_Wr
              have hsz7 : w.heap.size ≤ w7.heap.size := hy7.size
              have hb7 : b < w7.heap.size := by omega
              have hbw2 : w.heap.size + 1 ≠ b := fun h => hbne1 h.symm
              have hws1 : some (w.heap.size + 1) ≠ (Value.slice wa L.wrs.length wc).ownBlock := fun hh => by
                have := own_lt hLog.wown _ hh.symm
                omega
              have hws : some w.heap.size ≠ (Value.slice wa L.wrs.length wc).ownBlock := fun hh => by
                have := own_lt hLog.wown _ hh.symm
                omega
              have HL := Lib.hid hlw
              go_wp2_with fail
              refine wp_region_held_drew (S := fun w' => w'.cell? ⟨w.heap.size, 0, none⟩ = some (.int .i64 (lMax L.hav + 1)) ∧ w'.cell? ⟨w.heap.size, 1, none⟩ = some (.int .i64 L.rep) ∧ w'.cell? ⟨w.heap.size, 2, none⟩ = some (.int .i64 x.kind) ∧ w'.cell? ⟨w.heap.size, 3, none⟩ = some (.string x.key) ∧ w'.cell? ⟨w.heap.size, 4, none⟩ = some (.string x.val) ∧ w'.cell? ⟨w.heap.size, 5, none⟩ = some (.int .i64 x.n)) (by kernel_rfl) ⟨set_get hbw1 c0'', set_get hbw1 c1'', set_get hbw1 c2'', set_get hbw1 c3'', set_get hbw1 c4'', set_get hbw1 c5''⟩ (fun hS => ?_)
              refine wpAnyH_take (i := 0) (oi := ⟨_, _, _, _, _, _⟩) (v := ?_) rfl (by kernel_rfl) (by kernel_rfl) (by kernel_rfl) (fun _ _ _ h => h) (Or.inl ⟨by rfl, ?_⟩) (by assumption) ?_
              rotate_left
              · intro w hSw
                (try dsimp only at hSw)
                first | (go_simp; done) | (go_simp; with_reducible rfl)
              simp only [Act.put, List.setIfInBounds_toArray, List.set_cons_zero, List.set_cons_succ]
              refine wpAnyH_take (i := 1) (oi := ⟨_, _, _, _, _, _⟩) (v := ?_) rfl (by kernel_rfl) (by kernel_rfl) (by kernel_rfl) (fun _ _ _ h => h) (Or.inl ⟨by rfl, ?_⟩) (by assumption) ?_
              rotate_left
              · intro w hSw
                (try dsimp only at hSw)
                first | (go_simp; done) | (go_simp; with_reducible rfl)
              simp only [Act.put, List.setIfInBounds_toArray, List.set_cons_zero, List.set_cons_succ]
              refine wpAnyH_take (i := 2) (oi := ⟨_, _, _, _, _, _⟩) (v := ?_) rfl (by kernel_rfl) (by kernel_rfl) (by kernel_rfl) (fun _ _ _ h => h) (Or.inl ⟨by rfl, ?_⟩) (by assumption) ?_
              rotate_left
              · intro w hSw
                (try dsimp only at hSw)
                first | (go_simp; done) | (go_simp; with_reducible rfl)
              simp only [Act.put, List.setIfInBounds_toArray, List.set_cons_zero, List.set_cons_succ]
              refine wpAnyH_take (i := 3) (oi := ⟨_, _, _, _, _, _⟩) (v := ?_) rfl (by kernel_rfl) (by kernel_rfl) (by kernel_rfl) (fun _ _ _ h => h) (Or.inl ⟨by rfl, ?_⟩) (by assumption) ?_
              rotate_left
              · intro w hSw
                (try dsimp only at hSw)
                first | (go_simp; done) | (go_simp; with_reducible rfl)
              simp only [Act.put, List.setIfInBounds_toArray, List.set_cons_zero, List.set_cons_succ]
              refine wpAnyH_take (i := 5) (oi := ⟨_, _, _, _, _, _⟩) (v := ?_) rfl (by kernel_rfl) (by kernel_rfl) (by kernel_rfl) (fun _ _ _ h => h) (Or.inl ⟨by rfl, ?_⟩) (by assumption) ?_
              rotate_left
              · intro w hSw
                (try dsimp only at hSw)
                first | (go_simp; done) | (go_simp; with_reducible rfl)
              simp only [Act.put, List.setIfInBounds_toArray, List.set_cons_zero, List.set_cons_succ]
              refine wpAnyH_ready (rs := [4, 6]) (by kernel_rfl) (by simp) ?_
              refine AllReadyH.cons (o := ⟨_, _, _, _, _, _⟩) rfl (fun K hK => ?_) (AllReadyH.cons (o := ⟨_, _, _, _, _, _⟩) rfl (fun K hK => ?_) (AllReadyH.nil))
              · go_simp
                refine hK.out _ _ ?_ (fun hS2 => ?_)
                · exact hS
                clear hK K
                (try simp only [Act.put, List.setIfInBounds_toArray, List.set_cons_zero, List.set_cons_succ])
                refine wpAnyH_ready (rs := [6]) (by kernel_rfl) (by simp) ?_
                refine AllReadyH.cons (o := ⟨_, _, _, _, _, _⟩) rfl (fun K hK => ?_) AllReadyH.nil
                go_simp
                refine hK.out _ _ ?_ (fun hS2 => ?_)
                · exact ⟨((Ext.refl _).alloc _).get hS.1, ((Ext.refl _).alloc _).get hS.2.1, ((Ext.refl _).alloc _).get hS.2.2.1, ((Ext.refl _).alloc _).get hS.2.2.2.1, ((Ext.refl _).alloc _).get hS.2.2.2.2.1, ((Ext.refl _).alloc _).get hS.2.2.2.2.2⟩
                clear hK K
                (try simp only [Act.put, List.setIfInBounds_toArray, List.set_cons_zero, List.set_cons_succ])
                refine wpAnyH_ready (rs := [7]) (by kernel_rfl) (by simp) ?_
                refine AllReadyH.cons (o := ⟨_, _, _, _, _, _⟩) rfl (fun K hK => ?_) AllReadyH.nil
                refine step_append_lies _ (by rfl) _ _ _ (by rfl) 0 33 i0 _ 6 64 Tryz.underlying23 hi0 hi1 hi2 hi3 rfl (by omega) (.slice wa L.wrs.length wc) L.wrs.length (wCells L.wrs) (by rfl) (own_ext hown (((Ext.refl _).alloc _).drew))
                  ⟨w7.heap.size, 0, none⟩ 1 1 (wCells1 (withId x (lMax L.hav + 1) L.rep)) (by rfl) (by rfl) (World.news_of_block (cs := (wCells1 (withId x (lMax L.hav + 1) L.rep)).toArray) (t := 33) (fr := (0, 0)) (by exact blk_new_drew _ _ _ (by simp))) (by simp [wCells1, Value.oneCell'])
                  (by omega) (by have := HL.out; unfold maxLen; omega) (by have := HL.out; omega) (by omega) (w7.heap.size + 1) (by simp) ?_
                intro g cap w9 hown9 hgrow hat hlt9
                have t2 := grown_get hgrow (p := ⟨b, 2, none⟩) (v := .slice wa L.wrs.length wc) (fun h => hwb h.symm) (by simp [go_sem, p2'', hb7])
                have t3 := grown_free hgrow (p := ⟨b, 2, none⟩) (by simp; omega) (fun h => hwb h.symm) (by simp [go_sem, k2, hb7])
                have t4 := grown_get hgrow (p := ⟨w.heap.size + 1, 0, none⟩) (v := .int .i64 0) hws1 (((Ext.refl _).alloc _).get (show ((w7.setCell ⟨b, 1, none⟩ (.slice na hh.length nc)).drew).cell? _ = _ from set_get hbw2 r0''))
                have t5 := grown_get hgrow (p := ⟨w.heap.size + 1, 1, none⟩) (v := .int .i64 0) hws1 (((Ext.refl _).alloc _).get (show ((w7.setCell ⟨b, 1, none⟩ (.slice na hh.length nc)).drew).cell? _ = _ from set_get hbw2 r1''))
                have t6 := grown_free hgrow (p := ⟨w.heap.size + 1, 0, none⟩) (by simp; have := lt_of_cell r0''; simp at this; omega) hws1 (by simp [go_sem, e0'', lt_of_cell r0'', hbw2])
                have t7 := grown_free hgrow (p := ⟨w.heap.size + 1, 1, none⟩) (by simp; have := lt_of_cell r1''; simp at this; omega) hws1 (by simp [go_sem, e1'', lt_of_cell r1'', hbw2])
                refine hK.out _ _ ?_ (fun hS3 => ?_)
                · exact ⟨grown_get hgrow hws (((Ext.refl _).alloc _).get hS.1), grown_get hgrow hws (((Ext.refl _).alloc _).get hS.2.1), grown_get hgrow hws (((Ext.refl _).alloc _).get hS.2.2.1), grown_get hgrow hws (((Ext.refl _).alloc _).get hS.2.2.2.1), grown_get hgrow hws (((Ext.refl _).alloc _).get hS.2.2.2.2.1), grown_get hgrow hws (((Ext.refl _).alloc _).get hS.2.2.2.2.2)⟩
                clear hK K
                (try simp only [Act.put, List.setIfInBounds_toArray, List.set_cons_zero, List.set_cons_succ])
                refine wpAnyH_take (i := 8) (oi := ⟨_, _, _, _, _, _⟩) (v := ?_) rfl (by kernel_rfl) (by kernel_rfl) (by kernel_rfl) (fun _ _ _ h => h) (Or.inl ⟨by rfl, ?_⟩) (by assumption) ?_
                rotate_left
                · intro w hSw
                  (try dsimp only at hSw)
                  first | (go_simp; done) | (go_simp; with_reducible rfl)
                simp only [Act.put, List.setIfInBounds_toArray, List.set_cons_zero, List.set_cons_succ]
                refine wpAnyH_take (i := 9) (oi := ⟨_, _, _, _, _, _⟩) (v := ?_) rfl (by kernel_rfl) (by kernel_rfl) (by kernel_rfl) (fun _ _ _ h => h) (Or.inl ⟨by rfl, ?_⟩) (by assumption) ?_
                rotate_left
                · intro w hSw
                  (try dsimp only at hSw)
                  first | (go_simp; done) | (go_simp; with_reducible rfl)
                simp only [Act.put, List.setIfInBounds_toArray, List.set_cons_zero, List.set_cons_succ]
                refine wpAnyH_ready (rs := [10]) (by kernel_rfl) (by simp) ?_
                refine AllReadyH.cons (o := ⟨_, _, _, _, _, _⟩) rfl (fun K hK => ?_) AllReadyH.nil
                go_simp
                refine hK.out _ _ ?_ (fun hS4 => ?_)
                · exact ⟨set_get hbw1 hS3.1, set_get hbw1 hS3.2.1, set_get hbw1 hS3.2.2.1, set_get hbw1 hS3.2.2.2.1, set_get hbw1 hS3.2.2.2.2.1, set_get hbw1 hS3.2.2.2.2.2⟩
                clear hK K
                (try simp only [Act.put, List.setIfInBounds_toArray, List.set_cons_zero, List.set_cons_succ])
                refine wpAnyH_done (by kernel_rfl) ?_ _
                have t8 := set_get (a := ⟨b, 2, none⟩) (u := .slice (some ⟨g, 0, none⟩) (L.wrs.length + 1) cap) hbw1 hS3.1
                have t9 := set_get (a := ⟨b, 2, none⟩) (u := .slice (some ⟨g, 0, none⟩) (L.wrs.length + 1) cap) hbw1 hS3.2.1
                replace t4 := set_get (a := ⟨b, 2, none⟩) (u := .slice (some ⟨g, 0, none⟩) (L.wrs.length + 1) cap) hbw2 t4
                replace t5 := set_get (a := ⟨b, 2, none⟩) (u := .slice (some ⟨g, 0, none⟩) (L.wrs.length + 1) cap) hbw2 t5
                replace t6 := set_free (a := ⟨b, 2, none⟩) (u := .slice (some ⟨g, 0, none⟩) (L.wrs.length + 1) cap) hbw2 t6
                replace t7 := set_free (a := ⟨b, 2, none⟩) (u := .slice (some ⟨g, 0, none⟩) (L.wrs.length + 1) cap) hbw2 t7
                clear t2 t3 hS hS2 hS3 hS4
                go_wp2_with fail
                refine bodyPost_ret (v := .tuple #[.agg #[.int .i64 (lMax L.hav + 1), .int .i64 L.rep], .nilIface]) ?_ rfl ?_
                · simp [results, Tryz.results22, go_sem, t4, t5, t6, t7]
                · exact LocalPost.ok hl4.out rfl (local_fin2 hLog hy7 hnx (by simp; omega) hgrow hown9 hat (by omega) (by omega) (by simp; omega) (by omega))
              · go_simp
                refine hK.out _ _ ?_ (fun hS2 => ?_)
                · exact ⟨((Ext.refl _).alloc _).get hS.1, ((Ext.refl _).alloc _).get hS.2.1, ((Ext.refl _).alloc _).get hS.2.2.1, ((Ext.refl _).alloc _).get hS.2.2.2.1, ((Ext.refl _).alloc _).get hS.2.2.2.2.1, ((Ext.refl _).alloc _).get hS.2.2.2.2.2⟩
                clear hK K
                (try simp only [Act.put, List.setIfInBounds_toArray, List.set_cons_zero, List.set_cons_succ])
                refine wpAnyH_ready (rs := [4]) (by kernel_rfl) (by simp) ?_
                refine AllReadyH.cons (o := ⟨_, _, _, _, _, _⟩) rfl (fun K hK => ?_) AllReadyH.nil
                go_simp
                refine hK.out _ _ ?_ (fun hS2 => ?_)
                · exact hS2
                clear hK K
                (try simp only [Act.put, List.setIfInBounds_toArray, List.set_cons_zero, List.set_cons_succ])
                refine wpAnyH_ready (rs := [7]) (by kernel_rfl) (by simp) ?_
                refine AllReadyH.cons (o := ⟨_, _, _, _, _, _⟩) rfl (fun K hK => ?_) AllReadyH.nil
                refine step_append_lies _ (by rfl) _ _ _ (by rfl) 0 33 i0 _ 6 64 Tryz.underlying23 hi0 hi1 hi2 hi3 rfl (by omega) (.slice wa L.wrs.length wc) L.wrs.length (wCells L.wrs) (by rfl) (own_ext hown (((Ext.refl _).alloc _).drew))
                  ⟨w7.heap.size, 0, none⟩ 1 1 (wCells1 (withId x (lMax L.hav + 1) L.rep)) (by rfl) (by rfl) (World.news_of_block (cs := (wCells1 (withId x (lMax L.hav + 1) L.rep)).toArray) (t := 33) (fr := (0, 0)) (by exact blk_new_drew _ _ _ (by simp))) (by simp [wCells1, Value.oneCell'])
                  (by omega) (by have := HL.out; unfold maxLen; omega) (by have := HL.out; omega) (by omega) (w7.heap.size + 1) (by simp) ?_
                intro g cap w9 hown9 hgrow hat hlt9
                have t2 := grown_get hgrow (p := ⟨b, 2, none⟩) (v := .slice wa L.wrs.length wc) (fun h => hwb h.symm) (by simp [go_sem, p2'', hb7])
                have t3 := grown_free hgrow (p := ⟨b, 2, none⟩) (by simp; omega) (fun h => hwb h.symm) (by simp [go_sem, k2, hb7])
                have t4 := grown_get hgrow (p := ⟨w.heap.size + 1, 0, none⟩) (v := .int .i64 0) hws1 (((Ext.refl _).alloc _).get (show ((w7.setCell ⟨b, 1, none⟩ (.slice na hh.length nc)).drew).cell? _ = _ from set_get hbw2 r0''))
                have t5 := grown_get hgrow (p := ⟨w.heap.size + 1, 1, none⟩) (v := .int .i64 0) hws1 (((Ext.refl _).alloc _).get (show ((w7.setCell ⟨b, 1, none⟩ (.slice na hh.length nc)).drew).cell? _ = _ from set_get hbw2 r1''))
                have t6 := grown_free hgrow (p := ⟨w.heap.size + 1, 0, none⟩) (by simp; have := lt_of_cell r0''; simp at this; omega) hws1 (by simp [go_sem, e0'', lt_of_cell r0'', hbw2])
                have t7 := grown_free hgrow (p := ⟨w.heap.size + 1, 1, none⟩) (by simp; have := lt_of_cell r1''; simp at this; omega) hws1 (by simp [go_sem, e1'', lt_of_cell r1'', hbw2])
                refine hK.out _ _ ?_ (fun hS3 => ?_)
                · exact ⟨grown_get hgrow hws (((Ext.refl _).alloc _).get hS.1), grown_get hgrow hws (((Ext.refl _).alloc _).get hS.2.1), grown_get hgrow hws (((Ext.refl _).alloc _).get hS.2.2.1), grown_get hgrow hws (((Ext.refl _).alloc _).get hS.2.2.2.1), grown_get hgrow hws (((Ext.refl _).alloc _).get hS.2.2.2.2.1), grown_get hgrow hws (((Ext.refl _).alloc _).get hS.2.2.2.2.2)⟩
                clear hK K
                (try simp only [Act.put, List.setIfInBounds_toArray, List.set_cons_zero, List.set_cons_succ])
                refine wpAnyH_take (i := 8) (oi := ⟨_, _, _, _, _, _⟩) (v := ?_) rfl (by kernel_rfl) (by kernel_rfl) (by kernel_rfl) (fun _ _ _ h => h) (Or.inl ⟨by rfl, ?_⟩) (by assumption) ?_
                rotate_left
                · intro w hSw
                  (try dsimp only at hSw)
                  first | (go_simp; done) | (go_simp; with_reducible rfl)
                simp only [Act.put, List.setIfInBounds_toArray, List.set_cons_zero, List.set_cons_succ]
                refine wpAnyH_take (i := 9) (oi := ⟨_, _, _, _, _, _⟩) (v := ?_) rfl (by kernel_rfl) (by kernel_rfl) (by kernel_rfl) (fun _ _ _ h => h) (Or.inl ⟨by rfl, ?_⟩) (by assumption) ?_
                rotate_left
                · intro w hSw
                  (try dsimp only at hSw)
                  first | (go_simp; done) | (go_simp; with_reducible rfl)
                simp only [Act.put, List.setIfInBounds_toArray, List.set_cons_zero, List.set_cons_succ]
                refine wpAnyH_ready (rs := [10]) (by kernel_rfl) (by simp) ?_
                refine AllReadyH.cons (o := ⟨_, _, _, _, _, _⟩) rfl (fun K hK => ?_) AllReadyH.nil
                go_simp
                refine hK.out _ _ ?_ (fun hS4 => ?_)
                · exact ⟨set_get hbw1 hS3.1, set_get hbw1 hS3.2.1, set_get hbw1 hS3.2.2.1, set_get hbw1 hS3.2.2.2.1, set_get hbw1 hS3.2.2.2.2.1, set_get hbw1 hS3.2.2.2.2.2⟩
                clear hK K
                (try simp only [Act.put, List.setIfInBounds_toArray, List.set_cons_zero, List.set_cons_succ])
                refine wpAnyH_done (by kernel_rfl) ?_ _
                have t8 := set_get (a := ⟨b, 2, none⟩) (u := .slice (some ⟨g, 0, none⟩) (L.wrs.length + 1) cap) hbw1 hS3.1
                have t9 := set_get (a := ⟨b, 2, none⟩) (u := .slice (some ⟨g, 0, none⟩) (L.wrs.length + 1) cap) hbw1 hS3.2.1
                replace t4 := set_get (a := ⟨b, 2, none⟩) (u := .slice (some ⟨g, 0, none⟩) (L.wrs.length + 1) cap) hbw2 t4
                replace t5 := set_get (a := ⟨b, 2, none⟩) (u := .slice (some ⟨g, 0, none⟩) (L.wrs.length + 1) cap) hbw2 t5
                replace t6 := set_free (a := ⟨b, 2, none⟩) (u := .slice (some ⟨g, 0, none⟩) (L.wrs.length + 1) cap) hbw2 t6
                replace t7 := set_free (a := ⟨b, 2, none⟩) (u := .slice (some ⟨g, 0, none⟩) (L.wrs.length + 1) cap) hbw2 t7
                clear t2 t3 hS hS2 hS3 hS4
                go_wp2_with fail
                refine bodyPost_ret (v := .tuple #[.agg #[.int .i64 (lMax L.hav + 1), .int .i64 L.rep], .nilIface]) ?_ rfl ?_
                · simp [results, Tryz.results22, go_sem, t4, t5, t6, t7]
                · exact LocalPost.ok hl4.out rfl (local_fin2 hLog hy7 hnx (by simp; omega) hgrow hown9 hat (by omega) (by omega) (by simp; omega) (by omega))
        · obtain ⟨t5, y5, rfl⟩ := he5.iface hwr
          have HW := Lib.hid (show logLocal L x = .inl (wRight (withId x (lMax L.hav + 1) L.rep)) by rw [hl1.out, if_pos hwr])
          have HN := Lib.hid hwr
          clear hwr
          go_wp2_with fail
          refine bodyPost_ret (v := .tuple #[.agg #[.int .i64 0, .int .i64 0], .iface t5 y5]) ?_ rfl ?_
          · simp [results, Tryz.results22, go_sem, r0', r1', e0', e1']
          · exact LocalPost.err HW.out HN.out rfl he5.wright (Ext.set (Ext.set hy5 (by simp) _) (by simp) _)

end Go.Proofs.YtbahalckcenfmaaGreatDoor
