/-
  A log in memory; the contracts of log.New, Have, Writes.
-/
import Derived.Test.YtbahalckcenfmaaGreatDoorClone
namespace Go.Proofs.YtbahalckcenfmaaGreatDoor
open Go.RowKit

/-- What a log holds. -/
structure LogS where
  rep : Int
  hav : List Ent
  wrs : List Wr
deriving DecidableEq

/-- The log at block b. -/
structure LogAt (w : World) (b : Nat) (hv wv : Value) (L : LogS) : Prop where
  blk : w.heap[b]? = some (.cells #[.int .i64 L.rep, hv, wv] 68 (0, 0))
  hown : w.ownsRow 0 45 2 hv L.hav.length (eCells L.hav)
  wown : w.ownsRow 0 33 6 wv L.wrs.length (wCells L.wrs)

/-- A block that is known whole: its cells. -/
theorem cell_blk {w : World} {b i : Nat} {cs : Array Value} {e : TypeId} {fr : Nat × Nat} {v : Value} (h : w.heap[b]? = some (.cells cs e fr)) (hv : cs[i]? = some v) : w.cell? ⟨b, i, none⟩ = some v := by
  simp [World.cell?, h, hv]
theorem free_blk {w : World} {b i : Nat} {cs : Array Value} {e : TypeId} (h : w.heap[b]? = some (.cells cs e (0, 0))) : w.frozen? ⟨b, i, none⟩ = false := by
  simp [World.frozen?, h]
theorem lt_blk {w : World} {b : Nat} {o : Obj} (h : w.heap[b]? = some o) : b < w.heap.size := by
  rcases Nat.lt_or_ge b w.heap.size with h' | h'
  · exact h'
  · rw [Array.getElem?_eq_none h'] at h; cases h

/-- The blocks S may have changed, and new ones come; nothing else. -/
structure Chg (S : Nat → Prop) (w w' : World) : Prop where
  os : w'.os = w.os
  tape : w'.tape = w.tape
  output : w'.output = w.output
  size : w.heap.size ≤ w'.heap.size
  block : ∀ k, k < w.heap.size → ¬ S k → w'.heap[k]? = w.heap[k]?
theorem Chg.refl (S : Nat → Prop) (w : World) : Chg S w w := ⟨rfl, rfl, rfl, Nat.le_refl _, fun _ _ _ => rfl⟩
theorem Ext.chg {w w' : World} (h : Ext w w') (S : Nat → Prop) : Chg S w w' := ⟨h.os, h.tape, h.output, h.size, fun k hk _ => h.block k hk⟩
theorem Chg.trans {S : Nat → Prop} {a b c : World} (h : Chg S a b) (k : Chg S b c) : Chg S a c :=
  ⟨k.os.trans h.os, k.tape.trans h.tape, k.output.trans h.output, Nat.le_trans h.size k.size, fun i hi hs => (k.block i (Nat.lt_of_lt_of_le hi h.size) hs).trans (h.block i hi hs)⟩
theorem Chg.mono {S T : Nat → Prop} {a b : World} (h : Chg S a b) (hst : ∀ k, k < a.heap.size → S k → T k) : Chg T a b :=
  ⟨h.os, h.tape, h.output, h.size, fun k hk ht => h.block k hk fun hs => ht (hst k hk hs)⟩
/-- What is changed is new: so nothing that was there has changed. -/
theorem Chg.ext {S : Nat → Prop} {a b c : World} (h : Ext a b) (k : Chg S b c) (hs : ∀ i, S i → a.heap.size ≤ i) : Ext a c :=
  ⟨k.os.trans h.os, k.tape.trans h.tape, k.output.trans h.output, Nat.le_trans h.size k.size, fun i hi => (k.block i (Nat.lt_of_lt_of_le hi h.size) (fun hsi => by have := hs i hsi; omega)).trans (h.block i hi)⟩
theorem Chg.get {S : Nat → Prop} {w w' : World} (h : Chg S w w') {p : Addr} {v : Value} (hp : ¬ S p.block) (hc : w.cell? p = some v) : w'.cell? p = some v :=
  (World.cell?_of_block (w := w) (h.block p.block (lt_of_cell hc) hp)).trans hc
theorem Chg.good {S : Nat → Prop} {w w' : World} (h : Chg S w w') (hg : Good w) (hs : ¬ S 0) : Good w' := h.get (p := ⟨0, 0, none⟩) hs hg

theorem own_ext {w w' : World} {base : Nat} {e : TypeId} {size : Nat} {v : Value} {n : Nat} {xs : List Value} (h : w.ownsRow base e size v n xs) (hx : Ext w w') : w'.ownsRow base e size v n xs := by
  obtain ⟨hl, h2⟩ := h
  refine ⟨hl, ?_⟩
  rcases h2 with h2 | ⟨g, cap, cur, hv, hb, hg, r⟩
  · exact .inl h2
  · exact .inr ⟨g, cap, cur, hv, hb, by rw [hx.block g (lt_blk hg)]; exact hg, r⟩
theorem own_chg {S : Nat → Prop} {w w' : World} {base : Nat} {e : TypeId} {size : Nat} {v : Value} {n : Nat} {xs : List Value} (h : w.ownsRow base e size v n xs) (hx : Chg S w w') (hs : ∀ k, v.ownBlock = some k → ¬ S k) : w'.ownsRow base e size v n xs := by
  obtain ⟨hl, h2⟩ := h
  refine ⟨hl, ?_⟩
  rcases h2 with h2 | ⟨g, cap, cur, hv, hb, hg, r⟩
  · exact .inl h2
  · exact .inr ⟨g, cap, cur, hv, hb, by rw [hx.block g (lt_blk hg) (hs g (by rw [hv]; rfl))]; exact hg, r⟩
theorem own_base {w : World} {base base' : Nat} {e : TypeId} {size : Nat} {v : Value} {n : Nat} {xs : List Value} (h : w.ownsRow base e size v n xs) (hb : base' ≤ base) : w.ownsRow base' e size v n xs := by
  obtain ⟨hl, h2⟩ := h
  refine ⟨hl, ?_⟩
  rcases h2 with h2 | ⟨g, cap, cur, hv, hg, r⟩
  · exact .inl h2
  · exact .inr ⟨g, cap, cur, hv, by omega, r⟩
/-- Two blocks of two element types are two. -/
theorem own_ne {w : World} {base : Nat} {e : TypeId} {size : Nat} {v : Value} {n : Nat} {xs : List Value} (h : w.ownsRow base e size v n xs) {b : Nat} {cs : Array Value} {e' : TypeId} {fr : Nat × Nat} (hb : w.heap[b]? = some (.cells cs e' fr)) (hne : e ≠ e') : v.ownBlock ≠ some b := by
  rcases h.2 with ⟨hv, _⟩ | ⟨g, cap, cur, hv, _, hg, _⟩
  · rw [hv]; simp [Value.ownBlock]
  · rw [hv]
    intro hh
    simp [Value.ownBlock] at hh
    subst hh
    rw [hg] at hb
    simp at hb
    exact hne hb.2.1
theorem own_two {w : World} {base base' : Nat} {e e' : TypeId} {size size' : Nat} {v v' : Value} {n n' : Nat} {xs xs' : List Value} (h : w.ownsRow base e size v n xs) (h' : w.ownsRow base' e' size' v' n' xs') (hne : e ≠ e') : ∀ k, v.ownBlock = some k → v'.ownBlock ≠ some k := by
  intro k hk
  rcases h.2 with ⟨hv, _⟩ | ⟨g, cap, cur, hv, _, hg, _⟩
  · rw [hv] at hk; cases hk
  · rw [hv] at hk; cases hk
    exact own_ne h' hg (Ne.symm hne)

theorem LogAt.ext {w w' : World} {b : Nat} {hv wv : Value} {L : LogS} (h : LogAt w b hv wv L) (hx : Ext w w') : LogAt w' b hv wv L :=
  ⟨by rw [hx.block b (lt_blk h.blk)]; exact h.blk, own_ext h.hown hx, own_ext h.wown hx⟩
theorem LogAt.chg {S : Nat → Prop} {w w' : World} {b : Nat} {hv wv : Value} {L : LogS} (h : LogAt w b hv wv L) (hx : Chg S w w') (hb : ¬ S b) (hh : ∀ k, hv.ownBlock = some k → ¬ S k) (hw : ∀ k, wv.ownBlock = some k → ¬ S k) : LogAt w' b hv wv L :=
  ⟨by rw [hx.block b (lt_blk h.blk) hb]; exact h.blk, own_chg h.hown hx hh, own_chg h.wown hx hw⟩

/-! ### Stores, appends: what becomes of blocks -/
theorem set_far (w : World) (a : Addr) (u : Value) (k : Nat) (h : k ≠ a.block) : (w.setCell a u).heap[k]? = w.heap[k]? := Below.heap_setCell w a u k h
theorem set_blk {w : World} {b i : Nat} {cs : Array Value} {e : TypeId} {fr : Nat × Nat} (h : w.heap[b]? = some (.cells cs e fr)) (u : Value) : (w.setCell ⟨b, i, none⟩ u).heap[b]? = some (.cells (cs.setIfInBounds i u) e fr) := by
  simp [World.setCell, Array.getElem?_modify, h]
theorem set_get {w : World} {a p : Addr} {u v : Value} (h : p.block ≠ a.block) (hc : w.cell? p = some v) : (w.setCell a u).cell? p = some v :=
  (World.cell?_of_block (w := w) (set_far w a u p.block h)).trans hc
theorem set_free {w : World} {a p : Addr} {u : Value} (h : p.block ≠ a.block) (hc : w.frozen? p = false) : (w.setCell a u).frozen? p = false :=
  (World.frozen?_of_block (w := w) (set_far w a u p.block h)).trans hc
theorem own_set {w : World} {base : Nat} {e : TypeId} {size : Nat} {v : Value} {n : Nat} {xs : List Value} (h : w.ownsRow base e size v n xs) {a : Addr} (hne : v.ownBlock ≠ some a.block) (u : Value) : (w.setCell a u).ownsRow base e size v n xs := by
  obtain ⟨hl, h2⟩ := h
  refine ⟨hl, ?_⟩
  rcases h2 with h2 | ⟨g, cap, cur, hv, hb, hg, r⟩
  · exact .inl h2
  · refine .inr ⟨g, cap, cur, hv, hb, ?_, r⟩
    rw [set_far _ _ _ _ (by intro hh; apply hne; rw [hv, hh]; rfl)]; exact hg
theorem own_grown {w w' : World} {row : Option Nat} (hg : w.grownBy w' row) {base : Nat} {e : TypeId} {size : Nat} {v : Value} {n : Nat} {xs : List Value} (h : w.ownsRow base e size v n xs) (hne : ∀ k, v.ownBlock = some k → some k ≠ row) : w'.ownsRow base e size v n xs := by
  obtain ⟨hl, h2⟩ := h
  refine ⟨hl, ?_⟩
  rcases h2 with h2 | ⟨g, cap, cur, hv, hb, hgg, r⟩
  · exact .inl h2
  · exact .inr ⟨g, cap, cur, hv, hb, by rw [hg.block g (lt_blk hgg) (hne g (by rw [hv]; rfl))]; exact hgg, r⟩
theorem grown_get {w w' : World} {row : Option Nat} (hg : w.grownBy w' row) {p : Addr} {v : Value} (hne : some p.block ≠ row) (hc : w.cell? p = some v) : w'.cell? p = some v :=
  (World.cell?_of_block (w := w) (hg.block p.block (lt_of_cell hc) hne)).trans hc
theorem grown_free {w w' : World} {row : Option Nat} (hg : w.grownBy w' row) {p : Addr} (hlt : p.block < w.heap.size) (hne : some p.block ≠ row) (hc : w.frozen? p = false) : w'.frozen? p = false :=
  (World.frozen?_of_block (w := w) (hg.block p.block hlt hne)).trans hc
theorem Chg.set {S : Nat → Prop} {w w' : World} (h : Chg S w w') {a : Addr} (ha : S a.block ∨ w.heap.size ≤ a.block) (u : Value) : Chg S w (w'.setCell a u) :=
  ⟨h.os, h.tape, h.output, by simpa [World.setCell] using h.size, fun k hk hs => by
    rw [set_far _ _ _ _ (by rintro rfl; rcases ha with ha | ha; exact hs ha; omega)]; exact h.block k hk hs⟩
theorem Chg.grown {S : Nat → Prop} {w w' w'' : World} {row : Option Nat} (h : Chg S w w') (hg : w'.grownBy w'' row) (hr : ∀ k, row = some k → S k ∨ w.heap.size ≤ k) : Chg S w w'' :=
  ⟨hg.os.trans h.os, hg.tape.trans h.tape, hg.output.trans h.output, Nat.le_trans h.size hg.size, fun k hk hs => by
    rw [hg.block k (Nat.lt_of_lt_of_le hk h.size) (by intro hh; rcases hr k hh.symm with h1 | h1; exact hs h1; omega)]; exact h.block k hk hs⟩
theorem Chg.drew {S : Nat → Prop} {w w' : World} (h : Chg S w w') : Chg S w w'.drew := ⟨h.os, h.tape, h.output, h.size, h.block⟩
theorem Chg.alloc {S : Nat → Prop} {w w' : World} (h : Chg S w w') (o : Obj) : Chg S w (w'.alloc o) := h.trans (((Ext.refl _).alloc o).chg S)
theorem own_alloc {w : World} {base : Nat} {e : TypeId} {size : Nat} {v : Value} {n : Nat} {xs : List Value} (h : w.ownsRow base e size v n xs) (o : Obj) : (w.alloc o).ownsRow base e size v n xs := own_ext h ((Ext.refl _).alloc o)

theorem own_lt {w : World} {base : Nat} {e : TypeId} {size : Nat} {v : Value} {n : Nat} {xs : List Value} (h : w.ownsRow base e size v n xs) : ∀ k, v.ownBlock = some k → k < w.heap.size := by
  intro k hk
  rcases h.2 with ⟨hv, _⟩ | ⟨g, cap, cur, hv, _, hg, _⟩
  · rw [hv] at hk; cases hk
  · rw [hv] at hk; cases hk; exact lt_blk hg

theorem NewBad (r : Int) (w : World) (h : r < 0 ∨ 200 < r) :
    Calls Tryz.prog 12 #[.int .i64 r] w fun e w' => e = .returned (.tuple #[.pointer none, .iface 50 (.int .i64 2)]) ∧ Ext w w' := by
  go_enter Tryz.func12, Tryz.ntmps12
  rcases h with h | h
  · go_wp2
    go_ret2
    exact ⟨rfl, Ext.refl _⟩
  · go_wp2
    go_ret2
    exact ⟨rfl, Ext.refl _⟩

def NewPost (r : Int) (w : World) (e : Ending) (w' : World) : Prop :=
  e = .returned (.tuple #[.pointer (some ⟨w.heap.size, 0, none⟩), .nilIface]) ∧ LogAt w' w.heap.size (.slice none 0 0) (.slice none 0 0) ⟨r, [], []⟩ ∧ Ext w w'
theorem New_any (r : Int) (w : World) (h0 : 0 ≤ r) (h1 : r ≤ 200) :
    Calls Tryz.prog 12 #[.int .i64 r] w (NewPost r w) := by
  go_enter Tryz.func12, Tryz.ntmps12
  go_wp2
  go_ret2
  exact ⟨rfl, ⟨heap_alloc_new _ _, World.ownsRow_nil _ _ _ _, World.ownsRow_nil _ _ _ _⟩, (Ext.refl _).alloc _⟩

theorem slice_cap {a : Option Addr} {n c : Nat} (h : Value.slice a n c = .slice none 0 0) : c = 0 := by injection h

/-- What Have gives. -/
def HavePost (L : LogS) (w : World) (e : Ending) (w' : World) : Prop :=
  ∃ x, e = .returned x ∧ w'.ownsRow w.heap.size 45 2 x L.hav.length (eCells L.hav) ∧ Ext w w'
theorem Have_any (b : Nat) (hv wv : Value) (L : LogS) (w : World) (h : LogAt w b hv wv L) (hl : L.hav.length < 1000000) :
    Calls Tryz.prog 17 #[.pointer (some ⟨b, 0, none⟩)] w (HavePost L w) := by
  have q1 : w.cell? ⟨b, 1, none⟩ = some hv := cell_blk h.blk rfl
  obtain ⟨a, c, rfl, hc, hrow, hnil, _⟩ := own_row h.hown
  have hcl := CloneE_any L.hav a c w hl hc hrow.ents (fun ha => slice_cap (hnil ha))
  go_enter Tryz.func17, Tryz.ntmps17
  go_wp2_with fail
  refine hcl.mono ?_
  rintro e w1 ⟨x, rfl, ho, _, hx⟩
  go_wp2_with fail
  go_ret
  exact ⟨_, rfl, ho, hx⟩

def WritesPost (L : LogS) (w : World) (e : Ending) (w' : World) : Prop :=
  ∃ x, e = .returned x ∧ w'.ownsRow w.heap.size 33 6 x L.wrs.length (wCells L.wrs) ∧ Ext w w'
theorem Writes_any (b : Nat) (hv wv : Value) (L : LogS) (w : World) (h : LogAt w b hv wv L) (hl : L.wrs.length < 1000000) :
    Calls Tryz.prog 15 #[.pointer (some ⟨b, 0, none⟩)] w (WritesPost L w) := by
  have q1 : w.cell? ⟨b, 2, none⟩ = some wv := cell_blk h.blk rfl
  obtain ⟨a, c, rfl, hc, hrow, hnil, _⟩ := own_row h.wown
  have hcl := CloneW_any L.wrs a c w hl hc hrow.wrs (fun ha => slice_cap (hnil ha))
  go_enter Tryz.func15, Tryz.ntmps15
  go_wp2_with fail
  refine hcl.mono ?_
  rintro e w1 ⟨x, rfl, ho, _, hx⟩
  go_wp2_with fail
  go_ret
  exact ⟨_, rfl, ho, hx⟩

end Go.Proofs.YtbahalckcenfmaaGreatDoor
