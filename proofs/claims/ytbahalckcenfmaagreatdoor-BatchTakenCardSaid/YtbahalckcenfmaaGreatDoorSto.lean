/-
  The store in memory.
-/
import Derived.Test.YtbahalckcenfmaaGreatDoorStoS
import Derived.Maps.OwnSet
import Derived.Maps.RangeWalk
namespace Go.Proofs.YtbahalckcenfmaaGreatDoor
open Go.RowKit Go.Maps

/-- How a pointer to a cell reads: as its block. -/
def ptrR : Value → Option (DataW Unit × List MemPlace)
  | .pointer none => some (.lit (.bool false), [])
  | .pointer (some ⟨b, 0, none⟩) => some (.lit (.int .i64 b), [])
  | _ => none
theorem ptrR_nil {v : Value} {ps : List MemPlace} (h : ptrR v = some (.lit (.bool false), ps)) : v = .pointer none := by
  unfold ptrR at h
  split at h
  · rfl
  · simp at h
  · cases h
theorem ptrR_at {v : Value} {b : Nat} {ps : List MemPlace} (h : ptrR v = some (.lit (.int .i64 b), ps)) : v = .pointer (some ⟨b, 0, none⟩) := by
  unfold ptrR at h
  split at h
  · simp at h
  · simp at h
    have : (_ : Int) = _ := h.1
    have h2 := Int.ofNat_inj.1 h.1
    rw [h2]
  · cases h

/-- The cells of a row of strings. -/
def strs (l : List ByteArray) : List Value := l.map Value.string
theorem strs_length (l : List ByteArray) : (strs l).length = l.length := by simp [strs]
theorem strs_one (l : List ByteArray) : ∀ u ∈ strs l, u.oneCell' = true := by
  intro u hu
  obtain ⟨x, _, rfl⟩ := List.mem_map.1 hu
  rfl

/-- A key as a datum. -/
def kl (k : ByteArray) : Lit := .string k.data.toList
theorem kl_inj {a b : ByteArray} (h : kl a = kl b) : a = b := by
  obtain ⟨⟨x⟩⟩ := a
  obtain ⟨⟨y⟩⟩ := b
  simpa [kl] using h
theorem kl_ne {a b : ByteArray} (h : a ≠ b) : kl a ≠ kl b := fun e => h (kl_inj e)
theorem law : Keyed Tryz.prog 9 := string_keyed Tryz.underlying9
theorem kl_of (k : ByteArray) (h : k.size ≤ maxLen) : keyOf Tryz.prog 9 (.string k) = some (kl k) := WideMaps.keyOf_string_mk Tryz.underlying9 h
theorem kl_key (k : ByteArray) (h : k.size ≤ maxLen) : WideAt.IsKeyLit (kl k) := law.key (kl_of k h)
def upd {α : Type} (f : ByteArray → α) (k : ByteArray) (v : α) : ByteArray → α := fun k' => if k' = k then v else f k'
theorem upd_same {α : Type} (f : ByteArray → α) (k : ByteArray) (v : α) : upd f k v k = v := if_pos rfl
theorem upd_other {α : Type} (f : ByteArray → α) {k k' : ByteArray} (v : α) (h : k' ≠ k) : upd f k v k' = f k' := if_neg h
theorem St.set_same (s : St) (k : ByteArray) (c : Option Cel) : s.set k c k = c := if_pos rfl
theorem St.set_other (s : St) {k k' : ByteArray} (c : Option Cel) (h : k' ≠ k) : s.set k c k' = s k' := if_neg h

/-- The cells of a cell. -/
def celCells (c : Cel) (v : Value) : List Value := [.string c.key, .bool c.has, .string c.text, .int .i64 c.sum, v]
/-- A store at block sb, its map at mb: which cell stands at a key, and where. -/
structure StAt (w : World) (base sb mb n : Nat) (s : St) (at_ : ByteArray → Nat) (lv : ByteArray → Value) (D : DataW Unit) : Prop where
  blk : w.heap[sb]? = some (.cells #[.map (some mb)] 124 (0, 0))
  own : w.ownsMap Tryz.prog 9 ptrR mb n D
  has : ∀ k : ByteArray, k.size ≤ maxLen → Maps.has D (kl k) = (s k).isSome
  look : ∀ k c, s k = some c → ∀ z, D.atKey (kl k) z = .lit (.int .i64 (at_ k))
  cell : ∀ k c, s k = some c → c.key = k ∧ base ≤ at_ k ∧ w.heap[at_ k]? = some (.cells (celCells c (lv k)).toArray 128 (0, 0)) ∧
    w.ownsRow base 9 1 (lv k) c.list.length (strs c.list)
  small : ∀ k c, s k = some c → k.size ≤ 40
  one : ∀ k k' c c', s k = some c → s k' = some c' → at_ k = at_ k' → k = k'
  rows : ∀ k k' c c' g, s k = some c → s k' = some c' → (lv k).ownBlock = some g → (lv k').ownBlock = some g → k = k'
  hsb : base ≤ sb
  hmb : base ≤ mb

/-- The blocks of a key. -/
def Touch (mb : Nat) (s : St) (at_ : ByteArray → Nat) (lv : ByteArray → Value) (key : ByteArray) (k : Nat) : Prop :=
  k = mb ∨ ∃ c, s key = some c ∧ (k = at_ key ∨ (lv key).ownBlock = some k)

section
variable {w w' : World} {base sb mb n : Nat} {s : St} {at_ : ByteArray → Nat} {lv : ByteArray → Value} {D : DataW Unit}
theorem StAt.map_ne (h : StAt w base sb mb n s at_ lv D) {b : Nat} {cs : Array Value} {e : TypeId} {fr : Nat × Nat} (hb : w.heap[b]? = some (.cells cs e fr)) : b ≠ mb := by
  obtain ⟨es, clock, hm, _⟩ := h.own
  rintro rfl
  rw [hm] at hb; cases hb
theorem StAt.row_ne_map (h : StAt w base sb mb n s at_ lv D) {k : ByteArray} {c : Cel} (hc : s k = some c) : (lv k).ownBlock ≠ some mb := by
  obtain ⟨_, _, _, hr⟩ := h.cell k c hc
  rcases hr.2 with ⟨hv, _⟩ | ⟨g, cap, cur, hv, _, hg, _⟩
  · rw [hv]; simp [Value.ownBlock]
  · rw [hv]; intro he
    have : g = mb := by simpa [Value.ownBlock] using he
    exact h.map_ne hg this
theorem StAt.sb_far (h : StAt w base sb mb n s at_ lv D) (key : ByteArray) : ¬ Touch mb s at_ lv key sb := by
  rintro (e | ⟨c, hc, e | e⟩)
  · exact h.map_ne h.blk e
  · have h1 := (h.cell key c hc).2.2.1
    rw [← e, h.blk] at h1
    simp at h1
  · exact own_ne (h.cell key c hc).2.2.2 h.blk (by decide) e
theorem StAt.at_far (h : StAt w base sb mb n s at_ lv D) {key k : ByteArray} {c : Cel} (hc : s k = some c) (hk : k ≠ key) : ¬ Touch mb s at_ lv key (at_ k) := by
  obtain ⟨_, _, hb, _⟩ := h.cell k c hc
  rintro (e | ⟨c', hc', e | e⟩)
  · exact h.map_ne hb e
  · exact hk (h.one _ _ _ _ hc hc' e)
  · exact own_ne (h.cell key c' hc').2.2.2 hb (by decide) e
theorem StAt.row_far (h : StAt w base sb mb n s at_ lv D) {key k : ByteArray} {c : Cel} (hc : s k = some c) (hk : k ≠ key) : ∀ g, (lv k).ownBlock = some g → ¬ Touch mb s at_ lv key g := by
  rintro g hg (rfl | ⟨c', hc', rfl | e⟩)
  · exact h.row_ne_map hc hg
  · exact own_ne (h.cell k c hc).2.2.2 (h.cell key c' hc').2.2.1 (by decide) hg
  · exact hk (h.rows _ _ _ _ _ hc hc' hg e)
theorem StAt.touch_base (h : StAt w base sb mb n s at_ lv D) {key : ByteArray} {k : Nat} (ht : Touch mb s at_ lv key k) : base ≤ k := by
  rcases ht with rfl | ⟨c, hc, rfl | e⟩
  · exact h.hmb
  · exact (h.cell _ _ hc).2.1
  · exact own_ge (h.cell _ _ hc).2.2.2 _ e
theorem StAt.lt (h : StAt w base sb mb n s at_ lv D) {k : ByteArray} {c : Cel} (hc : s k = some c) : at_ k < w.heap.size := lt_blk (h.cell k c hc).2.2.1

/-- The cell at one key turned: all others are as they were. -/
theorem StAt.turn (h : StAt w base sb mb n s at_ lv D) {key : ByteArray} (hk : key.size ≤ 40) (hc : Chg (Touch mb s at_ lv key) w w') {n' : Nat} {D' : DataW Unit} (hown : w'.ownsMap Tryz.prog 9 ptrR mb n' D')
    (ho : ∀ k : ByteArray, k ≠ key → Maps.has D' (kl k) = Maps.has D (kl k) ∧ ∀ z, D'.atKey (kl k) z = D.atKey (kl k) z)
    (o : Option Cel) (a' : Nat) (lv' : Value) (hh : Maps.has D' (kl key) = o.isSome) (hat : ∀ c, o = some c → ∀ z, D'.atKey (kl key) z = .lit (.int .i64 a'))
    (hcell : ∀ c, o = some c → c.key = key ∧ base ≤ a' ∧ w'.heap[a']? = some (.cells (celCells c lv').toArray 128 (0, 0)) ∧ w'.ownsRow base 9 1 lv' c.list.length (strs c.list))
    (hfa : ∀ c, o = some c → w.heap.size ≤ a' ∨ (a' = at_ key ∧ ∃ c0, s key = some c0))
    (hfl : ∀ c, o = some c → ∀ g, lv'.ownBlock = some g → w.heap.size ≤ g ∨ ((lv key).ownBlock = some g ∧ ∃ c0, s key = some c0)) :
    StAt w' base sb mb n' (s.set key o) (upd at_ key a') (upd lv key lv') D' := by
  have one : ∀ k c c', o = some c → s k = some c' → k ≠ key → a' ≠ at_ k := fun k c c' hc1 hc2 hne e => by
    rcases hfa c hc1 with h1 | ⟨h1, c0, h2⟩
    · have := h.lt hc2; omega
    · exact hne (h.one _ _ _ _ hc2 h2 (by rw [← e, h1]))
  have row : ∀ k c c' g, o = some c → s k = some c' → k ≠ key → lv'.ownBlock = some g → (lv k).ownBlock ≠ some g := fun k c c' g hc1 hc2 hne e1 e2 => by
    rcases hfl c hc1 g e1 with h1 | ⟨h1, c0, h2⟩
    · have := own_lt (h.cell k c' hc2).2.2.2 _ e2; omega
    · exact hne (h.rows _ _ _ _ _ hc2 h2 e2 h1)
  refine ⟨?_, hown, fun k hks => ?_, fun k c hkc z => ?_, fun k c hkc => ?_, fun k c hkc => ?_, fun k k' c c' h1 h2 e => ?_, fun k k' c c' g h1 h2 e1 e2 => ?_, h.hsb, h.hmb⟩
  · rw [hc.block sb (lt_blk h.blk) (h.sb_far key)]; exact h.blk
  · by_cases hkk : k = key
    · subst hkk; rw [St.set_same]; exact hh
    · rw [St.set_other _ _ hkk, (ho k hkk).1]; exact h.has k hks
  · by_cases hkk : k = key
    · subst hkk; rw [St.set_same] at hkc; rw [upd_same]; exact hat c hkc z
    · rw [St.set_other _ _ hkk] at hkc; rw [upd_other _ _ hkk, (ho k hkk).2]; exact h.look k c hkc z
  · by_cases hkk : k = key
    · subst hkk; rw [St.set_same] at hkc; rw [upd_same, upd_same]; exact hcell c hkc
    · rw [St.set_other _ _ hkk] at hkc; rw [upd_other _ _ hkk, upd_other _ _ hkk]
      obtain ⟨h1, h2, h3, h4⟩ := h.cell k c hkc
      exact ⟨h1, h2, by rw [hc.block _ (lt_blk h3) (h.at_far hkc hkk)]; exact h3, own_chg h4 hc (h.row_far hkc hkk)⟩
  · by_cases hkk : k = key
    · subst hkk; exact hk
    · rw [St.set_other _ _ hkk] at hkc; exact h.small k c hkc
  · by_cases hkk : k = key
    · by_cases hkk' : k' = key
      · rw [hkk, hkk']
      · subst hkk; rw [St.set_same] at h1; rw [St.set_other _ _ hkk'] at h2; rw [upd_same, upd_other _ _ hkk'] at e
        exact absurd e (one k' c c' h1 h2 hkk')
    · by_cases hkk' : k' = key
      · subst hkk'; rw [St.set_same] at h2; rw [St.set_other _ _ hkk] at h1; rw [upd_same, upd_other _ _ hkk] at e
        exact absurd e.symm (one k c' c h2 h1 hkk)
      · rw [St.set_other _ _ hkk] at h1; rw [St.set_other _ _ hkk'] at h2; rw [upd_other _ _ hkk, upd_other _ _ hkk'] at e
        exact h.one k k' c c' h1 h2 e
  · by_cases hkk : k = key
    · by_cases hkk' : k' = key
      · rw [hkk, hkk']
      · subst hkk; rw [St.set_same] at h1; rw [St.set_other _ _ hkk'] at h2; rw [upd_same] at e1; rw [upd_other _ _ hkk'] at e2
        exact absurd e2 (row k' c c' g h1 h2 hkk' e1)
    · by_cases hkk' : k' = key
      · subst hkk'; rw [St.set_same] at h2; rw [St.set_other _ _ hkk] at h1; rw [upd_same] at e2; rw [upd_other _ _ hkk] at e1
        exact absurd e1 (row k c' c g h2 h1 hkk e2)
      · rw [St.set_other _ _ hkk] at h1; rw [St.set_other _ _ hkk'] at h2; rw [upd_other _ _ hkk] at e1; rw [upd_other _ _ hkk'] at e2
        exact h.rows k k' c c' g h1 h2 e1 e2
/-- Nothing of the store turned. -/
theorem StAt.ext (h : StAt w base sb mb n s at_ lv D) (hx : Ext w w') : StAt w' base sb mb n s at_ lv D := by
  have hb : ∀ b o, w.heap[b]? = some o → w'.heap[b]? = some o := fun b o hb => by rw [hx.block b (lt_blk hb)]; exact hb
  refine ⟨hb _ _ h.blk, ?_, h.has, h.look, fun k c hkc => ?_, h.small, h.one, h.rows, h.hsb, h.hmb⟩
  · obtain ⟨es, clock, hm, r⟩ := h.own
    exact ⟨es, clock, hb _ _ hm, r⟩
  · obtain ⟨h1, h2, h3, h4⟩ := h.cell k c hkc
    exact ⟨h1, h2, hb _ _ h3, own_ext h4 hx⟩
end

end Go.Proofs.YtbahalckcenfmaaGreatDoor
