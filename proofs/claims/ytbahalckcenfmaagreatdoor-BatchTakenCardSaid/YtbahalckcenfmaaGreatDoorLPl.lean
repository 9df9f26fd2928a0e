/-
  Plain laws on logs: what Local, Accept keep. No program in sight.
-/
import Derived.Test.YtbahalckcenfmaaGreatDoorVPl
import Derived.Test.YtbahalckcenfmaaGreatDoorSinS
import Derived.Test.YtbahalckcenfmaaGreatDoorLocal
namespace Go.Proofs.YtbahalckcenfmaaGreatDoor
open Go.RowKit

theorem wRight_tell (x : Wr) : (wRight x).tell = 0 ↔ wRight x = .nil := by
  constructor
  · intro h
    unfold wRight at h ⊢
    split at h; · cases h
    split at h; · cases h
    split at h; · cases h
    split at h; · cases h
    split at h; · cases h
    rename_i h1 h2 h3 h4 h5
    rw [if_neg h1, if_neg h2, if_neg h3, if_neg h4, if_neg h5]
  · intro h; rw [h]; rfl
theorem badOrd_ltW (q x : Wr) : ¬ badOrd (some q) x ↔ ltW q x := by
  rw [badOrd_some]; unfold ltW; omega
theorem bRightGo_iff (f h : List Ent) : ∀ (l : List Wr) (i : Nat) (p : Option Wr), bRightGo f h i p l = .nil ↔ ((∀ x ∈ l, wRight x = .nil ∧ idWithin x.t x.r f h = true) ∧ Srt l ∧ ∀ q, p = some q → ∀ x ∈ l, ltW q x)
  | [], i, p => by simp [bRightGo, Srt]
  | x :: l, i, p => by
    unfold bRightGo
    by_cases h1 : (wRight x).tell ≠ 0
    · rw [if_pos h1]
      constructor
      · intro h'; cases h'
      · rintro ⟨h2, _⟩
        exact absurd ((wRight_tell x).2 (h2 x (by simp)).1) h1
    rw [if_neg h1]
    by_cases h2 : badOrd p x
    · rw [if_pos h2]
      obtain ⟨q, hq, hqx⟩ := h2
      constructor
      · intro h'; cases h'
      · rintro ⟨_, _, h3⟩
        have := h3 q hq x (by simp)
        unfold ltW at this; omega
    rw [if_neg h2]
    by_cases h3 : idWithin x.t x.r f h = false
    · rw [if_pos h3]
      constructor
      · intro h'; cases h'
      · rintro ⟨h4, _⟩
        have := (h4 x (by simp)).2
        rw [h3] at this; cases this
    rw [if_neg h3, bRightGo_iff f h l (i + 1) (some x)]
    have hw : wRight x = .nil := (wRight_tell x).1 (by simpa using h1)
    have hi : idWithin x.t x.r f h = true := by simpa using h3
    constructor
    · rintro ⟨h4, h5, h6⟩
      refine ⟨fun y hy => ?_, List.pairwise_cons.2 ⟨fun y hy => h6 _ rfl y hy, h5⟩, fun q hq y hy => ?_⟩
      · rcases List.mem_cons.1 hy with rfl | hy
        · exact ⟨hw, hi⟩
        · exact h4 y hy
      · subst hq
        have hqx := (badOrd_ltW q x).1 h2
        rcases List.mem_cons.1 hy with rfl | hy
        · exact hqx
        · exact ltW_trans hqx (h6 _ rfl y hy)
    · rintro ⟨h4, h5, h6⟩
      obtain ⟨h7, h8⟩ := List.pairwise_cons.1 h5
      exact ⟨fun y hy => h4 y (by simp [hy]), h8, fun q hq y hy => by cases hq; exact h7 y hy⟩
theorem bRight_iff (f h : List Ent) (ws : List Wr) : bRight f h ws = .nil ↔ (vCovers h f = true ∧ ws.length ≤ 60 ∧ (∀ x ∈ ws, wRight x = .nil ∧ idWithin x.t x.r f h = true) ∧ Srt ws) := by
  unfold bRight
  by_cases h1 : vRight f ≠ .nil
  · rw [if_pos h1]
    constructor
    · intro h'; cases h'
    · rintro ⟨h2, _⟩; exact absurd ((vCovers_iff _ _).1 h2).2.1 h1
  rw [if_neg h1]
  by_cases h2 : vRight h ≠ .nil
  · rw [if_pos h2]
    constructor
    · intro h'; cases h'
    · rintro ⟨h3, _⟩; exact absurd ((vCovers_iff _ _).1 h3).1 h2
  rw [if_neg h2]
  by_cases h3 : vCovers h f = false
  · rw [if_pos h3]
    constructor
    · intro h'; cases h'
    · rintro ⟨h4, _⟩; rw [h3] at h4; cases h4
  rw [if_neg h3]
  by_cases h4 : 60 < ws.length
  · rw [if_pos h4]
    constructor
    · intro h'; cases h'
    · rintro ⟨_, h5, _⟩; omega
  rw [if_neg h4, bRightGo_iff]
  constructor
  · rintro ⟨h5, h6, _⟩; exact ⟨by simpa using h3, by omega, h5, h6⟩
  · rintro ⟨_, _, h5, h6⟩; exact ⟨h5, h6, fun q hq => by cases hq⟩

theorem posW_has {l : List Wr} {x y : Wr} (h : hasAt l x (posW l x) = true) (hy : l[posW l x]? = some y) : y ∈ l ∧ y.t = x.t ∧ y.r = x.r := by
  refine ⟨List.mem_of_getElem? hy, ?_⟩
  unfold hasAt at h
  rw [hy] at h
  have := (idCmp_zero y.t y.r x.t x.r).1 (by simpa using h)
  exact this
theorem accGo_ok : ∀ (ws : List Wr) (i : Nat) (nx : List Wr) (m : Nat) (nx' : List Wr) (m' : Nat), Srt nx → accGo i ws nx m = .inr (nx', m') →
    Srt nx' ∧ (∀ y, y ∈ nx' ↔ y ∈ nx ∨ y ∈ ws) ∧ nx'.length + m = nx.length + m'
  | [], i, nx, m, nx', m', hs, h => by
    simp only [accGo] at h
    cases h
    exact ⟨hs, fun y => by simp, rfl⟩
  | x :: ws, i, nx, m, nx', m', hs, h => by
    simp only [accGo] at h
    split at h
    · rename_i h1
      split at h
      · rename_i h2
        obtain ⟨h3, h4, h5⟩ := accGo_ok ws _ _ _ _ _ hs h
        have hx : x ∈ nx := List.mem_of_getElem? h2
        refine ⟨h3, fun y => ?_, h5⟩
        rw [h4, List.mem_cons]
        constructor
        · rintro (h6 | h6)
          · exact .inl h6
          · exact .inr (.inr h6)
        · rintro (h6 | rfl | h6)
          · exact .inl h6
          · exact .inl hx
          · exact .inr h6
      · cases h
    · rename_i h1
      have h1' : hasAt nx x (posW nx x) = false := by simpa using h1
      obtain ⟨h3, h4, h5⟩ := accGo_ok ws _ _ _ _ _ (hs.ins h1') h
      rw [insAt_length _ _ _ (posW_le nx x)] at h5
      refine ⟨h3, fun y => ?_, by omega⟩
      rw [h4, mem_insAt, List.mem_cons]
      constructor
      · rintro ((h6 | h6) | h6)
        · exact .inr (.inl h6)
        · exact .inl h6
        · exact .inr (.inr h6)
      · rintro (h6 | h6 | h6)
        · exact .inl (.inr h6)
        · exact .inl (.inl h6)
        · exact .inr h6

theorem lMax_ge {l : List Ent} : ∀ e ∈ l, e.t ≤ lMax l := by
  have key : ∀ (l : List Ent) (m : Int), m ≤ l.foldl (fun m x => max m x.t) m ∧ ∀ e ∈ l, e.t ≤ l.foldl (fun m x => max m x.t) m := by
    intro l
    induction l with
    | nil => intro m; exact ⟨Int.le_refl _, fun e he => by cases he⟩
    | cons x l ih =>
      intro m
      obtain ⟨h1, h2⟩ := ih (max m x.t)
      refine ⟨by show m ≤ l.foldl _ (max m x.t); omega, fun e he => ?_⟩
      rcases List.mem_cons.1 he with rfl | he
      · show e.t ≤ l.foldl _ (max m e.t); omega
      · exact h2 e he
  exact (key l 0).2
theorem lMax_nonneg (l : List Ent) : 0 ≤ lMax l := by
  have key : ∀ (l : List Ent) (m : Int), m ≤ l.foldl (fun m x => max m x.t) m := by
    intro l
    induction l with
    | nil => intro m; exact Int.le_refl _
    | cons x l ih => intro m; have := ih (max m x.t); show m ≤ l.foldl _ (max m x.t); omega
  exact key l 0
theorem vOf_le_lMax {l : List Ent} (h : VOk l) (r : Int) : vOf l r ≤ lMax l := by
  by_cases hr : vOf l r = 0
  · rw [hr]; exact lMax_nonneg l
  · obtain ⟨x, hx, _, h2⟩ := vOf_pos h hr
    rw [← h2]; exact lMax_ge x hx

/-- A log that is as logs are. -/
structure LOk (L : LogS) : Prop where
  rep0 : 0 ≤ L.rep
  rep1 : L.rep ≤ 200
  hav : vRight L.hav = .nil
  len : L.wrs.length ≤ 300
  srt : Srt L.wrs
  rgt : ∀ x ∈ L.wrs, wRight x = .nil
  known : ∀ x ∈ L.wrs, x.t ≤ vOf L.hav x.r
theorem LOk.new {r : Int} (h0 : 0 ≤ r) (h1 : r ≤ 200) : LOk ⟨r, [], []⟩ := ⟨h0, h1, rfl, by simp, List.Pairwise.nil, fun x hx => (by cases hx), fun x hx => (by cases hx)⟩
theorem LOk.vok {L : LogS} (h : LOk L) : VOk L.hav := ((vRight_iff _).1 h.hav).2
theorem LOk.hlen {L : LogS} (h : LOk L) : L.hav.length ≤ 16 := ((vRight_iff _).1 h.hav).1
theorem LOk.times {L : LogS} (h : LOk L) : ∀ e ∈ L.hav, 0 ≤ e.t ∧ e.t ≤ 1099511627776 := fun e he => by
  have := h.vok.1 e he
  unfold okEnt at this; omega

theorem Srt.snoc {l : List Wr} {x : Wr} (h : Srt l) (hx : ∀ y ∈ l, ltW y x) : Srt (l ++ [x]) := by
  unfold Srt
  rw [List.pairwise_append]
  exact ⟨h, by simp, fun a ha b hb => by obtain rfl : b = x := by simpa using hb
                                         exact hx a ha⟩
/-- What a local write leaves. -/
theorem local_inr {L L' : LogS} {x : Wr} (h : logLocal L x = .inr L') : wRight (withId x (lMax L.hav + 1) L.rep) = .nil ∧ L.wrs.length < 300 ∧ vRight [(⟨L.rep, lMax L.hav + 1⟩ : Ent)] = .nil ∧
    L' = ⟨L.rep, vMerge L.hav [⟨L.rep, lMax L.hav + 1⟩], L.wrs ++ [withId x (lMax L.hav + 1) L.rep]⟩ ∧ vRight (vMerge L.hav [⟨L.rep, lMax L.hav + 1⟩]) = .nil := by
  unfold logLocal at h
  split at h
  · cases h
  split at h
  · cases h
  split at h
  · cases h
  rename_i h1 h2 h3
  split at h
  · cases h
  · rename_i o hj
    cases h
    obtain ⟨rfl, e1, e2, e3⟩ := vJoin_inr hj
    exact ⟨by simpa using h2, by omega, e2, rfl, e3⟩
theorem LOk.local {L L' : LogS} {x : Wr} (hL : LOk L) (h : logLocal L x = .inr L') : LOk L' := by
  obtain ⟨h1, h2, h3, rfl, h5⟩ := local_inr h
  have hv := hL.vok
  have h3v := ((vRight_iff _).1 h3).2
  have hid : (withId x (lMax L.hav + 1) L.rep).t = lMax L.hav + 1 ∧ (withId x (lMax L.hav + 1) L.rep).r = L.rep := ⟨rfl, rfl⟩
  refine ⟨hL.rep0, hL.rep1, h5, by simp; omega, hL.srt.snoc fun y hy => ?_, fun y hy => ?_, fun y hy => ?_⟩
  · rw [ltW_iff, hid.1]
    have := hL.known y hy
    have := vOf_le_lMax hv y.r
    left; omega
  · rcases List.mem_append.1 hy with hy | hy
    · exact hL.rgt y hy
    · obtain rfl : y = _ := by simpa using hy
      exact h1
  · simp only
    rw [vOf_merge _ _ hv h3v]
    rcases List.mem_append.1 hy with hy | hy
    · have := hL.known y hy; omega
    · obtain rfl : y = _ := by simpa using hy
      rw [hid.1, hid.2]
      have : vOf [(⟨L.rep, lMax L.hav + 1⟩ : Ent)] L.rep = lMax L.hav + 1 := by simp [vOf]
      omega

/-- What an accepted batch leaves. -/
theorem accept_inr {L L' : LogS} {f hh : List Ent} {ws : List Wr} {m : Nat} (h : logAccept L f hh ws = .inr (m, L')) :
    bRight f hh ws = .nil ∧ vCovers L.hav f = true ∧ vRight (vMerge L.hav hh) = .nil ∧ ∃ nx, accGo 0 ws L.wrs 0 = .inr (nx, m) ∧ nx.length ≤ 300 ∧ L' = ⟨L.rep, vMerge L.hav hh, nx⟩ := by
  unfold logAccept at h
  split at h
  · cases h
  split at h
  · cases h
  rename_i h1 h2
  cases hj : vJoin L.hav hh with
  | inl k => rw [hj] at h; cases h
  | inr o =>
    rw [hj] at h
    obtain ⟨rfl, e1, e2, e3⟩ := vJoin_inr hj
    simp only [accJoin] at h
    cases ha : accGo 0 ws L.wrs 0 with
    | inl k => rw [ha] at h; cases h
    | inr q =>
      obtain ⟨nx, m1⟩ := q
      rw [ha] at h
      simp only [accFin] at h
      split at h
      · cases h
      · cases h
        exact ⟨by simpa using h1, by simpa using h2, e3, nx, rfl, by omega, rfl⟩
theorem LOk.accept {L L' : LogS} {f hh : List Ent} {ws : List Wr} {m : Nat} (hL : LOk L) (h : logAccept L f hh ws = .inr (m, L')) : LOk L' := by
  obtain ⟨h1, h2, h3, nx, h4, h5, rfl⟩ := accept_inr h
  obtain ⟨b1, b2, b3, b4⟩ := (bRight_iff _ _ _).1 h1
  obtain ⟨a1, a2, _⟩ := accGo_ok _ _ _ _ _ _ hL.srt h4
  have hh' := ((vRight_iff _).1 ((vCovers_iff _ _).1 b1).1).2
  refine ⟨hL.rep0, hL.rep1, h3, h5, a1, fun x hx => ?_, fun x hx => ?_⟩
  · rcases (a2 x).1 hx with hx | hx
    · exact hL.rgt x hx
    · exact (b3 x hx).1
  · simp only
    rw [vOf_merge _ _ hL.vok hh']
    rcases (a2 x).1 hx with hx | hx
    · have := hL.known x hx; omega
    · have := (b3 x hx).2
      unfold idWithin at this
      simp at this
      omega

end Go.Proofs.YtbahalckcenfmaaGreatDoor
