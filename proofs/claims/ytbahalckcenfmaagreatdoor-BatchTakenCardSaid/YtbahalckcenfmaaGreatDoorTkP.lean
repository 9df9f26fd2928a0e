/-
  In parts, or at once: the plain law behind BatchTaken.
-/
import Derived.Test.YtbahalckcenfmaaGreatDoorLPl
namespace Go.Proofs.YtbahalckcenfmaaGreatDoor
open Go.RowKit
set_option linter.unusedSimpArgs false
set_option linter.unusedVariables false

theorem ltW_irrefl (a : Wr) : ¬ ltW a a := by rw [ltW_iff]; omega
theorem srt_unique : ∀ (a b : List Wr), Srt a → Srt b → (∀ z, z ∈ a ↔ z ∈ b) → a = b
  | [], [], _, _, _ => rfl
  | [], y :: b, _, _, h => by have := (h y).2 (by simp); cases this
  | x :: a, [], _, _, h => by have := (h x).1 (by simp); cases this
  | x :: a, y :: b, ha, hb, h => by
    obtain ⟨hx, ha'⟩ := List.pairwise_cons.1 ha
    obtain ⟨hy, hb'⟩ := List.pairwise_cons.1 hb
    have e : x = y := by
      rcases List.mem_cons.1 ((h x).1 (by simp)) with e | h1
      · exact e
      · rcases List.mem_cons.1 ((h y).2 (by simp)) with e | h2
        · exact e.symm
        · exact absurd (ltW_trans (hx y h2) (hy x h1)) (ltW_irrefl x)
    subst e
    rw [srt_unique a b ha' hb' (fun z => ⟨fun hz => ?_, fun hz => ?_⟩)]
    · rcases List.mem_cons.1 ((h z).1 (by simp [hz])) with rfl | h1
      · exact absurd (hx z hz) (ltW_irrefl z)
      · exact h1
    · rcases List.mem_cons.1 ((h z).2 (by simp [hz])) with rfl | h1
      · exact absurd (hy z hz) (ltW_irrefl z)
      · exact h1
theorem has_fresh {nx : List Wr} {x : Wr} (h : ∀ y ∈ nx, ¬ (y.t = x.t ∧ y.r = x.r)) : hasAt nx x (posW nx x) = false := by
  cases hc : hasAt nx x (posW nx x) with
  | false => rfl
  | true =>
    cases hy : nx[posW nx x]? with
    | none => simp [hasAt, hy] at hc
    | some y =>
      obtain ⟨h1, h2, h3⟩ := posW_has hc hy
      exact absurd ⟨h2, h3⟩ (h y h1)
theorem accGo_fresh : ∀ (ws : List Wr) (i : Nat) (nx : List Wr) (m : Nat), Srt nx → Srt ws → (∀ x ∈ ws, ∀ y ∈ nx, ¬ (y.t = x.t ∧ y.r = x.r)) →
    ∃ nx', accGo i ws nx m = .inr (nx', m + ws.length) ∧ Srt nx' ∧ ∀ z, z ∈ nx' ↔ z ∈ nx ∨ z ∈ ws
  | [], i, nx, m, hn, _, _ => ⟨nx, rfl, hn, fun z => by simp⟩
  | x :: l, i, nx, m, hn, hw, hd => by
    have hf := has_fresh (hd x (by simp))
    obtain ⟨hx, hl⟩ := List.pairwise_cons.1 hw
    obtain ⟨nx', h1, h2, h3⟩ := accGo_fresh l (i + 1) (insAt nx (posW nx x) x) (m + 1) (hn.ins hf) hl (fun z hz y hy => by
      rcases mem_insAt.1 hy with rfl | hy
      · have := hx z hz
        rw [ltW_iff] at this; omega
      · exact hd z (by simp [hz]) y hy)
    refine ⟨nx', ?_, h2, fun z => ?_⟩
    · rw [accGo, hf, if_neg (by simp), h1]
      simp; omega
    · rw [h3, mem_insAt, List.mem_cons]
      constructor
      · rintro ((h | h) | h)
        · exact .inr (.inl h)
        · exact .inl h
        · exact .inr (.inr h)
      · rintro (h | h | h)
        · exact .inl (.inr h)
        · exact .inl (.inl h)
        · exact .inr h
/-- Taken by a log whose writes are all others. -/
theorem accept_fresh {r : Int} {hav f h hav' : List Ent} {wrs ws all : List Wr} (hb : bRight f h ws = .nil) (hc : vCovers hav f = true) (hj : vJoin hav h = .inr hav') (hn : Srt wrs) (hall : Srt all) (hm : ∀ z, z ∈ all ↔ z ∈ wrs ∨ z ∈ ws)
    (hd : ∀ x ∈ ws, ∀ y ∈ wrs, ¬ (y.t = x.t ∧ y.r = x.r)) (h300 : all.length ≤ 300) : logAccept ⟨r, hav, wrs⟩ f h ws = .inr (ws.length, ⟨r, hav', all⟩) := by
  obtain ⟨_, _, _, hs⟩ := (bRight_iff f h ws).1 hb
  obtain ⟨nx', h1, h2, h3⟩ := accGo_fresh ws 0 wrs 0 hn hs hd
  have e : nx' = all := srt_unique _ _ h2 hall (fun z => by rw [h3, hm])
  subst e
  unfold logAccept
  rw [if_neg (by rw [hb]; simp), if_neg (by rw [hc]; simp), hj]
  simp only [accJoin, h1, accFin]
  rw [if_neg (by omega)]
  simp
theorem vCovers_self {m : List Ent} (h : vRight m = .nil) : vCovers m m = true := (vCovers_iff m m).2 ⟨h, h, fun r => Int.le_refl _⟩
theorem vRight_nil : vRight [] = .nil := by decide
theorem vMerge_covered {m h : List Ent} (hc : vCovers h m = true) : vMerge m h = h := by
  obtain ⟨h1, h2, h3⟩ := (vCovers_iff h m).1 hc
  have o1 := ((vRight_iff h).1 h1).2
  have o2 := ((vRight_iff m).1 h2).2
  refine vOk_ext (vMerge_ok _ _ o2 o1) o1 (fun r => ?_)
  rw [vOf_merge _ _ o2 o1]
  have := h3 r
  omega
theorem vJoin_covered {m h : List Ent} (hc : vCovers h m = true) : vJoin m h = .inr h := by
  obtain ⟨h1, h2, _⟩ := (vCovers_iff h m).1 hc
  have e := vMerge_covered hc
  rw [vJoin_ok h2 h1 (by rw [e]; exact ((vRight_iff h).1 h1).1), e]
theorem vCovers_nil {m : List Ent} (h : vRight m = .nil) : vCovers m [] = true :=
  (vCovers_iff m []).2 ⟨h, vRight_nil, fun r => (vOf_ge ((vRight_iff m).1 h).2 r).1⟩

def inM (m : List Ent) (x : Wr) : Bool := idWithin x.t x.r [] m
theorem taken {h m : List Ent} {ws : List Wr} (hb : bRight [] h ws = .nil) (hm : vRight m = .nil) (hc : vCovers h m = true) :
    logAccept ⟨0, [], []⟩ [] h ws = .inr (ws.length, ⟨0, h, ws⟩) ∧
    logAccept ⟨0, [], []⟩ [] m (ws.filter (inM m)) = .inr ((ws.filter (inM m)).length, ⟨0, m, ws.filter (inM m)⟩) ∧
    logAccept ⟨0, m, ws.filter (inM m)⟩ m h (ws.filter fun x => !inM m x) = .inr ((ws.filter fun x => !inM m x).length, ⟨0, h, ws⟩) ∧
    ws.length = (ws.filter (inM m)).length + (ws.filter fun x => !inM m x).length := by
  obtain ⟨hcv, hlen, hall, hs⟩ := (bRight_iff [] h ws).1 hb
  obtain ⟨hh, _, hcm⟩ := (vCovers_iff h m).1 hc
  have hx : Srt (ws.filter (inM m)) := hs.filter _
  have hy : Srt (ws.filter fun x => !inM m x) := hs.filter _
  have l1 : (ws.filter (inM m)).length ≤ ws.length := List.length_filter_le _ _
  have l2 : (ws.filter fun x => !inM m x).length ≤ ws.length := List.length_filter_le _ _
  have hone : bRight [] m (ws.filter (inM m)) = .nil := (bRight_iff _ _ _).2 ⟨vCovers_nil hm, by omega, fun x hx => by
    obtain ⟨h1, h2⟩ := List.mem_filter.1 hx
    exact ⟨(hall x h1).1, h2⟩, hx⟩
  have htwo : bRight m h (ws.filter fun x => !inM m x) = .nil := (bRight_iff _ _ _).2 ⟨hc, by omega, fun x hx => by
    obtain ⟨h1, h2⟩ := List.mem_filter.1 hx
    obtain ⟨h3, h4⟩ := hall x h1
    refine ⟨h3, ?_⟩
    simp only [inM, idWithin, Bool.not_eq_true', Bool.and_eq_false_iff, Bool.and_eq_true, decide_eq_true_eq, decide_eq_false_iff_not] at h2 h4 ⊢
    obtain ⟨h5, h6⟩ := h4
    rcases h2 with h2 | h2
    · exact absurd h5 h2
    · exact ⟨by omega, h6⟩, hy⟩
  refine ⟨accept_fresh hb (vCovers_nil vRight_nil) (vJoin_covered (vCovers_nil hh)) List.Pairwise.nil hs (fun z => by simp) (fun x _ y hy => (by cases hy)) (by omega),
    accept_fresh hone (vCovers_nil vRight_nil) (vJoin_covered (vCovers_nil hm)) List.Pairwise.nil hx (fun z => by simp) (fun x _ y hy => (by cases hy)) (by omega),
    accept_fresh htwo (vCovers_self hm) (vJoin_covered hc) hx hs (fun z => ?_) (fun x h1 y h2 h3 => ?_) (by omega), ?_⟩
  · simp only [List.mem_filter]
    cases inM m z <;> simp
  · obtain ⟨_, h5⟩ := List.mem_filter.1 h1
    obtain ⟨_, h6⟩ := List.mem_filter.1 h2
    simp only [inM, h3.1, h3.2] at h5 h6
    rw [h6] at h5; cases h5
  · clear hb hall hs hx hy l1 l2 hone htwo hlen
    induction ws with
    | nil => rfl
    | cons x l ih =>
      simp only [List.filter_cons, List.length_cons]
      cases inM m x <;> simp <;> omega

end Go.Proofs.YtbahalckcenfmaaGreatDoor
