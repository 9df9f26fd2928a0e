/-
  Plain laws on vectors: what is right, what joining gives. No program in sight.
-/
import Derived.Test.YtbahalckcenfmaaGreatDoorLogA
namespace Go.Proofs.YtbahalckcenfmaaGreatDoor
open Go.RowKit

/-- Entries that are right, by rising replicas. -/
def VOk (l : List Ent) : Prop := (∀ e ∈ l, okEnt e) ∧ l.Pairwise fun a b => a.r < b.r
theorem VOk.nil : VOk [] := ⟨fun e h => (by cases h), List.Pairwise.nil⟩
theorem VOk.tail {x : Ent} {l : List Ent} (h : VOk (x :: l)) : VOk l := ⟨fun e he => h.1 e (by simp [he]), (List.pairwise_cons.1 h.2).2⟩
theorem VOk.head {x : Ent} {l : List Ent} (h : VOk (x :: l)) : okEnt x := h.1 x (by simp)
theorem VOk.lt {x : Ent} {l : List Ent} (h : VOk (x :: l)) : ∀ e ∈ l, x.r < e.r := (List.pairwise_cons.1 h.2).1
theorem vRightGo_iff : ∀ (l : List Ent) (i : Nat) (p : Option Int), vRightGo i p l = .nil ↔ (VOk l ∧ ∀ q, p = some q → ∀ e ∈ l, q < e.r)
  | [], i, p => by simp [vRightGo, VOk.nil]
  | x :: l, i, p => by
    unfold vRightGo
    by_cases h1 : okEnt x
    · rw [if_pos h1]
      by_cases h2 : badPrev p x.r
      · rw [if_pos h2]
        obtain ⟨q, hq, hqx⟩ := h2
        constructor
        · intro h; cases h
        · rintro ⟨_, h⟩
          have := h q hq x (by simp); omega
      · rw [if_neg h2, vRightGo_iff l (i + 1) (some x.r)]
        constructor
        · rintro ⟨h3, h4⟩
          refine ⟨⟨fun e he => ?_, List.pairwise_cons.2 ⟨fun e he => h4 _ rfl e he, h3.2⟩⟩, fun q hq e he => ?_⟩
          · rcases List.mem_cons.1 he with rfl | he
            · exact h1
            · exact h3.1 e he
          · have hx : q < x.r := by
              by_cases h : q < x.r
              · exact h
              · exact absurd ⟨q, hq, by omega⟩ h2
            rcases List.mem_cons.1 he with rfl | he
            · exact hx
            · have := h4 _ rfl e he; omega
        · rintro ⟨h3, h4⟩
          exact ⟨h3.tail, fun q hq e he => by cases hq; exact h3.lt e he⟩
    · rw [if_neg h1]
      constructor
      · intro h; cases h
      · rintro ⟨h, _⟩; exact absurd h.head h1
theorem vRight_iff (l : List Ent) : vRight l = .nil ↔ l.length ≤ 16 ∧ VOk l := by
  unfold vRight
  split
  · rename_i h
    constructor
    · intro h'; cases h'
    · intro h'; omega
  · rename_i h
    rw [vRightGo_iff]
    constructor
    · rintro ⟨h1, _⟩; exact ⟨by omega, h1⟩
    · rintro ⟨_, h1⟩; exact ⟨h1, fun q hq => by cases hq⟩

theorem vOf_none {l : List Ent} {r : Int} (h : ∀ e ∈ l, e.r ≠ r) : vOf l r = 0 := by
  induction l with
  | nil => rfl
  | cons x l ih => simp only [vOf]; rw [if_neg (h x (by simp))]; exact ih fun e he => h e (by simp [he])
theorem vOf_mem {l : List Ent} (h : VOk l) {x : Ent} (hx : x ∈ l) : vOf l x.r = x.t := by
  induction l with
  | nil => cases hx
  | cons y l ih =>
    simp only [vOf]
    rcases List.mem_cons.1 hx with rfl | hx'
    · rw [if_pos rfl]
    · have := h.lt x hx'
      rw [if_neg (by omega)]; exact ih h.tail hx'
theorem vOf_pos {l : List Ent} {r : Int} (h : VOk l) (hr : vOf l r ≠ 0) : ∃ x ∈ l, x.r = r ∧ x.t = vOf l r := by
  induction l with
  | nil => exact absurd rfl hr
  | cons y l ih =>
    simp only [vOf] at hr ⊢
    by_cases hy : y.r = r
    · exact ⟨y, by simp, hy, by rw [if_pos hy]⟩
    · rw [if_neg hy] at hr ⊢
      obtain ⟨x, hx, h1, h2⟩ := ih h.tail hr
      exact ⟨x, by simp [hx], h1, h2⟩
theorem vOf_ge {l : List Ent} (h : VOk l) (r : Int) : 0 ≤ vOf l r ∧ vOf l r ≤ 1099511627776 := by
  by_cases hr : vOf l r = 0
  · omega
  · obtain ⟨x, hx, _, h2⟩ := vOf_pos h hr
    have := h.1 x hx
    unfold okEnt at this; omega

theorem vMerge_mem : ∀ (a b : List Ent) (e : Ent), e ∈ vMerge a b → (∃ x ∈ a, x.r = e.r) ∨ (∃ y ∈ b, y.r = e.r)
  | [], b, e, h => by rw [vMerge_nil_left] at h; exact .inr ⟨e, h, rfl⟩
  | a, [], e, h => by rw [vMerge_nil_right] at h; exact .inl ⟨e, h, rfl⟩
  | x :: a, y :: b, e, h => by
    rcases Int.lt_trichotomy x.r y.r with hxy | hxy | hxy
    · rw [vMerge_lt _ _ _ _ hxy] at h
      rcases List.mem_cons.1 h with rfl | h
      · exact .inl ⟨_, by simp, rfl⟩
      · rcases vMerge_mem a (y :: b) e h with ⟨z, hz, hr⟩ | h
        · exact .inl ⟨z, by simp [hz], hr⟩
        · exact .inr h
    · rw [vMerge_eq _ _ _ _ hxy] at h
      rcases List.mem_cons.1 h with rfl | h
      · exact .inl ⟨x, by simp, rfl⟩
      · rcases vMerge_mem a b e h with ⟨z, hz, hr⟩ | ⟨z, hz, hr⟩
        · exact .inl ⟨z, by simp [hz], hr⟩
        · exact .inr ⟨z, by simp [hz], hr⟩
    · rw [vMerge_gt _ _ _ _ hxy] at h
      rcases List.mem_cons.1 h with rfl | h
      · exact .inr ⟨_, by simp, rfl⟩
      · rcases vMerge_mem (x :: a) b e h with h | ⟨z, hz, hr⟩
        · exact .inl h
        · exact .inr ⟨z, by simp [hz], hr⟩
termination_by a b => a.length + b.length
theorem vMerge_ok : ∀ (a b : List Ent), VOk a → VOk b → VOk (vMerge a b)
  | [], b, _, hb => by rw [vMerge_nil_left]; exact hb
  | x :: a, [], ha, _ => by rw [vMerge_nil_right]; exact ha
  | x :: a, y :: b, ha, hb => by
    rcases Int.lt_trichotomy x.r y.r with hxy | hxy | hxy
    · rw [vMerge_lt _ _ _ _ hxy]
      have ih := vMerge_ok a (y :: b) ha.tail hb
      refine ⟨fun e he => ?_, List.pairwise_cons.2 ⟨fun e he => ?_, ih.2⟩⟩
      · rcases List.mem_cons.1 he with rfl | he
        · exact ha.head
        · exact ih.1 e he
      · rcases vMerge_mem _ _ _ he with ⟨z, hz, hr⟩ | ⟨z, hz, hr⟩
        · have := ha.lt z hz; omega
        · rcases List.mem_cons.1 hz with rfl | hz
          · omega
          · have := hb.lt z hz; omega
    · rw [vMerge_eq _ _ _ _ hxy]
      have ih := vMerge_ok a b ha.tail hb.tail
      refine ⟨fun e he => ?_, List.pairwise_cons.2 ⟨fun e he => ?_, ih.2⟩⟩
      · rcases List.mem_cons.1 he with rfl | he
        · have h1 := ha.head; have h2 := hb.head
          unfold okEnt at *; simp only; omega
        · exact ih.1 e he
      · rcases vMerge_mem _ _ _ he with ⟨z, hz, hr⟩ | ⟨z, hz, hr⟩
        · have := ha.lt z hz; simp only; omega
        · have := hb.lt z hz; simp only; omega
    · rw [vMerge_gt _ _ _ _ hxy]
      have ih := vMerge_ok (x :: a) b ha hb.tail
      refine ⟨fun e he => ?_, List.pairwise_cons.2 ⟨fun e he => ?_, ih.2⟩⟩
      · rcases List.mem_cons.1 he with rfl | he
        · exact hb.head
        · exact ih.1 e he
      · rcases vMerge_mem _ _ _ he with ⟨z, hz, hr⟩ | ⟨z, hz, hr⟩
        · rcases List.mem_cons.1 hz with rfl | hz
          · omega
          · have := ha.lt z hz; omega
        · have := hb.lt z hz; omega
termination_by a b => a.length + b.length
theorem vOf_above {l : List Ent} {r : Int} (h : ∀ e ∈ l, r < e.r) : vOf l r = 0 := vOf_none fun e he => by have := h e he; omega
theorem vOf_merge : ∀ (a b : List Ent), VOk a → VOk b → ∀ r, vOf (vMerge a b) r = max (vOf a r) (vOf b r)
  | [], b, _, hb, r => by rw [vMerge_nil_left]; have := vOf_ge hb r; simp only [vOf]; omega
  | x :: a, [], ha, _, r => by rw [vMerge_nil_right]; have := vOf_ge ha r; show _ = max _ 0; omega
  | x :: a, y :: b, ha, hb, r => by
    rcases Int.lt_trichotomy x.r y.r with hxy | hxy | hxy
    · rw [vMerge_lt _ _ _ _ hxy]
      have ih := vOf_merge a (y :: b) ha.tail hb r
      have hx := ha.head
      unfold okEnt at hx
      by_cases hr : x.r = r
      · have : vOf (y :: b) r = 0 := vOf_above fun e he => by
          rcases List.mem_cons.1 he with rfl | he
          · omega
          · have := hb.lt e he; omega
        rw [this]
        simp only [vOf]; rw [if_pos hr]; omega
      · simp only [vOf] at ih ⊢; rw [if_neg hr, if_neg hr]; exact ih
    · rw [vMerge_eq _ _ _ _ hxy]
      have ih := vOf_merge a b ha.tail hb.tail r
      by_cases hr : x.r = r
      · simp only [vOf]; rw [if_pos hr, if_pos hr, if_pos (by omega)]
      · simp only [vOf]; rw [if_neg hr, if_neg hr, if_neg (by omega)]; exact ih
    · rw [vMerge_gt _ _ _ _ hxy]
      have ih := vOf_merge (x :: a) b ha hb.tail r
      have hy := hb.head
      unfold okEnt at hy
      by_cases hr : y.r = r
      · have : vOf (x :: a) r = 0 := vOf_above fun e he => by
          rcases List.mem_cons.1 he with rfl | he
          · omega
          · have := ha.lt e he; omega
        rw [this]
        simp only [vOf]; rw [if_pos hr]; omega
      · simp only [vOf] at ih ⊢; rw [if_neg hr, if_neg hr]; exact ih
termination_by a b => a.length + b.length

/-- Two vectors that tell the same of each replica are one. -/
theorem vOk_ext : ∀ {a b : List Ent}, VOk a → VOk b → (∀ r, vOf a r = vOf b r) → a = b
  | [], [], _, _, _ => rfl
  | [], y :: b, _, hb, h => by
    have := h y.r
    have h1 := hb.head
    unfold okEnt at h1
    simp [vOf] at this; omega
  | x :: a, [], ha, _, h => by
    have := h x.r
    have h1 := ha.head
    unfold okEnt at h1
    simp [vOf] at this; omega
  | x :: a, y :: b, ha, hb, h => by
    have h1 := ha.head
    have h2 := hb.head
    unfold okEnt at h1 h2
    have hr : x.r = y.r := by
      rcases Int.lt_trichotomy x.r y.r with hxy | hxy | hxy
      · have e1 := h x.r
        rw [vOf_above (l := y :: b) (fun e he => by
          rcases List.mem_cons.1 he with rfl | he
          · omega
          · have := hb.lt e he; omega)] at e1
        simp [vOf] at e1; omega
      · exact hxy
      · have e1 := h y.r
        rw [vOf_above (l := x :: a) (fun e he => by
          rcases List.mem_cons.1 he with rfl | he
          · omega
          · have := ha.lt e he; omega)] at e1
        simp [vOf] at e1; omega
    have ht : x.t = y.t := by
      have e1 := h x.r
      simp only [vOf] at e1
      rw [if_pos trivial, if_pos hr.symm] at e1; exact e1
    have hxy : x = y := by cases x; cases y; simp_all
    subst hxy
    rw [vOk_ext ha.tail hb.tail fun r => ?_]
    by_cases hr' : x.r = r
    · subst hr'
      rw [vOf_above ha.lt, vOf_above hb.lt]
    · have e1 := h r
      simp only [vOf] at e1
      rw [if_neg hr', if_neg hr'] at e1; exact e1

theorem vCovers_iff (a b : List Ent) : vCovers a b = true ↔ vRight a = .nil ∧ vRight b = .nil ∧ ∀ r, vOf b r ≤ vOf a r := by
  unfold vCovers
  simp only [Bool.and_eq_true, decide_eq_true_eq, List.all_eq_true]
  constructor
  · rintro ⟨⟨h1, h2⟩, h3⟩
    refine ⟨h1, h2, fun r => ?_⟩
    by_cases hr : vOf b r = 0
    · rw [hr]; exact (vOf_ge ((vRight_iff a).1 h1).2 r).1
    · obtain ⟨x, hx, hxr, hxt⟩ := vOf_pos ((vRight_iff b).1 h2).2 hr
      have := h3 x hx
      rw [← hxt, ← hxr]; exact this
  · rintro ⟨h1, h2, h3⟩
    refine ⟨⟨h1, h2⟩, fun x hx => ?_⟩
    have := h3 x.r
    rw [vOf_mem ((vRight_iff b).1 h2).2 hx] at this
    exact this
theorem vJoin_ok {a b : List Ent} (ha : vRight a = .nil) (hb : vRight b = .nil) (hl : (vMerge a b).length ≤ 16) : vJoin a b = .inr (vMerge a b) := by
  unfold vJoin
  rw [if_neg (by simp [ha]), if_neg (by simp [hb]), if_neg (by omega)]
theorem vJoin_inr {a b o : List Ent} (h : vJoin a b = .inr o) : o = vMerge a b ∧ vRight a = .nil ∧ vRight b = .nil ∧ vRight o = .nil := by
  unfold vJoin at h
  split at h
  · cases h
  split at h
  · cases h
  split at h
  · cases h
  rename_i h1 h2 h3
  cases h
  have h1' : vRight a = .nil := by simpa using h1
  have h2' : vRight b = .nil := by simpa using h2
  exact ⟨rfl, h1', h2', (vRight_iff _).2 ⟨by omega, vMerge_ok _ _ ((vRight_iff _).1 h1').2 ((vRight_iff _).1 h2').2⟩⟩

end Go.Proofs.YtbahalckcenfmaaGreatDoor
