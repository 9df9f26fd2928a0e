/-
  What Accept does: plain. No program in sight.
-/
import Derived.Test.YtbahalckcenfmaaGreatDoorEq
namespace Go.Proofs.YtbahalckcenfmaaGreatDoor
open Go.RowKit

theorem idCmp_neg (t r t' r' : Int) : idCmp t r t' r' < 0 ↔ t < t' ∨ (t = t' ∧ r < r') := by
  unfold idCmp orI icmp
  rcases Int.lt_trichotomy t t' with h | h | h
  · simp [h]; try omega
  · subst h
    simp only [Int.lt_irrefl, if_false]
    rcases Int.lt_trichotomy r r' with h | h | h
    · simp [h]; try omega
    · subst h; simp
    · have : ¬ r < r' := by omega
      simp [h, this]; try omega
  · have : ¬ t < t' := by omega
    simp [h, this]; try omega
theorem idCmp_zero (t r t' r' : Int) : idCmp t r t' r' = 0 ↔ t = t' ∧ r = r' := by
  unfold idCmp orI icmp
  rcases Int.lt_trichotomy t t' with h | h | h
  · simp [h]; try omega
  · subst h
    simp only [Int.lt_irrefl, if_false]
    rcases Int.lt_trichotomy r r' with h | h | h
    · simp [h]; try omega
    · subst h; simp
    · have : ¬ r < r' := by omega
      simp [h, this]; try omega
  · have : ¬ t < t' := by omega
    simp [h, this]; try omega
/-- Earlier. -/
def ltW (a b : Wr) : Prop := idCmp a.t a.r b.t b.r < 0
instance (a b : Wr) : Decidable (ltW a b) := by unfold ltW; infer_instance
theorem ltW_iff (a b : Wr) : ltW a b ↔ a.t < b.t ∨ (a.t = b.t ∧ a.r < b.r) := idCmp_neg _ _ _ _
theorem ltW_trans {a b c : Wr} (h : ltW a b) (k : ltW b c) : ltW a c := by
  rw [ltW_iff] at *; omega
/-- Writes by rising ids. -/
def Srt (l : List Wr) : Prop := l.Pairwise ltW
/-- Where a write stands, or would. -/
def posW : List Wr → Wr → Nat
  | [], _ => 0
  | y :: l, x => if ltW y x then posW l x + 1 else 0
theorem posW_le (l : List Wr) (x : Wr) : posW l x ≤ l.length := by
  induction l with
  | nil => simp [posW]
  | cons y l ih => simp only [posW]; split <;> simp <;> omega
theorem posW_parted {l : List Wr} (x : Wr) (h : Srt l) : Parted l x (posW l x) := by
  refine ⟨posW_le l x, ?_⟩
  induction l with
  | nil => simp
  | cons y l ih =>
    obtain ⟨hy, hl⟩ := List.pairwise_cons.1 h
    obtain ⟨i1, i2⟩ := ih hl
    simp only [posW]
    split
    · rename_i hlt
      refine ⟨fun k hk h1 => ?_, fun k hk h1 => ?_⟩
      · cases k with
        | zero => exact hlt
        | succ k => exact i1 k (by simpa using hk) (by omega)
      · cases k with
        | zero => omega
        | succ k => exact i2 k (by simpa using hk) (by omega)
    · rename_i hlt
      refine ⟨fun k hk h1 => by omega, fun k hk _ => ?_⟩
      cases k with
      | zero => simpa [ltW] using hlt
      | succ k =>
        have hk' : k < l.length := by simpa using hk
        have := hy l[k] (List.getElem_mem hk')
        have h2 : ¬ ltW l[k] x := fun h3 => hlt (ltW_trans this h3)
        simpa [ltW] using h2
theorem insAt_cons (y : Wr) (l : List Wr) (i : Nat) (x : Wr) : insAt (y :: l) (i + 1) x = y :: insAt l i x := by simp [insAt]
theorem hasAt_cons (y : Wr) (l : List Wr) (i : Nat) (x : Wr) : hasAt (y :: l) x (i + 1) = hasAt l x i := by simp [hasAt]
theorem mem_insAt {l : List Wr} {i : Nat} {x y : Wr} : y ∈ insAt l i x ↔ y = x ∨ y ∈ l := by
  have : y ∈ l ↔ y ∈ l.take i ∨ y ∈ l.drop i := by rw [← List.mem_append, List.take_append_drop]
  simp only [insAt, List.mem_append, List.mem_cons, this]
  constructor
  · rintro (h | h | h)
    · exact .inr (.inl h)
    · exact .inl h
    · exact .inr (.inr h)
  · rintro (h | h | h)
    · exact .inr (.inl h)
    · exact .inl h
    · exact .inr (.inr h)
theorem Srt.ins {l : List Wr} {x : Wr} (h : Srt l) (hn : hasAt l x (posW l x) = false) : Srt (insAt l (posW l x) x) := by
  induction l with
  | nil => simp [insAt, Srt]
  | cons y l ih =>
    obtain ⟨hy, hl⟩ := List.pairwise_cons.1 h
    simp only [posW] at hn ⊢
    split at hn
    · rename_i hlt
      rw [hasAt_cons] at hn
      rw [if_pos hlt, insAt_cons]
      refine List.pairwise_cons.2 ⟨fun z hz => ?_, ih hl hn⟩
      rcases mem_insAt.1 hz with rfl | hz
      · exact hlt
      · exact hy z hz
    · rename_i hlt
      rw [if_neg hlt]
      have h1 : ltW x y := by
        rw [ltW_iff] at *
        simp [hasAt, idCmp_zero] at hn
        omega
      show Srt (x :: y :: l)
      refine List.pairwise_cons.2 ⟨fun z hz => ?_, h⟩
      rcases List.mem_cons.1 hz with rfl | hz
      · exact h1
      · exact ltW_trans h1 (hy z hz)

/-- The writes of a batch, one behind the other: an error, or all writes and how many are new. -/
def accGo : Nat → List Wr → List Wr → Nat → Er ⊕ (List Wr × Nat)
  | _, [], nx, m => .inr (nx, m)
  | i, x :: l, nx, m =>
    if hasAt nx x (posW nx x) = true then (if nx[posW nx x]? = some x then accGo (i + 1) l nx m else .inl (.plc 9 i))
    else accGo (i + 1) l (insAt nx (posW nx x) x) (m + 1)
theorem accGo_drop (ws nx : List Wr) (m k : Nat) (hk : k < ws.length) : accGo k (ws.drop k) nx m =
    if hasAt nx ws[k] (posW nx ws[k]) = true then (if nx[posW nx ws[k]]? = some ws[k] then accGo (k + 1) (ws.drop (k + 1)) nx m else .inl (.plc 9 k))
    else accGo (k + 1) (ws.drop (k + 1)) (insAt nx (posW nx ws[k]) ws[k]) (m + 1) := by
  rw [List.drop_eq_getElem_cons hk, accGo]

/-- The last test. -/
def accFin (rep : Int) (hv : List Ent) : Er ⊕ (List Wr × Nat) → Er ⊕ (Nat × LogS)
  | .inl e => .inl e
  | .inr (nx, m) => if 300 < nx.length then .inl (.no 12) else .inr (m, ⟨rep, hv, nx⟩)
def accJoin (L : LogS) (ws : List Wr) : Int ⊕ List Ent → Er ⊕ (Nat × LogS)
  | .inl k => .inl (.no k)
  | .inr hv => accFin L.rep hv (accGo 0 ws L.wrs 0)
/-- What Accept does: an error, or how many are new, and the log behind it. -/
def logAccept (L : LogS) (f h : List Ent) (ws : List Wr) : Er ⊕ (Nat × LogS) :=
  if bRight f h ws ≠ .nil then .inl (bRight f h ws)
  else if vCovers L.hav f = false then .inl (.no 10)
  else accJoin L ws (vJoin L.hav h)

end Go.Proofs.YtbahalckcenfmaaGreatDoor
