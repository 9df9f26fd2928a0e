/-
  A sorted row of elements of several cells: the worlds of the kit's sort in the words of rows that are owned.
-/
import Derived.Test.YtbahalckcenfmaaGreatDoorLogA
import Derived.Shelf.GgSortFunc.InsertionK
namespace Go.Proofs.YtbahalckcenfmaaGreatDoor
open Go.RowKit Go.Sort

section
variable {α : Type} [Inhabited α] {enc : α → List Value} {k : Nat}
/-- The cells of a row of such elements. -/
def fl (enc : α → List Value) (l : List α) : List Value := l.flatMap enc
omit [Inhabited α] in
theorem fl_length (hk : ∀ x, (enc x).length = k) (l : List α) : (fl enc l).length = l.length * k := by
  induction l with
  | nil => simp [fl]
  | cons x l ih => simp only [fl, List.flatMap_cons, List.length_append, List.length_cons, hk, Nat.succ_mul] at ih ⊢; omega
theorem fl_get (hk : ∀ x, (enc x).length = k) (l : List α) (t : Nat) (h : t < l.length * k) : (fl enc l)[t]? = some ((enc l[t / k]!)[t % k]!) := by
  induction l generalizing t with
  | nil => simp at h
  | cons x l ih =>
    have k0 : 0 < k := by rcases Nat.eq_zero_or_pos k with h' | h'; · subst h'; simp at h
                          · exact h'
    simp only [fl, List.flatMap_cons]
    by_cases ht : t < k
    · rw [List.getElem?_append_left (by rw [hk]; exact ht), Nat.div_eq_of_lt ht, Nat.mod_eq_of_lt ht]
      have : t < (enc x).length := by rw [hk]; exact ht
      simp [this]
    · rw [List.getElem?_append_right (by rw [hk]; omega), hk]
      have e1 : t / k = (t - k) / k + 1 := by
        rw [← Nat.add_div_right _ k0]; congr 1; omega
      have e2 : t % k = (t - k) % k := by
        rw [Nat.mod_eq_sub_mod (by omega)]
      have := ih (t - k) (by simp only [List.length_cons, Nat.succ_mul] at h; omega)
      simp only [fl] at this
      rw [this, e1, e2]
      simp
theorem flatK_list (hk : ∀ x, (enc x).length = k) (d : Array α) : (flatK enc k d).toList = fl enc d.toList := by
  refine List.ext_getElem? fun t => ?_
  by_cases ht : t < d.size * k
  · rw [fl_get hk _ t (by simpa using ht)]
    have h1 : t < (flatK enc k d).size := by rw [size_flatK]; exact ht
    have h2 := get_flatK enc k d t ht
    rw [getElem!_pos _ t h1] at h2
    simp only [Array.getElem?_toList]
    have hd : t / k < d.size := Nat.div_lt_of_lt_mul (by rw [Nat.mul_comm]; exact ht)
    rw [Array.getElem?_eq_getElem h1, h2, getElem!_pos d _ hd, getElem!_pos d.toList _ (by simpa using hd)]
    simp
  · rw [List.getElem?_eq_none (by simp; omega), List.getElem?_eq_none (by rw [fl_length hk]; simp; omega)]

theorem own_holdsK (hk : ∀ x, (enc x).length = k) {w : World} {base g n c : Nat} {e : TypeId} {l : List α} (h : w.ownsRow base e k (.slice (some ⟨g, 0, none⟩) n c) n (fl enc l)) : HoldsK enc k w g 0 l.toArray := by
  obtain ⟨hl, h2⟩ := h
  rcases h2 with ⟨hv, _⟩ | ⟨g', cap, cur, hv, hb, hg, hc, hm, hcs, htk⟩
  · cases hv
  obtain ⟨rfl, rfl⟩ : g' = g ∧ cap = c := by cases hv; exact ⟨rfl, rfl⟩
  intro j hj
  have hj' : j < l.length * k := by simpa using hj
  have h1 := fl_get hk l j hj'
  have h2 := get_flatK enc k l.toArray j (by simpa using hj')
  rw [← htk, List.getElem?_take] at h1
  split at h1
  · refine ⟨?_, by simp [World.frozen?, hg]⟩
    rw [h2]
    simp only [id]
    simp only [Array.getElem?_toList] at h1
    simp [World.cell?, hg, h1]
  · cases h1

theorem sort_heap (w : World) (g m : Nat) (d : Array α) (os : Array Obj) (b : Nat) (hb : b < w.heap.size) : (sortWorldK enc k w g 0 m d os).heap[b]? = if b = g then (w.heap[b]?).map (onCells (putCells id 0 (flatK enc k d))) else w.heap[b]? := by
  unfold sortWorldK grow putRowK putRow mapBlock Sort.ahead
  simp only
  rw [Array.getElem?_append_left (by simpa using hb), Array.getElem?_modify]
  by_cases h : g = b
  · simp [h]
  · rw [if_neg h, if_neg (Ne.symm h)]
theorem chg_sort (w : World) (g m : Nat) (d : Array α) (os : Array Obj) : Chg (fun b => b = g) w (sortWorldK enc k w g 0 m d os) :=
  ⟨rfl, rfl, rfl, by unfold sortWorldK grow putRowK putRow mapBlock Sort.ahead; simp, fun b hb hs => by rw [sort_heap _ _ _ _ _ _ hb, if_neg hs]⟩
theorem own_sort (hk : ∀ x, (enc x).length = k) {w : World} {base g n c : Nat} {e : TypeId} {l : List α} (h : w.ownsRow base e k (.slice (some ⟨g, 0, none⟩) n c) n (fl enc l)) (m : Nat) (d : Array α) (os : Array Obj) (hd : d.size = n) :
    (sortWorldK enc k w g 0 m d os).ownsRow base e k (.slice (some ⟨g, 0, none⟩) n c) n (fl enc d.toList) := by
  obtain ⟨hl, h2⟩ := h
  rcases h2 with ⟨hv, _⟩ | ⟨g', cap, cur, hv, hb, hg, hc, hm, hcs, htk⟩
  · cases hv
  obtain ⟨rfl, rfl⟩ : g' = g ∧ cap = c := by cases hv; exact ⟨rfl, rfl⟩
  refine ⟨by rw [fl_length hk]; simp [hd], .inr ⟨g', cap, putCells id 0 (flatK enc k d) cur, rfl, hb, ?_, hc, hm, by simp [putCells, hcs], ?_⟩⟩
  · rw [sort_heap _ _ _ _ _ _ (lt_blk hg), if_pos rfl, hg]; rfl
  · rw [← flatK_list hk]
    have hcn : n * k ≤ cap * k := Nat.mul_le_mul_right k hc
    refine List.ext_getElem? fun t => ?_
    rw [List.getElem?_take]
    by_cases ht : t < n * k
    · rw [if_pos ht]
      have h1 : t < (flatK enc k d).size := by rw [size_flatK, hd]; exact ht
      have h2 : t < cur.size := by rw [hcs]; omega
      simp [putCells, h2]
      have h3 : t < d.size * k := by rw [hd]; exact ht
      simp [h3]
    · rw [if_neg ht]
      symm
      rw [List.getElem?_eq_none]
      rw [Array.length_toList, size_flatK, hd]; omega
end

end Go.Proofs.YtbahalckcenfmaaGreatDoor
