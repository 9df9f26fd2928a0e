/-
  A region that draws its order, its last operation a store into a cell that the region reads: a condition on the world is kept up to that operation alone.
-/
import Derived.Test.YtbahalckcenfmaaGreatDoorBase
import Derived.Deep.RegionHeld3
namespace Go.Proofs.YtbahalckcenfmaaGreatDoor
open Go.RowKit

section
variable {P : Program} {md : Region.Mode} {ops : Array Oper} {Q : Exit → Act → World → Prop} {S : World → Prop} {k : Nat}

/-- Whatever order is picked from here on; S holds behind every operation but number k. -/
def wpU (P : Program) (md : Region.Mode) (ops : Array Oper) (Q : Exit → Act → World → Prop) (S : World → Prop) (k : Nat) : Nat → Array Bool → Act → World → Prop
  | 0, ls, a, w => Region.ready md ops ls = [] ∧ Q .normal a w
  | m + 1, ls, a, w => (Region.ready md ops ls = [] → Q .normal a w) ∧
    ∀ i ∈ Region.ready md ops ls, wpOp P ops Q i (fun a' w' => (i ≠ k → S w') ∧ wpU P md ops Q S k m (ls.setIfInBounds i true) a' w') a w

theorem wpU.any : ∀ (m : Nat) (ls : Array Bool) (a : Act) (w : World), wpU P md ops Q S k m ls a w → wpAny P md ops Q m ls a w
  | 0, _, _, _, h => h
  | m + 1, _, _, _, h => ⟨h.1, fun i hi => wpOp_mono (fun a' w' g => wpU.any m _ a' w' g.2) (h.2 i hi)⟩

/-- Number i is waited for by number k. -/
def waits (md : Region.Mode) (ops : Array Oper) (k i : Nat) : Bool :=
  match ops[k]? with
  | some o => o.after.any fun e => Region.binds md e && e.on == i
  | none => false

theorem waits_not_ready {i : Nat} {ls : Array Bool} (h : waits md ops k i = true) (hi : ls.getD i true = false) : k ∉ Region.ready md ops ls := by
  intro hk
  obtain ⟨_, o, ho, hall⟩ := mem_ready.1 hk
  unfold waits at h
  rw [ho] at h
  obtain ⟨e, he, hb⟩ := Array.any_eq_true'.1 h
  simp only [Bool.and_eq_true, beq_iff_eq] at hb
  have h1 := hall e he hb.1
  rw [hb.2] at h1
  rcases Nat.lt_or_ge i ls.size with h' | h'
  · simp [h'] at h1 hi
    rw [hi] at h1; cases h1
  · simp [Array.getElem?_eq_none h'] at h1

theorem wpU.first {i : Nat} {oi : Oper} {v : Value} (hi : ops[i]? = some oi) (hsel : ∀ (j : Nat) (o : Oper) cs b, ops[j]? = some o → o.op ≠ .select cs b)
    (hQ : ∀ c a w, Q (.panic c) (a.put oi.dst v) w → Q (.panic c) a w) (hk : waits md ops k i = true) :
    ∀ (m : Nat) (ls : Array Bool) (a : Act) (w : World),
      (∀ j oj, ops[j]? = some oj → j ≠ i → ls.getD j true = false → (∀ e ∈ oj.after, Region.binds md e = true → e.on ≠ i) → oi.apart ops oj = true) →
      i ∈ Region.ready md ops ls → YieldsIf P ops S oi v a → S w →
      wpU P md ops Q S k m (ls.setIfInBounds i true) (a.put oi.dst v) w → wpU P md ops Q S k (m + 1) ls a w
  | 0, ls, a, w, _, hr, hy, hS, H => by
    refine ⟨fun h => (by rw [h] at hr; cases hr), fun j hj => ?_⟩
    rcases Decidable.em (j = i) with rfl | hji
    · exact hy.wpOp hi hS ⟨fun _ => hS, H⟩
    · have := ready_mono hj hji
      rw [H.1] at this
      cases this
  | m + 1, ls, a, w, hfree, hr, hy, hS, H => by
    refine ⟨fun h => (by rw [h] at hr; cases hr), fun j hj => ?_⟩
    rcases Decidable.em (j = i) with rfl | hji
    · exact hy.wpOp hi hS ⟨fun _ => hS, H⟩
    obtain ⟨hju, oj, hoj, hall⟩ := mem_ready.1 hj
    have hiu := (mem_ready.1 hr).1
    have hjk : j ≠ k := fun e => waits_not_ready hk hiu (e ▸ hj)
    have hno : ∀ e ∈ oj.after, Region.binds md e = true → e.on ≠ i := fun e he hb heq => by
      have h1 := hall e he hb
      rw [heq] at h1
      rcases Nat.lt_or_ge i ls.size with h' | h'
      · simp [h'] at h1 hiu
        rw [hiu] at h1; cases h1
      · simp [Array.getElem?_eq_none h'] at h1
    have h2 := wpOp_putIf hoj (hfree j oj hoj hji hju hno) (fun cs b => hsel i oi cs b hi) (fun cs b => hsel j oj cs b hoj) hQ hy (H.2 j (ready_mono hj hji))
    refine wpOp_mono (fun a' w' g => ⟨g.2.1, wpU.first hi hsel hQ hk m (ls.setIfInBounds j true) a' w' (fun p op hp hpi hu hn => ?_) (ready_mono hr (Ne.symm hji)) g.1 (g.2.1 hjk) ?_⟩) h2
    · rcases Decidable.em (j = p) with rfl | hjp
      · exact hfree j op hp hpi hju hn
      · exact hfree p op hp hpi (by rw [getD_set_ne true hjp] at hu; exact hu) hn
    · rw [Array.setIfInBounds_comm _ _ hji]
      exact g.2.2

theorem wpU_take {i : Nat} {oi : Oper} {v : Value} {m : Nat} {ls : Array Bool} {a : Act} {w : World} (hi : ops[i]? = some oi)
    (hs : Region.noSelect ops = true) (hf : Region.free md ops ls i = true) (hr : (Region.ready md ops ls).contains i = true) (hk : waits md ops k i = true)
    (hQ : ∀ c a w, Q (.panic c) (a.put oi.dst v) w → Q (.panic c) a w) (hy : YieldsIf P ops S oi v a) (hS : S w)
    (h : wpU P md ops Q S k m (ls.setIfInBounds i true) (a.put oi.dst v) w) : wpU P md ops Q S k (m + 1) ls a w :=
  wpU.first hi (Region.noSelect_spec hs) hQ hk m ls a w (Region.free_spec hi hf) (by simpa using hr) hy hS h

/-- The one operation that may come up now. -/
theorem wpU_next {i : Nat} {o : Oper} {m : Nat} {ls : Array Bool} {a : Act} {w : World} (hr : Region.ready md ops ls = [i]) (ho : ops[i]? = some o)
    (h : ∀ K' : Act → World → Prop, Shut (∀ a w, (i ≠ k → S w) → ((i ≠ k → S w) → wpU P md ops Q S k m (ls.setIfInBounds i true) a w) → K' a w) → if Region.wanted o (yielded ops a.tmps) = true then Oper.wp P o a w K' Q else K' (a.put o.dst undef) w) :
    wpU P md ops Q S k (m + 1) ls a w := by
  refine ⟨fun h0 => (by rw [hr] at h0; cases h0), fun j hj => ?_⟩
  rw [hr] at hj
  obtain rfl : j = i := by simpa using hj
  exact wpOp_step ho (fun K' hK => h K' (fun a w hS hW => hK a w ⟨hS, hW hS⟩))

theorem wpU_done {ls : Array Bool} {a : Act} {w : World} (hr : Region.ready md ops ls = []) (h : Q .normal a w) : ∀ m, wpU P md ops Q S k m ls a w
  | 0 => ⟨hr, h⟩
  | _ + 1 => ⟨fun _ => h, by rw [hr]; simp⟩

theorem wp_regionU {id : Nat} {a : Act} {w : World} (hm : P.follows .mixedOrders = true) (hS : S w.drew)
    (h : S w.drew → wpU P .any ops Q S k ops.size (Array.replicate ops.size false) a w.drew) : (Code.region id ops true).wp P Q a w :=
  wp_region_any hm (wpU.any _ _ _ _ (h hS))
end

end Go.Proofs.YtbahalckcenfmaaGreatDoor
