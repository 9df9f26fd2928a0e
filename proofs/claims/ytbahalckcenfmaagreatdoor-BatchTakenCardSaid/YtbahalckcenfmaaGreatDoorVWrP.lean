/-
  What vector.Write writes, in plain Lean.
-/
import Derived.Test.YtbahalckcenfmaaGreatDoorVary
import Derived.Test.YtbahalckcenfmaaGreatDoorVPl
namespace Go.Proofs.YtbahalckcenfmaaGreatDoor
open Go.RowKit
set_option linter.unusedSimpArgs false
set_option linter.unusedVariables false

/-- How many entries stand at the head whose replicas are r, r + 1, .. -/
def runN : Int → List Ent → Nat
  | _, [] => 0
  | r, x :: t => if x.r = r then runN (r + 1) t + 1 else 0
theorem runN_le (l : List Ent) : ∀ r, runN r l ≤ l.length := by
  induction l with
  | nil => intro r; exact Nat.le_refl _
  | cons x t ih => intro r; rw [runN]; split <;> simp; exact ih _
theorem runN_drop (l : List Ent) (k : Nat) (r : Int) (h : k < l.length) : runN r (l.drop k) = if l[k].r = r then runN (r + 1) (l.drop (k + 1)) + 1 else 0 := by
  rw [List.drop_eq_getElem_cons h, runN]
theorem runN_end (l : List Ent) (k : Nat) (r : Int) (h : l.length ≤ k) : runN r (l.drop k) = 0 := by
  rw [List.drop_eq_nil_of_le h, runN]

/-- Times as bytes. -/
def tBytes : List Ent → List UInt8
  | [] => []
  | x :: t => vput x.t.toNat ++ tBytes t
theorem tBytes_app (a b : List Ent) : tBytes (a ++ b) = tBytes a ++ tBytes b := by
  induction a with
  | nil => rfl
  | cons x t ih => simp [tBytes, ih]
theorem tBytes_take (l : List Ent) (k i : Nat) (h : k + i < l.length) : tBytes ((l.drop k).take (i + 1)) = tBytes ((l.drop k).take i) ++ vput l[k + i].t.toNat := by
  have e : (l.drop k).take (i + 1) = (l.drop k).take i ++ [l[k + i]] := by
    rw [List.take_add_one, List.getElem?_drop, List.getElem?_eq_getElem h]; rfl
  rw [e, tBytes_app]; simp [tBytes]

/-- Runs and their bytes. nx: the least replica that the next run may begin at. -/
def vWrGo (nx : Int) : List Ent → Nat × List UInt8
  | [] => (0, [])
  | x :: t =>
    let m := runN (x.r + 1) t
    let rest := vWrGo (x.r + m + 2) (t.drop m)
    (rest.1 + 1, vput (x.r - nx).toNat ++ vput m ++ tBytes (x :: t.take m) ++ rest.2)
termination_by l => l.length
decreasing_by simp; omega
def vWrite (l : List Ent) : List UInt8 := vput (vWrGo 0 l).1 ++ (vWrGo 0 l).2
theorem vWrGo_end (nx : Int) (l : List Ent) (k : Nat) (h : l.length ≤ k) : vWrGo nx (l.drop k) = (0, []) := by
  rw [List.drop_eq_nil_of_le h, vWrGo]
theorem vWrGo_step (nx : Int) (l : List Ent) (k m : Nat) (h : k < l.length) (hm : runN (l[k].r + 1) (l.drop (k + 1)) = m) :
    vWrGo nx (l.drop k) = ((vWrGo (l[k].r + m + 2) (l.drop (k + (m + 1)))).1 + 1, vput (l[k].r - nx).toNat ++ vput m ++ tBytes ((l.drop k).take (m + 1)) ++ (vWrGo (l[k].r + m + 2) (l.drop (k + (m + 1)))).2) := by
  have e : l.drop (k + (m + 1)) = (l.drop (k + 1)).drop m := by rw [List.drop_drop]; congr 1; omega
  rw [e]
  conv => lhs; rw [List.drop_eq_getElem_cons h, vWrGo]
  rw [List.drop_eq_getElem_cons h, List.take_succ_cons]
  simp only [hm]
/-- The next run begins farther than beside. -/
theorem run_next (l : List Ent) (hv : VOk l) : ∀ (k m : Nat) (h : k < l.length), runN (l[k].r + 1) (l.drop (k + 1)) = m → ∀ h2 : k + (m + 1) < l.length, l[k].r + m + 2 ≤ l[k + (m + 1)].r := by
  have key : ∀ (m k : Nat) (r : Int) (h : k < l.length), l[k].r = r → runN (r + 1) (l.drop (k + 1)) = m → ∀ h2 : k + (m + 1) < l.length, r + m + 2 ≤ l[k + (m + 1)].r := by
    intro m
    induction m with
    | zero =>
      intro k r h hr hm h2
      have h2' : k + 1 < l.length := by omega
      rw [runN_drop l (k + 1) _ h2'] at hm
      split at hm
      · omega
      · rename_i hne
        have := (List.pairwise_iff_getElem.1 hv.2) k (k + 1) h h2' (by omega)
        simp only [Nat.zero_add] at *
        simp
        omega
    | succ m ih =>
      intro k r h hr hm h2
      have h2' : k + 1 < l.length := by omega
      rw [runN_drop l (k + 1) _ h2'] at hm
      split at hm
      · rename_i he
        have h3 := ih (k + 1) (r + 1) h2' he (by omega) (by omega)
        have e : k + 1 + (m + 1) = k + (m + 1 + 1) := by omega
        simp only [e] at h3
        push_cast at h3 ⊢
        omega
      · omega
  intro k m h hm h2
  exact key m k _ h rfl hm h2

end Go.Proofs.YtbahalckcenfmaaGreatDoor
