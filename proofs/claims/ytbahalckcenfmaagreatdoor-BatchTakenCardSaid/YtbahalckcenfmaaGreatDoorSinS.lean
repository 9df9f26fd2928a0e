/-
  What Since does: plain. No program in sight.
-/
import Derived.Test.YtbahalckcenfmaaGreatDoorAcc
namespace Go.Proofs.YtbahalckcenfmaaGreatDoor
open Go.RowKit

/-- A vector that an id is added to; nothing, where it can't be. -/
def jstep (h : List Ent) (x : Wr) : List Ent := match vJoin h [⟨x.r, x.t⟩] with
  | .inl _ => []
  | .inr o => o
theorem jstep_ok {h o : List Ent} {x : Wr} (e : vJoin h [⟨x.r, x.t⟩] = .inr o) : jstep h x = o := by rw [jstep, e]
theorem jstep_no {h : List Ent} {x : Wr} {k : Int} (e : vJoin h [⟨x.r, x.t⟩] = .inl k) : jstep h x = [] := by rw [jstep, e]
def joinAll (h : List Ent) (l : List Wr) : List Ent := l.foldl jstep h
theorem joinAll_take (h : List Ent) (l : List Wr) (k : Nat) (hk : k < l.length) : joinAll h (l.take (k + 1)) = jstep (joinAll h (l.take k)) l[k] := by
  rw [joinAll, List.take_succ_eq_append_getElem hk, List.foldl_append]; rfl
theorem jstep_len (h : List Ent) (x : Wr) : (jstep h x).length ≤ 16 := by
  unfold jstep vJoin
  split
  · simp
  · rename_i o h1
    split at h1
    · cases h1
    split at h1
    · cases h1
    split at h1
    · cases h1
    · cases h1; omega
theorem joinAll_len (h : List Ent) (l : List Wr) (hh : h.length ≤ 16) : (joinAll h l).length ≤ 16 := by
  induction l generalizing h with
  | nil => exact hh
  | cons x l ih => exact ih (jstep h x) (jstep_len h x)

/-- The writes that are behind a vector, up to sixty; with what they tell. -/
def sinGo (fr hv : List Ent) : List Wr → List Wr → List Ent × List Wr
  | [], acc => (hv, acc)
  | x :: l, acc => if x.t ≤ vOf fr x.r then sinGo fr hv l acc else if acc.length = 60 then (joinAll fr acc, acc) else sinGo fr hv l (acc ++ [x])
theorem sinGo_drop (fr hv : List Ent) (l acc : List Wr) (k : Nat) (hk : k < l.length) : sinGo fr hv (l.drop k) acc =
    if l[k].t ≤ vOf fr l[k].r then sinGo fr hv (l.drop (k + 1)) acc else if acc.length = 60 then (joinAll fr acc, acc) else sinGo fr hv (l.drop (k + 1)) (acc ++ [l[k]]) := by
  rw [List.drop_eq_getElem_cons hk, sinGo]

/-- What Since does: an error, or a batch. -/
def logSince (L : LogS) (f : List Ent) : Int ⊕ (List Ent × List Wr) :=
  if vRight f ≠ .nil then .inl (vRight f).tell
  else if vCovers L.hav f = false then .inl 13
  else .inr (sinGo f L.hav L.wrs [])

end Go.Proofs.YtbahalckcenfmaaGreatDoor
