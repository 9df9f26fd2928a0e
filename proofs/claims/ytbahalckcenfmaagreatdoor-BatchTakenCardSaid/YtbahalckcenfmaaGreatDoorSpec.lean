/-
  Plain functions that say what the program computes on vectors, ids and writes. No program in sight.
-/
import Derived.Test.YtbahalckcenfmaaGreatDoorBase
namespace Go.Proofs.YtbahalckcenfmaaGreatDoor
open Go.RowKit

/-- An entry alone is right. -/
def okEnt (x : Ent) : Prop := 0 ≤ x.r ∧ x.r ≤ 200 ∧ 1 ≤ x.t ∧ x.t ≤ 1099511627776
instance (x : Ent) : Decidable (okEnt x) := by unfold okEnt; infer_instance

/-- An entry's replica is not above the one ahead. -/
def badPrev (p : Option Int) (r : Int) : Prop := ∃ q, p = some q ∧ r ≤ q
theorem badPrev_none (r : Int) : ¬ badPrev none r := fun ⟨_, h, _⟩ => by cases h
theorem badPrev_some (q r : Int) : badPrev (some q) r ↔ r ≤ q := ⟨fun ⟨_, h, h'⟩ => by cases h; exact h', fun h => ⟨_, rfl, h⟩⟩
instance (p : Option Int) (r : Int) : Decidable (badPrev p r) := match p with
  | none => isFalse (badPrev_none r)
  | some q => decidable_of_iff _ (badPrev_some q r).symm

def vRightGo : Nat → Option Int → List Ent → Er
  | _, _, [] => .nil
  | i, p, x :: l => if okEnt x then (if badPrev p x.r then .plc 10 i else vRightGo (i + 1) (some x.r) l) else .plc 2 i

/-- What is wrong with a vector. -/
def vRight (l : List Ent) : Er := if 16 < l.length then .no 4 else vRightGo 0 none l

/-- How far a replica is known. -/
def vOf : List Ent → Int → Int
  | [], _ => 0
  | e :: l, r => if e.r = r then e.t else vOf l r

theorem vOf_drop (l : List Ent) (r : Int) (k : Nat) (h : k < l.length) : vOf (l.drop k) r = if l[k].r = r then l[k].t else vOf (l.drop (k+1)) r := by
  rw [List.drop_eq_getElem_cons h]; rfl

/-- The replica of the entry ahead of the k-th. -/
def prevR (l : List Ent) (k : Nat) : Option Int := if k = 0 then none else (l[k - 1]?).map Ent.r
theorem prevR_zero (l : List Ent) : prevR l 0 = none := rfl
theorem prevR_succ (l : List Ent) (k : Nat) (h : k < l.length) : prevR l (k + 1) = some l[k].r := by
  simp [prevR, h]

theorem vRightGo_drop (l : List Ent) (k : Nat) (h : k < l.length) : vRightGo k (prevR l k) (l.drop k) =
    if okEnt l[k] then (if badPrev (prevR l k) l[k].r then .plc 10 k else vRightGo (k + 1) (prevR l (k + 1)) (l.drop (k + 1))) else .plc 2 k := by
  rw [List.drop_eq_getElem_cons h, vRightGo, prevR_succ l k h]

def vCovers (a b : List Ent) : Bool := decide (vRight a = .nil) && decide (vRight b = .nil) && b.all fun x => decide (x.t ≤ vOf a x.r)

theorem all_take_succ {α : Type} (p : α → Bool) (l : List α) (k : Nat) (h : k < l.length) : (l.take (k + 1)).all p = ((l.take k).all p && p l[k]) := by
  rw [List.take_succ_eq_append_getElem h, List.all_append]; simp only [List.all_cons, List.all_nil, Bool.and_true]
theorem all_false_of {α : Type} (p : α → Bool) (l : List α) (k : Nat) (h : k < l.length) (hp : p l[k] = false) : l.all p = false := by
  rw [Bool.eq_false_iff]; intro ha
  have := List.all_eq_true.1 ha l[k] (List.getElem_mem h)
  rw [hp] at this; cases this
theorem vCovers_no (a b : List Ent) (h : vRight a ≠ .nil ∨ vRight b ≠ .nil) : vCovers a b = false := by
  rcases h with h | h <;> simp [vCovers, h]

def vMerge : List Ent → List Ent → List Ent
  | [], b => b
  | a, [] => a
  | x :: a, y :: b =>
    if x.r < y.r then x :: vMerge a (y :: b)
    else if y.r < x.r then y :: vMerge (x :: a) b
    else ⟨x.r, max x.t y.t⟩ :: vMerge a b
termination_by a b => a.length + b.length
theorem vMerge_nil_left (b : List Ent) : vMerge [] b = b := by unfold vMerge; rfl
theorem vMerge_nil_right (a : List Ent) : vMerge a [] = a := by cases a <;> unfold vMerge <;> rfl
theorem vMerge_lt (x y : Ent) (a b : List Ent) (h : x.r < y.r) : vMerge (x :: a) (y :: b) = x :: vMerge a (y :: b) := by
  rw [vMerge, if_pos h]
theorem vMerge_gt (x y : Ent) (a b : List Ent) (h : y.r < x.r) : vMerge (x :: a) (y :: b) = y :: vMerge (x :: a) b := by
  rw [vMerge, if_neg (by omega), if_pos h]
theorem vMerge_eq (x y : Ent) (a b : List Ent) (h : x.r = y.r) : vMerge (x :: a) (y :: b) = ⟨x.r, max x.t y.t⟩ :: vMerge a b := by
  rw [vMerge, if_neg (by omega), if_neg (by omega)]

/-- What both know together, or which error. -/
def vJoin (a b : List Ent) : Int ⊕ List Ent :=
  if vRight a ≠ .nil then .inl (vRight a).tell
  else if vRight b ≠ .nil then .inl (vRight b).tell
  else if 16 < (vMerge a b).length then .inl 4 else .inr (vMerge a b)

theorem vRight_len {l : List Ent} (h : vRight l = .nil) : l.length ≤ 16 := by
  unfold vRight at h
  split at h
  · cases h
  · omega

/-- The cells of a row of entries. -/
def eCells : List Ent → List Value
  | [] => []
  | x :: l => .int .i64 x.r :: .int .i64 x.t :: eCells l
theorem eCells_length (l : List Ent) : (eCells l).length = l.length * 2 := by
  induction l with
  | nil => rfl
  | cons x l ih => simp [eCells, ih]; omega
theorem eCells_append (a b : List Ent) : eCells (a ++ b) = eCells a ++ eCells b := by
  induction a with
  | nil => rfl
  | cons x a ih => simp [eCells, ih]
theorem eCells_get (l : List Ent) (k : Nat) (h : k < l.length) : (eCells l)[k * 2]? = some (.int .i64 l[k].r) ∧ (eCells l)[k * 2 + 1]? = some (.int .i64 l[k].t) := by
  induction l generalizing k with
  | nil => simp at h
  | cons x l ih =>
    cases k with
    | zero => simp [eCells]
    | succ k =>
      have := ih k (by simpa using h)
      simp only [eCells, Nat.succ_mul, List.getElem_cons_succ]
      exact this

/-- cmp.Compare on ints. -/
def icmp (a b : Int) : Int := if a < b then -1 else if b < a then 1 else 0
/-- ident.Compare: by time, then by replica. -/
def orI (a b : Int) : Int := if a ≠ 0 then a else b
def idCmp (t1 r1 t2 r2 : Int) : Int := orI (icmp t1 t2) (icmp r1 r2)

def okId (t r : Int) : Prop := 1 ≤ t ∧ t ≤ 1099511627776 ∧ 0 ≤ r ∧ r ≤ 200
instance (t r : Int) : Decidable (okId t r) := by unfold okId; infer_instance

def idWithin (t r : Int) (from_ have_ : List Ent) : Bool := decide (vOf from_ r < t) && decide (t ≤ vOf have_ r)

/-- What is wrong with a write. -/
def wRight (x : Wr) : Er :=
  if x.kind < 1 ∨ 4 < x.kind then .no 1
  else if ¬ okId x.t x.r then .no 2
  else if 40 < x.key.size ∨ 300 < x.val.size then .no 4
  else if ((x.kind = 2 ∨ x.kind = 3) ∧ x.val ≠ ⟨#[]⟩) ∨ ((x.kind = 1 ∨ x.kind = 2) ∧ x.n ≠ 0) then .no 3
  else if (x.kind = 3 ∧ (x.n < -1125899906842624 ∨ 1125899906842624 < x.n)) ∨ (x.kind = 4 ∧ (x.n < 0 ∨ 1000 < x.n)) then .no 2
  else .nil

/-- The cells of a row of writes. -/
def wCells1 (x : Wr) : List Value := [.int .i64 x.t, .int .i64 x.r, .int .i64 x.kind, .string x.key, .string x.val, .int .i64 x.n]
def wCells : List Wr → List Value
  | [] => []
  | x :: l => .int .i64 x.t :: .int .i64 x.r :: .int .i64 x.kind :: .string x.key :: .string x.val :: .int .i64 x.n :: wCells l
theorem wCells_length (l : List Wr) : (wCells l).length = l.length * 6 := by
  induction l with
  | nil => rfl
  | cons x l ih => simp [wCells, ih]; omega
theorem wCells_append (a b : List Wr) : wCells (a ++ b) = wCells a ++ wCells b := by
  induction a with
  | nil => rfl
  | cons x a ih => simp [wCells, ih]
theorem wCells_get (l : List Wr) (k : Nat) (h : k < l.length) : (wCells l)[k * 6]? = some (.int .i64 l[k].t) ∧ (wCells l)[k * 6 + 1]? = some (.int .i64 l[k].r) ∧
    (wCells l)[k * 6 + 2]? = some (.int .i64 l[k].kind) ∧ (wCells l)[k * 6 + 3]? = some (.string l[k].key) ∧ (wCells l)[k * 6 + 4]? = some (.string l[k].val) ∧ (wCells l)[k * 6 + 5]? = some (.int .i64 l[k].n) := by
  induction l generalizing k with
  | nil => simp at h
  | cons x l ih =>
    cases k with
    | zero => simp [wCells]
    | succ k =>
      have := ih k (by simpa using h)
      simp only [wCells, Nat.succ_mul, List.getElem_cons_succ]
      exact this

theorem eCells_one (l : List Ent) : ∀ u ∈ eCells l, u.oneCell' = true := by
  induction l with
  | nil => simp [eCells]
  | cons x l ih => simp [eCells, Value.oneCell']; exact ih
theorem wCells_one (l : List Wr) : ∀ u ∈ wCells l, u.oneCell' = true := by
  induction l with
  | nil => simp [wCells]
  | cons x l ih => simp [wCells, Value.oneCell']; exact ih

/-- The slice at a reads as these writes. -/
def WrsAt (w : World) (a : Option Addr) (l : List Wr) : Prop :=
  l = [] ∨ ∃ b off, a = some ⟨b, off, none⟩ ∧ b < w.heap.size ∧ ∀ k (h : k < l.length),
    w.cell? ⟨b, off + k * 6, none⟩ = some (.int .i64 l[k].t) ∧ w.cell? ⟨b, off + k * 6 + 1, none⟩ = some (.int .i64 l[k].r) ∧ w.cell? ⟨b, off + k * 6 + 2, none⟩ = some (.int .i64 l[k].kind) ∧
    w.cell? ⟨b, off + k * 6 + 3, none⟩ = some (.string l[k].key) ∧ w.cell? ⟨b, off + k * 6 + 4, none⟩ = some (.string l[k].val) ∧ w.cell? ⟨b, off + k * 6 + 5, none⟩ = some (.int .i64 l[k].n)
theorem WrsAt.ext {w w' : World} {a : Option Addr} {l : List Wr} (h : WrsAt w a l) (hb : Ext w w') : WrsAt w' a l := by
  rcases h with h | ⟨b, off, rfl, hlt, hc⟩
  · exact .inl h
  · exact .inr ⟨b, off, rfl, Nat.lt_of_lt_of_le hlt hb.size, fun k hk => by
      obtain ⟨h0, h1, h2, h3, h4, h5⟩ := hc k hk
      exact ⟨hb.get h0, hb.get h1, hb.get h2, hb.get h3, hb.get h4, hb.get h5⟩⟩

/-- The cells of a row, one by one. -/
def RowAt (w : World) (a : Option Addr) (cs : List Value) : Prop := cs = [] ∨ ∃ b off, a = some ⟨b, off, none⟩ ∧ b < w.heap.size ∧ ∀ j u, cs[j]? = some u → w.cell? ⟨b, off + j, none⟩ = some u
theorem RowAt.ents {w : World} {a : Option Addr} {l : List Ent} (h : RowAt w a (eCells l)) : EntsAt w a l := by
  rcases h with h | ⟨b, off, rfl, hb, hc⟩
  · left; cases l with
    | nil => rfl
    | cons x l => simp [eCells] at h
  · right; exact ⟨b, off, rfl, hb, fun k hk => ⟨by have := hc _ _ (eCells_get l k hk).1; exact this, by have := hc _ _ (eCells_get l k hk).2; rwa [← Nat.add_assoc] at this⟩⟩
theorem RowAt.wrs {w : World} {a : Option Addr} {l : List Wr} (h : RowAt w a (wCells l)) : WrsAt w a l := by
  rcases h with h | ⟨b, off, rfl, hb, hc⟩
  · left; cases l with
    | nil => rfl
    | cons x l => simp [wCells] at h
  · right
    refine ⟨b, off, rfl, hb, fun k hk => ?_⟩
    obtain ⟨h0, h1, h2, h3, h4, h5⟩ := wCells_get l k hk
    have g1 := hc _ _ h1; have g2 := hc _ _ h2; have g3 := hc _ _ h3; have g4 := hc _ _ h4; have g5 := hc _ _ h5
    simp only [← Nat.add_assoc] at g1 g2 g3 g4 g5
    exact ⟨hc _ _ h0, g1, g2, g3, g4, g5⟩
theorem EntsAt.row {w : World} {a : Option Addr} {l : List Ent} (h : EntsAt w a l) : RowAt w a (eCells l) := by
  rcases h with h | ⟨b, off, rfl, hb, hc⟩
  · left; rw [h]; rfl
  · right
    refine ⟨b, off, rfl, hb, fun j u hj => ?_⟩
    have hlt : j < (eCells l).length := (List.getElem?_eq_some_iff.1 hj).1
    rw [eCells_length] at hlt
    have hk : j / 2 < l.length := by omega
    have hg := eCells_get l (j / 2) hk
    have hcc := hc (j / 2) hk
    have : j = j / 2 * 2 ∨ j = j / 2 * 2 + 1 := by omega
    rcases this with e | e
    · rw [e] at hj ⊢; rw [hg.1] at hj; cases hj; exact hcc.1
    · rw [e] at hj ⊢; rw [hg.2] at hj; cases hj; rw [← Nat.add_assoc]; exact hcc.2
theorem WrsAt.row {w : World} {a : Option Addr} {l : List Wr} (h : WrsAt w a l) : RowAt w a (wCells l) := by
  rcases h with h | ⟨b, off, rfl, hb, hc⟩
  · left; rw [h]; rfl
  · right
    refine ⟨b, off, rfl, hb, fun j u hj => ?_⟩
    have hlt : j < (wCells l).length := (List.getElem?_eq_some_iff.1 hj).1
    rw [wCells_length] at hlt
    have hk : j / 6 < l.length := by omega
    obtain ⟨g0, g1, g2, g3, g4, g5⟩ := wCells_get l (j / 6) hk
    obtain ⟨c0, c1, c2, c3, c4, c5⟩ := hc (j / 6) hk
    have : j = j / 6 * 6 ∨ j = j / 6 * 6 + 1 ∨ j = j / 6 * 6 + 2 ∨ j = j / 6 * 6 + 3 ∨ j = j / 6 * 6 + 4 ∨ j = j / 6 * 6 + 5 := by omega
    rcases this with e | e | e | e | e | e
    · rw [e] at hj ⊢; rw [g0] at hj; cases hj; exact c0
    · rw [e] at hj ⊢; rw [g1] at hj; cases hj; rw [← Nat.add_assoc]; exact c1
    · rw [e] at hj ⊢; rw [g2] at hj; cases hj; rw [← Nat.add_assoc]; exact c2
    · rw [e] at hj ⊢; rw [g3] at hj; cases hj; rw [← Nat.add_assoc]; exact c3
    · rw [e] at hj ⊢; rw [g4] at hj; cases hj; rw [← Nat.add_assoc]; exact c4
    · rw [e] at hj ⊢; rw [g5] at hj; cases hj; rw [← Nat.add_assoc]; exact c5
theorem RowAt.none {w : World} {cs : List Value} (h : RowAt w none cs) : cs = [] := by
  rcases h with h | ⟨b, off, h, _⟩
  · exact h
  · cases h
theorem own_row {w : World} {base : Nat} {e : TypeId} {size : Nat} {v : Value} {n : Nat} {xs : List Value} (h : w.ownsRow base e size v n xs) :
    ∃ a c, v = .slice a n c ∧ n ≤ c ∧ RowAt w a xs ∧ (a = none → v = .slice none 0 0) ∧ ∀ ad, a = some ad → base ≤ ad.block ∧ ad.block < w.heap.size := by
  obtain ⟨hl, h2⟩ := h
  rcases h2 with ⟨hv, h0⟩ | ⟨g, cap, cur, hv, hb, hg, hc, hm, hcs, htk⟩
  · subst h0; exact ⟨none, 0, hv, Nat.le_refl _, .inl (List.eq_nil_of_length_eq_zero (by omega)), fun _ => hv, fun ad hx => by cases hx⟩
  · have hlt : g < w.heap.size := by
      rcases Nat.lt_or_ge g w.heap.size with h | h
      · exact h
      · rw [Array.getElem?_eq_none h] at hg; cases hg
    refine ⟨_, cap, hv, hc, ?_, (fun hx => by cases hx), (fun ad hx => by cases hx; exact ⟨hb, hlt⟩)⟩
    right
    refine ⟨g, 0, rfl, hlt, fun j u hj => ?_⟩
    have hjl : j < xs.length := (List.getElem?_eq_some_iff.1 hj).1
    have : cur[j]? = some u := by
      rw [← htk, List.getElem?_take] at hj
      split at hj
      · simpa using hj
      · cases hj
    simp [World.cell?, hg, this]

/-- The id of the write ahead is not earlier. -/
def badOrd (p : Option Wr) (x : Wr) : Prop := ∃ q, p = some q ∧ 0 ≤ idCmp q.t q.r x.t x.r
theorem badOrd_none (x : Wr) : ¬ badOrd none x := fun ⟨_, h, _⟩ => by cases h
theorem badOrd_some (q x : Wr) : badOrd (some q) x ↔ 0 ≤ idCmp q.t q.r x.t x.r := ⟨fun ⟨_, h, h'⟩ => by cases h; exact h', fun h => ⟨_, rfl, h⟩⟩
instance (p : Option Wr) (x : Wr) : Decidable (badOrd p x) := match p with
  | none => isFalse (badOrd_none x)
  | some q => decidable_of_iff _ (badOrd_some q x).symm

def bRightGo (f h : List Ent) : Nat → Option Wr → List Wr → Er
  | _, _, [] => .nil
  | i, p, x :: l =>
    if (wRight x).tell ≠ 0 then .plc (wRight x).tell i
    else if badOrd p x then .plc 10 i
    else if idWithin x.t x.r f h = false then .plc 6 i
    else bRightGo f h (i + 1) (some x) l

/-- What is wrong with a batch. -/
def bRight (f h : List Ent) (ws : List Wr) : Er :=
  if vRight f ≠ .nil then .no (vRight f).tell
  else if vRight h ≠ .nil then .no (vRight h).tell
  else if vCovers h f = false then .no 13
  else if 60 < ws.length then .no 4
  else bRightGo f h 0 none ws

def prevW (l : List Wr) (k : Nat) : Option Wr := if k = 0 then none else l[k - 1]?
theorem prevW_succ (l : List Wr) (k : Nat) (h : k < l.length) : prevW l (k + 1) = some l[k] := by simp [prevW, h]
theorem bRightGo_drop (f h : List Ent) (l : List Wr) (k : Nat) (hk : k < l.length) : bRightGo f h k (prevW l k) (l.drop k) =
    if (wRight l[k]).tell ≠ 0 then .plc (wRight l[k]).tell k
    else if badOrd (prevW l k) l[k] then .plc 10 k
    else if idWithin l[k].t l[k].r f h = false then .plc 6 k
    else bRightGo f h (k + 1) (prevW l (k + 1)) (l.drop (k + 1)) := by
  rw [List.drop_eq_getElem_cons hk, bRightGo, prevW_succ l k hk]

/-- Each write is of Go's own ranges. -/
def wFits (x : Wr) : Prop := x.key.size < 9223372036854775808 ∧ x.val.size < 9223372036854775808 ∧ -9223372036854775808 ≤ x.kind ∧ x.kind ≤ 9223372036854775807

/-- The latest time that is known. -/
def lMax (l : List Ent) : Int := l.foldl (fun m x => max m x.t) 0
theorem lMax_snoc (l : List Ent) (x : Ent) : lMax (l ++ [x]) = max (lMax l) x.t := by simp [lMax, List.foldl_append]
theorem lMax_take (l : List Ent) (k : Nat) (h : k < l.length) : lMax (l.take (k + 1)) = max (lMax (l.take k)) l[k].t := by
  rw [List.take_succ_eq_append_getElem h, lMax_snoc]

theorem lMax_bd (l : List Ent) (B : Int) (hB : 0 ≤ B) (h : ∀ e ∈ l, 0 ≤ e.t ∧ e.t ≤ B) : 0 ≤ lMax l ∧ lMax l ≤ B := by
  have key : ∀ (l : List Ent) (m : Int), 0 ≤ m ∧ m ≤ B → (∀ e ∈ l, 0 ≤ e.t ∧ e.t ≤ B) → 0 ≤ l.foldl (fun m x => max m x.t) m ∧ l.foldl (fun m x => max m x.t) m ≤ B := by
    intro l
    induction l with
    | nil => intro m hm _; exact hm
    | cons x l ih =>
      intro m hm hl
      have hx := hl x (by simp)
      exact ih _ (by show 0 ≤ max m x.t ∧ max m x.t ≤ B; omega) (fun e he => hl e (by simp [he]))
  exact key l 0 (by omega) h

/-- A new block of one entry. -/
theorem ents_one (W : World) (b : Nat) (x : Ent) (hb : b = W.heap.size) : EntsAt (W.alloc (.cells #[.int .i64 x.r, .int .i64 x.t] 45)) (some ⟨b, 0, none⟩) [x] := by
  refine .inr ⟨b, 0, rfl, by simp; omega, fun k hk => ?_⟩
  have : k = 0 := by simpa using hk
  subst this
  exact ⟨cell_new _ _ _ _ _ _ hb rfl, cell_new _ _ _ _ _ _ hb rfl⟩

theorem wRight_bare (x : Wr) : wRight x = .nil ∨ ∃ k, wRight x = .no k := by
  unfold wRight
  split; · exact .inr ⟨_, rfl⟩
  split; · exact .inr ⟨_, rfl⟩
  split; · exact .inr ⟨_, rfl⟩
  split; · exact .inr ⟨_, rfl⟩
  split; · exact .inr ⟨_, rfl⟩
  exact .inl rfl
theorem IsEr.wright {w w' : World} {v : Value} {x : Wr} (h : IsEr w v (wRight x)) : IsEr w' v (wRight x) := by
  rcases wRight_bare x with h' | ⟨k, h'⟩ <;> rw [h'] at h ⊢ <;> exact h

end Go.Proofs.YtbahalckcenfmaaGreatDoor
