/-
  What Cells gives: plain; and in memory.
-/
import Derived.Test.YtbahalckcenfmaaGreatDoorStr
import Derived.Test.YtbahalckcenfmaaGreatDoorSortW
import Derived.Lib.Bytealg
import Derived.Shelf.SlSortCmp.WholeK
namespace Go.Proofs.YtbahalckcenfmaaGreatDoor
open Go.RowKit Go.Maps Go.Sort

/-- strings.Compare. -/
def bcmp (a b : ByteArray) : Int := Lib.compareBytes a.data.toList b.data.toList
theorem cb_self (l : List UInt8) : Lib.compareBytes l l = 0 := by
  induction l with
  | nil => rfl
  | cons x l ih => unfold Lib.compareBytes; simp [ih]
theorem cb_cons (x y : UInt8) (a b : List UInt8) : Lib.compareBytes (x :: a) (y :: b) = if x < y then -1 else if y < x then 1 else Lib.compareBytes a b := by
  conv => lhs; unfold Lib.compareBytes
theorem cb_zero : ∀ {a b : List UInt8}, Lib.compareBytes a b = 0 → a = b
  | [], [], _ => rfl
  | [], _ :: _, h => by simp [Lib.compareBytes] at h
  | _ :: _, [], h => by simp [Lib.compareBytes] at h
  | x :: a, y :: b, h => by
    rw [cb_cons] at h
    split at h
    · cases h
    split at h
    · cases h
    rename_i h1 h2
    have : x = y := UInt8.le_antisymm (UInt8.not_lt.1 h2) (UInt8.not_lt.1 h1)
    rw [this, cb_zero h]
theorem cb_trans : ∀ {a b c : List UInt8}, Lib.compareBytes a b < 0 → Lib.compareBytes b c < 0 → Lib.compareBytes a c < 0
  | [], [], _, h, _ => by simp [Lib.compareBytes] at h
  | [], _ :: _, [], _, h => by simp [Lib.compareBytes] at h
  | [], _ :: _, _ :: _, _, _ => by simp [Lib.compareBytes]
  | _ :: _, [], _, h, _ => by simp [Lib.compareBytes] at h
  | _ :: _, _ :: _, [], _, h => by simp [Lib.compareBytes] at h
  | x :: a, y :: b, z :: c, h1, h2 => by
    rw [cb_cons] at h1 h2 ⊢
    by_cases hxy : x < y
    · by_cases hyz : y < z
      · rw [if_pos (UInt8.lt_trans hxy hyz)]; decide
      · rw [if_neg hyz] at h2
        by_cases hzy : z < y
        · rw [if_pos hzy] at h2; omega
        · have : y = z := UInt8.le_antisymm (UInt8.not_lt.1 hzy) (UInt8.not_lt.1 hyz)
          subst this
          rw [if_pos hxy]; decide
    · rw [if_neg hxy] at h1
      by_cases hyx : y < x
      · rw [if_pos hyx] at h1; omega
      · have : x = y := UInt8.le_antisymm (UInt8.not_lt.1 hyx) (UInt8.not_lt.1 hxy)
        subst this
        rw [if_neg hxy] at h1
        by_cases hyz : x < z
        · rw [if_pos hyz]; decide
        · rw [if_neg hyz] at h2 ⊢
          by_cases hzy : z < x
          · rw [if_pos hzy] at h2; omega
          · rw [if_neg hzy] at h2 ⊢
            exact cb_trans h1 h2
theorem cb_flip : ∀ (a b : List UInt8), Lib.compareBytes b a = - Lib.compareBytes a b
  | [], [] => rfl
  | [], _ :: _ => rfl
  | _ :: _, [] => rfl
  | x :: a, y :: b => by
    rw [cb_cons, cb_cons]
    by_cases hxy : x < y
    · have : ¬ y < x := UInt8.lt_asymm hxy
      simp [hxy, this]
    · by_cases hyx : y < x
      · simp [hxy, hyx]
      · simp [hxy, hyx, cb_flip a b]
theorem bcmp_zero {a b : ByteArray} (h : bcmp a b = 0) : a = b := by
  have := cb_zero h
  obtain ⟨⟨x⟩⟩ := a
  obtain ⟨⟨y⟩⟩ := b
  simpa using this

/-- A slice's value. -/
structure SlV where
  a : Option Addr
  n : Nat
  c : Nat
def SlV.val (v : SlV) : Value := .slice v.a v.n v.c
/-- A cell, and the slice that its list is. -/
abbrev CV := Cel × SlV
instance : Inhabited CV := ⟨⟨Cel.zero ⟨#[]⟩, ⟨none, 0, 0⟩⟩⟩
def encC (p : CV) : List Value := celCells p.1 p.2.val
theorem encC_len (p : CV) : (encC p).length = 5 := rfl
theorem encC_one (p : CV) : ∀ v ∈ encC p, v.oneCell' = true := by
  obtain ⟨c, a, n, k⟩ := p
  simp [encC, celCells, SlV.val, Value.oneCell']
/-- Are they apart by keys? -/
def cmpC (p q : CV) : Int := bcmp p.1.key q.1.key
/-- Rising keys. -/
def KSorted (l : List Cel) : Prop := l.Pairwise fun a b => bcmp a.key b.key < 0

/-- The cells of a slice, their lists with them. -/
structure CelsAt (w : World) (base : Nat) (v : Value) (ps : List CV) : Prop where
  own : w.ownsRow base 128 5 v ps.length (fl encC ps)
  rows : ∀ p ∈ ps, w.ownsRow base 9 1 p.2.val p.1.list.length (strs p.1.list)
theorem CelsAt.ext {w w' : World} {base : Nat} {v : Value} {ps : List CV} (h : CelsAt w base v ps) (hx : Ext w w') : CelsAt w' base v ps :=
  ⟨own_ext h.own hx, fun p hp => own_ext (h.rows p hp) hx⟩
theorem CelsAt.base {w : World} {base base' : Nat} {v : Value} {ps : List CV} (h : CelsAt w base v ps) (hb : base' ≤ base) : CelsAt w base' v ps :=
  ⟨own_base h.own hb, fun p hp => own_base (h.rows p hp) hb⟩

/-- Those that were met so far. -/
structure Picked (s : St) (left : Lit → Bool) (ps : List CV) : Prop where
  mem : ∀ c, c ∈ ps.map Prod.fst ↔ (s c.key = some c ∧ c.some_ = true ∧ left (kl c.key) = false)
  nd : (ps.map fun p => p.1.key).Nodup

theorem kl_same {a b : ByteArray} (hb : b.size ≤ maxLen) : (kl a).sameKey (kl b) = decide (a = b) := by
  by_cases h : a = b
  · subst h; simp [WideAt.sameKey_self (kl_key a hb)]
  · simp [h, Maps.sameKey_ne (kl_ne h)]

theorem Picked.skip {s : St} {left : Lit → Bool} {ps : List CV} (h : Picked s left ps) {k : ByteArray} {c : Cel} (hk : k.size ≤ maxLen) (hs : s k = some c) (hn : c.some_ = false) : Picked s (fun z => left z && !z.sameKey (kl k)) ps := by
  refine ⟨fun c' => (h.mem c').trans ?_, h.nd⟩
  by_cases hkk : c'.key = k
  · constructor
    · rintro ⟨h1, h2, _⟩
      rw [hkk, hs] at h1; cases h1; rw [hn] at h2; cases h2
    · rintro ⟨h1, h2, _⟩
      rw [hkk, hs] at h1; cases h1; rw [hn] at h2; cases h2
  · simp [kl_same hk, hkk]
theorem Picked.add {s : St} {left : Lit → Bool} {ps : List CV} (h : Picked s left ps) {k : ByteArray} {c : Cel} (hk : k.size ≤ maxLen) (hs : s k = some c) (hck : c.key = k) (hn : c.some_ = true) (hl : left (kl k) = true) (v : SlV) :
    Picked s (fun z => left z && !z.sameKey (kl k)) (ps ++ [(c, v)]) := by
  constructor
  · intro c'
    rw [List.map_append, List.mem_append, h.mem c']
    by_cases hkk : c'.key = k
    · constructor
      · rintro (⟨_, _, h3⟩ | h1)
        · rw [hkk, hl] at h3; cases h3
        · obtain rfl : c' = c := by simpa using h1
          exact ⟨by rw [hkk]; exact hs, hn, by simp [kl_same hk, hkk]⟩
      · rintro ⟨h1, _, _⟩
        rw [hkk, hs] at h1; cases h1
        right; simp
    · have hne : c' ≠ c := fun e => hkk (by rw [e]; exact hck)
      simp [kl_same hk, hkk, hne]
  · rw [List.map_append]
    refine List.nodup_append.2 ⟨h.nd, by simp, fun a ha b hb e => ?_⟩
    obtain rfl : b = c.key := by simpa using hb
    obtain ⟨p, hp, rfl⟩ := List.mem_map.1 ha
    obtain ⟨h1, _, h3⟩ := (h.mem p.1).1 (List.mem_map.2 ⟨p, hp, rfl⟩)
    rw [e, hck, hl] at h3
    cases h3

/-- What Cells gives of a store: those cells that have something, by rising keys. -/
structure CelsOf (s : St) (l : List Cel) : Prop where
  mem : ∀ c, c ∈ l ↔ (s c.key = some c ∧ c.some_ = true)
  sorted : KSorted l
theorem KSorted.nodup {l : List Cel} (h : KSorted l) : l.Nodup := h.imp fun {a b} hab e => by rw [e] at hab; unfold bcmp at hab; rw [cb_self] at hab; omega
theorem ksorted_eq : ∀ {l l' : List Cel}, KSorted l → KSorted l' → (∀ c, c ∈ l ↔ c ∈ l') → l = l'
  | [], [], _, _, _ => rfl
  | [], x :: l', _, _, h => by have := (h x).2 (by simp); cases this
  | x :: l, [], _, _, h => by have := (h x).1 (by simp); cases this
  | x :: l, y :: l', h1, h2, h => by
    obtain ⟨a1, a2⟩ := List.pairwise_cons.1 h1
    obtain ⟨b1, b2⟩ := List.pairwise_cons.1 h2
    have hxy : x = y := by
      rcases List.mem_cons.1 ((h x).1 (by simp)) with e | e
      · exact e
      rcases List.mem_cons.1 ((h y).2 (by simp)) with e' | e'
      · exact e'.symm
      have := cb_trans (a1 y e') (b1 x e)
      rw [cb_self] at this; omega
    subst hxy
    have n1 := h1.nodup
    have n2 := h2.nodup
    rw [ksorted_eq a2 b2 fun c => ?_]
    have hc := h c
    simp only [List.mem_cons] at hc
    constructor
    · intro hm
      rcases hc.1 (.inr hm) with e | e
      · subst e; exact absurd hm (List.nodup_cons.1 n1).1
      · exact e
    · intro hm
      rcases hc.2 (.inr hm) with e | e
      · subst e; exact absurd hm (List.nodup_cons.1 n2).1
      · exact e
theorem CelsOf.unique {s : St} {l l' : List Cel} (h : CelsOf s l) (h' : CelsOf s l') : l = l' :=
  ksorted_eq h.sorted h'.sorted fun c => (h.mem c).trans (h'.mem c).symm

theorem ltC_true {p q : CV} : ltOf cmpC p q = true ↔ Lib.compareBytes p.1.key.data.toList q.1.key.data.toList < 0 := decide_eq_true_iff
theorem ltC_false {p q : CV} : ltOf cmpC p q = false ↔ ¬ Lib.compareBytes p.1.key.data.toList q.1.key.data.toList < 0 := decide_eq_false_iff_not
theorem swoC : SWO (ltOf cmpC) where
  irrefl p := by rw [ltC_false, cb_self]; omega
  trans p q r h1 h2 := by
    rw [ltC_true] at *
    exact cb_trans h1 h2
  ntrans p q r h1 h2 := by
    rw [ltC_false] at *
    intro h3
    by_cases h0 : Lib.compareBytes p.1.key.data.toList q.1.key.data.toList = 0
    · rw [cb_zero h0] at h3; exact h2 h3
    · refine h2 (cb_trans (b := p.1.key.data.toList) ?_ h3)
      rw [cb_flip]; omega

/-- What is sorted, no key twice, rises. -/
theorem sorted_keys {d d' : Array CV} (hp : PermIn 0 d.size d d') (hs : SortedIn (ltOf cmpC) 0 d.size d') (hnd : (d.toList.map fun p => p.1.key).Nodup) :
    d'.toList.Perm d.toList ∧ KSorted (d'.toList.map Prod.fst) := by
  obtain ⟨hsz, _, hperm⟩ := hp
  have e1 : d'.extract 0 d.size = d' := by rw [← hsz]; simp
  have e2 : d.extract 0 d.size = d := by simp
  rw [e1, e2] at hperm
  refine ⟨hperm, ?_⟩
  have hnd' : (d'.toList.map fun p => p.1.key).Nodup := (hperm.map _).nodup_iff.2 hnd
  unfold KSorted
  rw [List.pairwise_map, List.pairwise_iff_getElem]
  intro i j hi hj hij
  have hi' : i < d'.size := by simpa using hi
  have hj' : j < d'.size := by simpa using hj
  have h1 := hs i j (Nat.zero_le _) hij (by omega)
  rw [getElem!_pos _ i hi', getElem!_pos _ j hj', ltC_false] at h1
  have h2 : d'.toList[i].1.key ≠ d'.toList[j].1.key := by
    rw [List.nodup_iff_pairwise_ne, List.pairwise_map, List.pairwise_iff_getElem] at hnd'
    exact hnd' i j hi hj hij
  rw [Array.getElem_toList, Array.getElem_toList] at h2 ⊢
  unfold bcmp
  rw [cb_flip] at h1
  have h3 : Lib.compareBytes d'[i].1.key.data.toList d'[j].1.key.data.toList ≠ 0 := fun e => h2 (bcmp_zero e)
  omega

end Go.Proofs.YtbahalckcenfmaaGreatDoor
