/-
  What LogLong's logs hold: plain. No program in sight.
-/
import Derived.Test.YtpohhfkgoijpaaaDoorPick
namespace Go.Proofs.YtpohhfkgoijpaaaDoor
open Go.RowKit

/-- The i-th write; k writes from the m-th on. -/
def lgW (d : Int) (i : Nat) : Wr := ⟨(i : Int) + 1, 1, 3, kk, ⟨#[]⟩, d⟩
def seg (d : Int) : Nat → Nat → List Wr
  | _, 0 => []
  | m, k + 1 => lgW d m :: seg d (m + 1) k
def lgH (m : Nat) : List Ent := if m = 0 then [] else [⟨1, m⟩]
def lgA (d : Int) (m : Nat) : LogS := ⟨1, lgH m, seg d 0 m⟩
def lgB (d : Int) (m : Nat) : LogS := ⟨2, lgH m, seg d 0 m⟩
theorem seg_cons (d : Int) (m k : Nat) : seg d m (k + 1) = lgW d m :: seg d (m + 1) k := rfl
theorem seg_len (d : Int) : ∀ (m k : Nat), (seg d m k).length = k
  | _, 0 => rfl
  | m, k + 1 => by simp [seg, seg_len d (m + 1) k]
theorem seg_app (d : Int) : ∀ (m j k : Nat), seg d m (j + k) = seg d m j ++ seg d (m + j) k
  | m, 0, k => by simp [seg]
  | m, j + 1, k => by rw [show j + 1 + k = (j + k) + 1 from by omega]; simp only [seg, List.cons_append]; rw [seg_app d (m + 1) j k, show m + 1 + j = m + (j + 1) from by omega]
theorem seg_snoc (d : Int) (m k : Nat) : seg d m (k + 1) = seg d m k ++ [lgW d (m + k)] := by rw [seg_app]; rfl
theorem seg_mem (d : Int) {x : Wr} : ∀ {m k : Nat}, x ∈ seg d m k → ∃ i, x = lgW d i ∧ m ≤ i ∧ i < m + k
  | _, 0, h => by cases h
  | m, k + 1, h => by
    rcases List.mem_cons.1 h with rfl | h
    · exact ⟨m, rfl, by omega, by omega⟩
    · obtain ⟨i, h1, h2, h3⟩ := seg_mem d h
      exact ⟨i, h1, by omega, by omega⟩
theorem lgW_right {d : Int} {m : Nat} (h : m ≤ 1000) (h0 : 1 ≤ d) (h1 : d ≤ 9) : wRight (lgW d m) = .nil := by
  have e1 : kk.size = 1 := by decide +kernel
  have e2 : (⟨#[]⟩ : ByteArray).size = 0 := by decide +kernel
  unfold wRight lgW
  rw [if_neg (by simp), if_neg (by simp [okId]; omega), if_neg (by simp only [e1, e2]; omega), if_neg (by simp), if_neg (by simp; omega)]
theorem lgH_max (m : Nat) : lMax (lgH m) = m := by
  unfold lgH
  split
  · rename_i h; subst h; rfl
  · simp [lMax]
theorem lgH_right (m : Nat) (h : m ≤ 1000) : vRight (lgH m) = .nil := by
  unfold lgH
  split
  · rfl
  · exact vr1 1 m (by omega) (by omega) (by omega) (by omega)
theorem lgH_of (m : Nat) (r : Int) : vOf (lgH m) r = if r = 1 then (m : Int) else 0 := by
  unfold lgH
  split
  · rename_i h; subst h; simp [vOf]
  · by_cases hr : r = 1
    · subst hr; simp [vOf]
    · have : ¬ (1 : Int) = r := fun e => hr e.symm
      simp [vOf, hr, this]
theorem lgH_merge {m j : Nat} (h : m ≤ j) : vMerge (lgH m) (lgH j) = lgH j := by
  unfold lgH
  by_cases hm : m = 0
  · rw [if_pos hm, vMerge_nil_left]
  · rw [if_neg hm, if_neg (by omega : ¬ j = 0), vMerge_eq (⟨1, m⟩ : Ent) ⟨1, j⟩ [] [] rfl, vMerge_nil_left]
    have : max (m : Int) (j : Int) = (j : Int) := by omega
    rw [this]
theorem lgH_cov {m j : Nat} (hm : m ≤ 1000) (hj : j ≤ 1000) : vCovers (lgH m) (lgH j) = decide (j ≤ m) := by
  rw [Bool.eq_iff_iff, vCovers_iff, decide_eq_true_eq]
  constructor
  · rintro ⟨_, _, h⟩
    have := h 1
    rw [lgH_of, lgH_of] at this
    simp at this; exact this
  · intro h
    refine ⟨lgH_right m hm, lgH_right j hj, fun r => ?_⟩
    rw [lgH_of, lgH_of]
    split <;> omega
theorem lgH_len (m : Nat) : (lgH m).length ≤ 1 := by unfold lgH; split <;> simp
theorem lgH_one (j : Nat) : [(⟨1, (j : Int) + 1⟩ : Ent)] = lgH (j + 1) := by unfold lgH; rw [if_neg (by omega)]; rfl
theorem lgH_join {m j : Nat} (h : m ≤ j) (hj : j ≤ 1000) : vJoin (lgH m) (lgH j) = .inr (lgH j) := by
  rw [vJoin_ok (lgH_right m (by omega)) (lgH_right j hj) (by rw [lgH_merge h]; have := lgH_len j; omega), lgH_merge h]

theorem long_step {d : Int} {m : Nat} (h : m < 300) (h0 : 1 ≤ d) (h1 : d ≤ 9) : logLocal (lgA d m) ⟨0, 0, 3, kk, ⟨#[]⟩, d⟩ = .inr (lgA d (m + 1)) := by
  have e1 : withId ⟨0, 0, 3, kk, ⟨#[]⟩, d⟩ ((m : Int) + 1) 1 = lgW d m := rfl
  unfold logLocal lgA
  simp only [lgH_max, e1, lgW_right (show m ≤ 1000 by omega) h0 h1]
  rw [if_neg (by omega), if_neg (by simp), if_neg (by rw [seg_len]; omega), lgH_one, lgH_join (by omega) (by omega)]
  simp only [seg_snoc, Nat.zero_add]

theorem sin_skip (d : Int) (m : Nat) (hv rest acc : List Wr) (hh : List Ent) : ∀ (j k : Nat), j + k ≤ m → sinGo (lgH m) hh (seg d j k ++ rest) acc = sinGo (lgH m) hh rest acc
  | j, 0, _ => rfl
  | j, k + 1, h => by
    simp only [seg, List.cons_append, sinGo]
    rw [if_pos (by rw [lgH_of]; simp [lgW]; omega)]
    exact sin_skip d m hv rest acc hh (j + 1) k (by omega)
theorem sin_take (d : Int) (m : Nat) (rest : List Wr) (hh : List Ent) : ∀ (j k : Nat) (acc : List Wr), m ≤ j → acc.length + k ≤ 60 → sinGo (lgH m) hh (seg d j k ++ rest) acc = sinGo (lgH m) hh rest (acc ++ seg d j k)
  | j, 0, acc, _, _ => by simp [seg]
  | j, k + 1, acc, h, hl => by
    simp only [seg, List.cons_append, sinGo]
    rw [if_neg (by rw [lgH_of]; simp [lgW]; omega), if_neg (by omega), sin_take d m rest hh (j + 1) k _ (by omega) (by simp; omega)]
    simp
theorem join_seg (d : Int) : ∀ (m k : Nat), m + k ≤ 1000 → joinAll (lgH m) (seg d m k) = lgH (m + k)
  | m, 0, _ => rfl
  | m, k + 1, h => by
    have e : jstep (lgH m) (lgW d m) = lgH (m + 1) := jstep_ok (by
      show vJoin (lgH m) [(⟨1, (m : Int) + 1⟩ : Ent)] = _
      rw [lgH_one, lgH_join (by omega) (by omega)])
    show joinAll (jstep (lgH m) (lgW d m)) (seg d (m + 1) k) = _
    rw [e, join_seg d (m + 1) k (by omega), show m + 1 + k = m + (k + 1) from by omega]
/-- How far the next batch goes. -/
def lgN (N m : Nat) : Nat := min (m + 60) N
theorem long_since {d : Int} {N m : Nat} (hN : N ≤ 300) (hm : m ≤ N) : logSince (lgA d N) (lgH m) = .inr (lgH (lgN N m), seg d m (lgN N m - m)) := by
  unfold logSince lgA
  rw [if_neg (by rw [lgH_right m (by omega)]; simp), if_neg (by rw [lgH_cov (by omega) (by omega)]; simp; omega)]
  have e0 : seg d 0 N = seg d 0 m ++ seg d m (N - m) := by
    have := seg_app d 0 m (N - m)
    rw [Nat.zero_add, show m + (N - m) = N from by omega] at this; exact this
  rw [e0, sin_skip d m [] _ _ _ 0 m (by omega)]
  unfold lgN
  by_cases hk : N - m ≤ 60
  · rw [show min (m + 60) N = N from by omega]
    have := sin_take d m [] (lgH N) m (N - m) [] (Nat.le_refl _) (by simp; omega)
    rw [List.append_nil] at this
    rw [this]; rfl
  · rw [show min (m + 60) N = m + 60 from by omega, show m + 60 - m = 60 from by omega]
    have e1 : seg d m (N - m) = seg d m 60 ++ seg d (m + 60) (N - m - 60) := by
      have := seg_app d m 60 (N - m - 60)
      rw [show 60 + (N - m - 60) = N - m from by omega] at this; exact this
    obtain ⟨r, hr⟩ : ∃ r, N - m - 60 = r + 1 := ⟨N - m - 60 - 1, by omega⟩
    rw [e1, sin_take d m _ (lgH N) m 60 [] (Nat.le_refl _) (by simp), hr, seg_cons d (m + 60) r, List.nil_append]
    simp only [sinGo]
    rw [if_neg (by rw [lgH_of]; simp [lgW]; omega), if_pos (seg_len d m 60), join_seg d m 60 (by omega)]
theorem seg_srt (d : Int) : ∀ (m k : Nat), Srt (seg d m k)
  | m, 0 => List.Pairwise.nil
  | m, k + 1 => List.pairwise_cons.2 ⟨fun x hx => by
      obtain ⟨i, rfl, h1, _⟩ := seg_mem d hx
      rw [ltW_iff]; left; simp [lgW]; omega, seg_srt d (m + 1) k⟩
theorem pos_end {l : List Wr} {x : Wr} (h : ∀ y ∈ l, ltW y x) : posW l x = l.length := by
  induction l with
  | nil => rfl
  | cons y l ih => simp only [posW]; rw [if_pos (h y (by simp)), ih fun z hz => h z (by simp [hz])]; rfl
theorem acc_end (x : Wr) (l : List Wr) (h : ∀ y ∈ l, ltW y x) : posW l x = l.length ∧ hasAt l x l.length = false ∧ insAt l l.length x = l ++ [x] :=
  ⟨pos_end h, by simp [hasAt], insAt_end l x⟩
theorem long_acc (d : Int) : ∀ (k m i c : Nat), accGo i (seg d m k) (seg d 0 m) c = .inr (seg d 0 (m + k), c + k)
  | 0, m, i, c => rfl
  | k + 1, m, i, c => by
    obtain ⟨h1, h2, h3⟩ := acc_end (lgW d m) (seg d 0 m) (fun y hy => by
      obtain ⟨j, rfl, _, hj⟩ := seg_mem d hy
      rw [ltW_iff]; left; simp [lgW]; omega)
    rw [seg_cons d m k]
    simp only [accGo]
    rw [h1, if_neg (by rw [h2]; simp), h3]
    have e : seg d 0 m ++ [lgW d m] = seg d 0 (m + 1) := by rw [seg_snoc, Nat.zero_add]
    rw [e, long_acc d k (m + 1) (i + 1) (c + 1), show m + 1 + k = m + (k + 1) from by omega, show c + 1 + k = c + (k + 1) from by omega]
theorem long_accept {d : Int} {N m : Nat} (hN : N ≤ 300) (hm : m ≤ N) (h0 : 1 ≤ d) (h1 : d ≤ 9) : logAccept (lgB d m) (lgH m) (lgH (lgN N m)) (seg d m (lgN N m - m)) = .inr (lgN N m - m, lgB d (lgN N m)) := by
  have hn1 : m ≤ lgN N m := by unfold lgN; omega
  have hn2 : lgN N m ≤ N := by unfold lgN; omega
  have hb : bRight (lgH m) (lgH (lgN N m)) (seg d m (lgN N m - m)) = .nil := by
    refine (bRight_iff _ _ _).2 ⟨by rw [lgH_cov (by omega) (by omega)]; simp; omega, by rw [seg_len]; unfold lgN; omega, fun x hx => ?_, seg_srt _ _ _⟩
    obtain ⟨i, rfl, i1, i2⟩ := seg_mem d hx
    refine ⟨lgW_right (by omega) h0 h1, ?_⟩
    unfold idWithin
    rw [lgH_of, lgH_of]
    simp [lgW]; omega
  unfold logAccept lgB
  rw [if_neg (by rw [hb]; simp), if_neg (by rw [lgH_cov (by omega) (by omega)]; simp), lgH_join hn1 (by omega)]
  simp only [accJoin, long_acc, accFin]
  rw [if_neg (by rw [seg_len]; omega), show m + (lgN N m - m) = lgN N m from by omega]
  simp

/-- How many batches it takes. -/
def lgT (N : Nat) : Nat := (N + 59) / 60
theorem lgN_times (N t : Nat) : lgN N (min (60 * t) N) = min (60 * (t + 1)) N := by unfold lgN; omega
theorem long_st {d : Int} (h0 : 1 ≤ d) (h1 : d ≤ 9) : ∀ N : Nat, N ≤ 300 → stAll (seg d 0 N) = if N = 0 then (fun _ => none) else St.set (fun _ => none) kk (some ⟨kk, false, ⟨#[]⟩, N * d, []⟩)
  | 0, _ => rfl
  | N + 1, h => by
    rw [seg_snoc, stAll_snoc, long_st h0 h1 N (by omega), if_neg (show ¬ N + 1 = 0 by omega), Nat.zero_add]
    have hk : (lgW d N).key = kk := rfl
    have hn : (lgW d N).n = d := rfl
    have hb : (N : Int) * d ≤ 2700 := by
      have h300 : (N : Int) ≤ 300 := by omega
      have hd0 : (0 : Int) ≤ d := by omega
      have := Int.mul_le_mul h300 h1 hd0 (by decide)
      omega
    have hb0 : 0 ≤ (N : Int) * d := Int.mul_nonneg (by omega) (by omega)
    have hd : ∀ c : Cel, celDo c (lgW d N) = { c with sum := IntKind.i64.wrap (c.sum + d) } := fun c => by
      unfold celDo; rw [if_neg (by simp [lgW]), if_pos (by simp [lgW]), hn]
    unfold stDo
    rw [if_neg (by simp [lgW]), hk, hd]
    have hm : ((N + 1 : Nat) : Int) * d = N * d + d := by rw [Int.natCast_add, Int.add_mul]; simp
    split
    · rename_i hz
      subst hz
      have : IntKind.i64.wrap (0 + d) = d := by rw [Int.zero_add]; exact IntWalk.i64_in _ (by omega)
      simp only [Option.getD, Cel.zero, this, hm]
      simp
    · rw [St.set_set, St.set_same]
      have : IntKind.i64.wrap ((N : Int) * d + d) = N * d + d := IntWalk.i64_in _ (by omega)
      simp only [Option.getD, this, hm]
theorem long_cels {d : Int} (h0 : 1 ≤ d) (h1 : d ≤ 9) {N : Nat} (hN : N ≤ 300) {l : List Cel} (h : CelsOf (stAll (seg d 0 N)) l) : l = if N = 0 then [] else [⟨kk, false, ⟨#[]⟩, N * d, []⟩] := by
  rw [long_st h0 h1 N hN] at h
  split
  · rename_i hz
    rw [if_pos hz] at h
    cases l with
    | nil => rfl
    | cons c l =>
      have := ((h.mem c).1 (by simp)).1
      cases this
  · rename_i hz
    rw [if_neg hz] at h
    refine h.unique ⟨fun c => ?_, by simp [KSorted]⟩
    have hp : 0 < (N : Int) * d := Int.mul_pos (by omega) (by omega)
    constructor
    · intro hc
      obtain rfl : c = _ := by simpa using hc
      refine ⟨by rw [St.set_same], ?_⟩
      unfold Cel.some_
      have : ((N : Int) * d != 0) = true := by simp; omega
      simp only [this]; rfl
    · rintro ⟨h2, h3⟩
      by_cases hk : c.key = kk
      · rw [hk, St.set_same] at h2; cases h2; simp
      · rw [St.set_other _ _ hk] at h2; cases h2

end Go.Proofs.YtpohhfkgoijpaaaDoor
