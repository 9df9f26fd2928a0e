/-
  The contracts of slices.Clone and slices.Insert (one) at strings.
-/
import Derived.Test.YtbahalckcenfmaaGreatDoorSto
import Derived.Test.YtbahalckcenfmaaGreatDoorIns
namespace Go.Proofs.YtbahalckcenfmaaGreatDoor
open Go.RowKit

theorem info_Str : (Tryz.prog.info? 9).map (fun i => (i.zero, i.size, i.bytes)) = some (some (.string ⟨#[]⟩), 1, 16) := by kernel_rfl
theorem strs_length1 (l : List ByteArray) : (strs l).length = l.length * 1 := by simp [strs]
theorem strs_append (a b : List ByteArray) : strs (a ++ b) = strs a ++ strs b := by simp [strs]
def tCell1 (x : ByteArray) : List Value := [.string x]
theorem strs_one_eq (x : ByteArray) : strs [x] = tCell1 x := rfl
theorem insStr_cells (l : List ByteArray) (i : Nat) (x : ByteArray) : strs (insStr l i x) = (strs l).take i ++ (tCell1 x ++ (strs l).drop i) := by
  simp [strs, insStr, tCell1, List.map_take, List.map_drop]
theorem insStr_end (l : List ByteArray) (x : ByteArray) : insStr l l.length x = l ++ [x] := by simp [insStr]
theorem insStr_length (l : List ByteArray) (i : Nat) (x : ByteArray) (h : i ≤ l.length) : (insStr l i x).length = l.length + 1 := by
  simp [insStr]; omega
/-- The slice at a reads as these strings. -/
def StrsAt (w : World) (a : Option Addr) (l : List ByteArray) : Prop := RowAt w a (strs l)
theorem StrsAt.row {w : World} {a : Option Addr} {l : List ByteArray} (h : StrsAt w a l) : RowAt w a (strs l) := h
theorem RowAt.strs {w : World} {a : Option Addr} {l : List ByteArray} (h : RowAt w a (strs l)) : StrsAt w a l := h

/-- Cloned: nil stays nil; else a new row. -/
def CloneTPost (l : List ByteArray) (a : Option Addr) (w : World) (e : Ending) (w' : World) : Prop :=
  ∃ x, e = .returned x ∧ w'.ownsRow w.heap.size 9 1 x l.length (strs l) ∧ (x = .slice none 0 0 ↔ a = none) ∧ Ext w w'

set_option maxRecDepth 100000 in
set_option maxHeartbeats 1000000 in
theorem CloneT_any (l : List ByteArray) (a : Option Addr) (c : Nat) (w : World) (hl : l.length < 1000000) (hc : l.length ≤ c) (hs : StrsAt w a l) (hn : a = none → c = 0) :
    Calls Tryz.prog 58 #[.slice a l.length c] w (CloneTPost l a w) := by
  obtain ⟨i0, hi0, hi1, hi2, hi3⟩ := info_parts info_Str
  have q := fun (w : World) (a : Option Addr) (n c : Nat) => Lib.run_eql_slice_nil (P := Tryz.prog) w 126 9 a n c 0 0 Tryz.underlying126
  rcases a with _ | ad
  · have h0 := hs.row.none
    have hl0 : l = [] := by cases l with | nil => rfl | cons x l => simp [strs] at h0
    subst hl0
    go_enter Tryz.func58, Tryz.ntmps58
    go_wp2_with fail
    go_ret
    exact ⟨_, rfl, World.ownsRow_nil _ _ _ _, by simp, Ext.refl _⟩
  · have hrow := hs.row
    have hnews : ∀ W, Ext w W → ∀ j u, (strs l)[j]? = some u → W.cell? (ad.add j) = some u := by
      intro W hW j u hj
      rcases hrow with h | ⟨b, off, he, hb, h⟩
      · rw [h] at hj; cases hj
      · cases he
        have := hW.get (h j u hj)
        cases j with
        | zero => simpa [Addr.add] using this
        | succ j => simpa [Addr.add] using this
    have HN := Lib.hid hnews
    clear hnews hrow hs
    go_enter Tryz.func58, Tryz.ntmps58
    go_wp2_with (first
      | (at_builtin; refine wpList_append_own _ rfl _ _ 126 rfl w.heap.size 9 i0 _ 1 16 Tryz.underlying126 hi0 hi1 hi2 hi3 rfl (by decide) (.slice (some ⟨w.heap.size, 0, none⟩) 0 0) 0 [] rfl (own_empty w 9 1) ad l.length c (strs l) rfl (strs_length1 l) (HN.out _ ((Ext.refl _).alloc _)) (strs_one l) (by unfold maxLen; omega) (by omega) (by simp) ?_; intro v' w1 hown hgrow hiff))
    go_ret
    exact ⟨_, rfl, by simpa using hown, by simp [hiff], ((Ext.refl _).alloc _).grown hgrow (by simp [Value.ownBlock])⟩

def InsTPost (base : Nat) (v : Value) (l : List ByteArray) (i : Nat) (x : ByteArray) (w : World) (e : Ending) (w' : World) : Prop :=
  ∃ v', e = .returned v' ∧ w'.ownsRow base 9 1 v' (l.length + 1) (strs (insStr l i x)) ∧ Chg (fun k => v.ownBlock = some k) w w' ∧
    (∀ k, v'.ownBlock = some k → v.ownBlock = some k ∨ w.heap.size ≤ k)

set_option maxRecDepth 100000 in
set_option maxHeartbeats 4000000 in
theorem InsT_end (base : Nat) (v : Value) (l : List ByteArray) (x : ByteArray) (xb : Nat) (w : World) (hb : base ≤ w.heap.size)
    (hown : w.ownsRow base 9 1 v l.length (strs l)) (hl : l.length < 100000)
    (hx : w.heap[xb]? = some (.cells (tCell1 x).toArray 9 (0, 0))) :
    Calls Tryz.prog 57 #[v, .int .i64 l.length, .slice (some ⟨xb, 0, none⟩) 1 1] w (InsTPost base v l l.length x w) := by
  obtain ⟨a, c, rfl, hc, hrow, hnil, hin⟩ := own_row hown
  obtain ⟨i0, hi0, hi1, hi2, hi3⟩ := info_parts info_Str
  go_enter Tryz.func57, Tryz.ntmps57
  go_wp2_with (at_builtin; refine wpList_append_lies _ rfl _ _ _ rfl base 9 i0 _ 1 16 Tryz.underlying126 hi0 hi1 hi2 hi3 rfl (by omega) (.slice a l.length c) l.length (strs l) rfl hown ⟨xb, 0, none⟩ 1 1 (tCell1 x) rfl rfl (World.news_of_block (cs := (tCell1 x).toArray) hx) (by simp [tCell1, Value.oneCell']) (by omega) (by unfold maxLen; omega) (by omega) hb w.heap.size rfl ?_; intro g cap w9 hown9 hgrow hat hlt9)
  all_goals
    go_ret
    refine ⟨_, rfl, by rw [insStr_end, strs_append, strs_one_eq]; exact hown9, (Chg.refl _ _).grown hgrow (fun k hk => .inl ((own_cap _ _ _ _).trans hk)), fun k hk => ?_⟩
    have hkg : k = g := by simpa [Value.ownBlock] using hk.symm
    subst hkg
    rcases hat with h | h
    · exact .inl ((own_cap _ _ _ _).trans h)
    · right; omega

set_option maxRecDepth 100000 in
set_option maxHeartbeats 4000000 in
theorem InsT_shift (base g n c i : Nat) (l : List ByteArray) (x : ByteArray) (xb : Nat) (w : World) (hn : l.length = n)
    (hown : w.ownsRow base 9 1 (.slice (some ⟨g, 0, none⟩) n c) n (strs l)) (hl : c ≤ maxLen) (hi : i < n) (hroom : n + 1 ≤ c)
    (hx : w.heap[xb]? = some (.cells (tCell1 x).toArray 9 (0, 0))) (hxv : xb ≠ g) :
    Calls Tryz.prog 57 #[.slice (some ⟨g, 0, none⟩) n c, .int .i64 i, .slice (some ⟨xb, 0, none⟩) 1 1] w (InsTPost base (.slice (some ⟨g, 0, none⟩) n c) l i x w) := by
  obtain ⟨hlen, h2⟩ := hown
  rcases h2 with ⟨hv, _⟩ | ⟨g', cap, cur, hv, hbg, hg, hnc, hcm, hcs, htk⟩
  · cases hv
  obtain ⟨rfl, rfl⟩ : g' = g ∧ cap = c := by cases hv; exact ⟨rfl, rfl⟩
  clear hv
  have hgs : g' < w.heap.size := lt_blk hg
  have hxs : xb < w.heap.size := lt_blk hx
  have hsz : (Tryz.prog.info? 9).map (·.size) = some 1 := by
    obtain ⟨i0, hi0, hi1, hi2, hi3⟩ := info_parts info_Str
    rw [hi0]; simp [hi2]
  have hso : ∀ w, (sizeOf 9).run Tryz.prog w = .ok 1 w := fun w => by
    obtain ⟨i0, hi0, hi1, hi2, hi3⟩ := info_parts info_Str
    simp [sizeOf, typeInfo, hi0, hi2]
  have hov : ∀ lb cb, (callFunc 63 #[.slice (some ⟨xb, 0, none⟩) 1 1, .slice (some ⟨g', (i + 1), none⟩) lb cb]).run Tryz.prog w = .ok (.value (.bool false)) w := fun lb cb => by
    have h6 := @run_callFunc_extern Tryz.prog 63 _ (Extern.SlicesOverlaps.overlaps #[126, 126] #[4]) Tryz.func63 (by kernel_rfl) (by kernel_rfl) (by kernel_rfl) (by kernel_rfl)
    rw [h6, Lib.run_overlaps_apart w 126 4 9 Tryz.underlying126 1 hso ⟨xb, 0, none⟩ ⟨g', (i + 1), none⟩ 1 1 lb cb hxv 9 9 1 cur.size (by simp [World.shape?, hx, tCell1]) (by simp [World.shape?, hg]) (by omega) (free_blk hx) (free_blk hx)]
    rfl
  have hdl : ((strs l).drop (i)).length = (n - i) := by rw [List.length_drop, hlen]; omega
  obtain ⟨A1, hA1⟩ : ∃ A1 : Array Value, A1 = (cur.toList.take ((i + 1)) ++ (strs l).drop (i) ++ cur.toList.drop ((i + 1) + ((strs l).drop (i)).length)).toArray := ⟨_, rfl⟩
  have hA1s : A1.size = cap := by rw [hA1]; simp; omega
  have hcp1 : ∀ ty dl dc sl sc, Nat.min sl dl = n - i → (Builtin.copy_ #[126, 126] ty #[.slice (some ⟨g', (i + 1), none⟩) dl dc, .slice (some ⟨g', i, none⟩) sl sc]).run Tryz.prog w.drew =   .ok (goInt (n - i : Nat)) (w.drew.setRow g' A1) := fun ty dl dc sl sc hm => by
    rw [hA1]
    have := run_copy_k (P := Tryz.prog) w.drew 126 126 ty 9 1 g' ((i + 1)) dl dc ⟨g', i, none⟩ sl sc cur 9 ((strs l).drop (i)) Tryz.underlying126 hsz hg (by rw [hdl, hm, Nat.mul_one])
      (fun j v hj => by
        rw [List.getElem?_drop, ← htk, List.getElem?_take] at hj
        split at hj
        · have : w.drew.heap[g']? = some (.cells cur 9) := hg
          rw [Addr.add_lit]; simp [World.cell?, this]; simpa using hj
        · cases hj)
      (by rw [hdl]; omega) (fun v hv => strs_one l v (List.mem_of_mem_drop hv))
    rw [this, hm]
  obtain ⟨A2, hA2⟩ : ∃ A2 : Array Value, A2 = (A1.toList.take (i) ++ tCell1 x ++ A1.toList.drop (i + (tCell1 x).length)).toArray := ⟨_, rfl⟩
  have hg1 : (w.drew.setRow g' A1).heap[g']? = some (.cells A1 9) := setRow_heap _ _ _ _ _ _ hg
  have hcp2 : ∀ ty dl dc, 0 < dl → (Builtin.copy_ #[126, 126] ty #[.slice (some ⟨g', i, none⟩) dl dc, .slice (some ⟨xb, 0, none⟩) 1 1]).run Tryz.prog (w.drew.setRow g' A1) = .ok (goInt 1) ((w.drew.setRow g' A1).setRow g' A2) := fun ty dl dc hd => by
    have hm : Nat.min 1 dl = 1 := by simp only [Nat.min_def]; split <;> omega
    have := run_copy_k (P := Tryz.prog) (w.drew.setRow g' A1) 126 126 ty 9 1 g' (i) dl dc ⟨xb, 0, none⟩ 1 1 A1 9 (tCell1 x) Tryz.underlying126 hsz hg1 (by rw [hm]; rfl)
      (World.news_of_block (cs := (tCell1 x).toArray) (show (w.drew.setRow g' A1).heap[xb]? = _ by rw [setRow_other _ _ _ _ hxv]; exact hx)) (by rw [hA1s]; simp [tCell1]; omega) (by simp [tCell1, Value.oneCell'])
    rw [this, hm, hA2]; rfl
  have hfin : A2.toList.take ((n + 1)) = strs (insStr l i x) ∧ A2.size = cap := by
    have hcl : cur.toList.length = cap := by simpa using hcs
    have e1 : A1.toList.take (i) = (strs l).take (i) := by
      rw [hA1]
      show (cur.toList.take ((i + 1)) ++ (strs l).drop (i) ++ _).take (i) = _
      rw [List.append_assoc, List.take_append_of_le_length (by rw [List.length_take]; omega), List.take_take, Nat.min_eq_left (by omega), ← htk, List.take_take, Nat.min_eq_left (by omega)]
    have e2 : A1.toList.drop (i + (tCell1 x).length) = (strs l).drop (i) ++ cur.toList.drop ((i + 1) + ((strs l).drop (i)).length) := by
      rw [hA1]
      show (cur.toList.take ((i + 1)) ++ (strs l).drop (i) ++ _).drop _ = _
      rw [List.append_assoc, List.drop_left' (by rw [List.length_take]; simp [tCell1]; omega)]
    constructor
    · rw [hA2]
      show (A1.toList.take (i) ++ tCell1 x ++ _).take _ = _
      rw [e1, e2, insStr_cells, ← List.append_assoc, List.take_left' (by simp only [List.length_append, hdl, List.length_take, hlen]; simp [tCell1]; omega), List.append_assoc]
    · rw [hA2]
      have h6 : (tCell1 x).length = 1 := rfl
      simp only [List.size_toArray, List.length_append, List.length_take, List.length_drop, h6, Array.length_toList, hA1s]
      omega
  have HA1 := Lib.hid hA1
  have HA2 := Lib.hid hA2
  clear hA1 hA2
  have hz2 : ¬ ((i : Int) = (n : Int)) := by omega
  have hmx : maxLen = 9223372036854775807 := by unfold maxLen; rfl
  have hn0 : 0 ≤ (i : Int) + 1 := by omega
  have hn1 : (i : Int) + 1 ≤ (n : Int) + 1 := by omega
  have hn2 : ((i : Int) + 1).toNat = i + 1 := by omega
  have hn3 : ¬ (cap = i + 1) := by omega
  have hn4 : ¬ (cap = i) := by omega
  have hn5 : (i : Int) ≤ (n : Int) + 1 := by omega
  have hwr : IntKind.i64.wrap ((i : Int) + 1) = (i : Int) + 1 := IntWalk.i64_in _ (by omega)
  have hwr2 : IntKind.i64.wrap ((n : Int) + 1) = (n : Int) + 1 := IntWalk.i64_in _ (by omega)
  go_enter Tryz.func57, Tryz.ntmps57
  go_wp2_with (simp only [hov])
  go_region_law (refine step_copy_run _ rfl _ _ 126 126 rfl (.slice (some ⟨g', (i + 1), none⟩) (n - i) (cap - (i + 1))) (.slice (some ⟨g', i, none⟩) (n + 1 - i) (cap - i)) (by simp [Act.eval, Act.put]) (by simp [Act.eval, Act.put]) _ _ (hcp1 _ _ _ _ _ (by simp only [Nat.min_def]; split <;> omega)) ?_)
  go_wp2_with fail
  rw [hcp2 _ _ _ (by omega)]
  go_wp2_with fail
  go_ret
  have hg2 : ((w.drew.setRow g' A1).setRow g' A2).heap[g']? = some (.cells A2 9) := setRow_heap _ _ _ _ _ _ hg1
  refine ⟨.slice (some ⟨g', 0, none⟩) (n + 1) cap, rfl, ?_, ⟨rfl, rfl, rfl, by simp [World.setRow], fun k hk hs => ?_⟩, fun k hk => .inl hk⟩
  · rw [hn]
    refine ⟨by rw [← hfin.1, List.length_take, Array.length_toList, hfin.2]; omega, .inr ⟨g', cap, A2, rfl, hbg, hg2, hroom, hcm, by rw [hfin.2, Nat.mul_one], by rw [Nat.mul_one]; exact hfin.1⟩⟩
  · have hkg : k ≠ g' := fun h => hs (by rw [h]; rfl)
    rw [setRow_other _ _ _ _ hkg, setRow_other _ _ _ _ hkg]; rfl

set_option maxRecDepth 100000 in
set_option maxHeartbeats 4000000 in
theorem InsT_grow (base g n c i : Nat) (l : List ByteArray) (x : ByteArray) (xb : Nat) (w : World) (hn : l.length = n) (hb : base ≤ w.heap.size)
    (hown : w.ownsRow base 9 1 (.slice (some ⟨g, 0, none⟩) n c) n (strs l)) (hl : n < 100000) (hi : i < n) (hroom : c < n + 1)
    (hx : w.heap[xb]? = some (.cells (tCell1 x).toArray 9 (0, 0))) :
    Calls Tryz.prog 57 #[.slice (some ⟨g, 0, none⟩) n c, .int .i64 i, .slice (some ⟨xb, 0, none⟩) 1 1] w (InsTPost base (.slice (some ⟨g, 0, none⟩) n c) l i x w) := by
  obtain ⟨hlen, h2⟩ := hown
  rcases h2 with ⟨hv, _⟩ | ⟨g', cap, cur, hv, hbg, hg, hnc, hcm, hcs, htk⟩
  · cases hv
  obtain ⟨rfl, rfl⟩ : g' = g ∧ cap = c := by cases hv; exact ⟨rfl, rfl⟩
  clear hv
  have hgs : g' < w.heap.size := lt_blk hg
  have hxs : xb < w.heap.size := lt_blk hx
  obtain ⟨i0, hi0, hi1, hi2, hi3⟩ := info_parts info_Str
  have hsz : (Tryz.prog.info? 9).map (·.size) = some 1 := by rw [hi0]; simp [hi2]
  have hold : (Builtin.firstCells i0.size i (.slice (some ⟨g', 0, none⟩) i cap)).run Tryz.prog w.drew = .ok ((strs l).take (i)).toArray w.drew := by
    rw [hi2]
    exact run_firstCells_some w.drew 1 i ⟨g', 0, none⟩ i cap ((strs l).take (i)) (by rw [List.length_take, hlen]; omega) (fun j v hj => by
      rw [← htk, List.take_take, Nat.min_eq_left (by omega), List.getElem?_take] at hj
      split at hj
      · have : w.drew.heap[g']? = some (.cells cur 9) := hg
        rw [Addr.add_lit]; simp [World.cell?, this]; simpa using hj
      · cases hj)
  obtain ⟨G, hG⟩ : ∃ G, G = grownCap w (n + 1) cap 9 := ⟨_, rfl⟩
  obtain ⟨ROW, hROW⟩ : ∃ ROW : Array Value, ROW = ((strs l).take (i)).toArray ++ Builtin.zeroCells (Value.string ⟨#[]⟩).cells (n + 1 - i) ++ Builtin.zeroCells (Value.string ⟨#[]⟩).cells (G - (n + 1)) := ⟨_, rfl⟩
  have hGn : n + 1 ≤ G := by rw [hG]; exact grownCap_ge w _ _ _
  have hG63 : G ≤ maxLen := by
    rw [hG]
    exact grownCap_le_maxLen w (n + 1) cap 9 (by unfold maxLen; omega)
  have hrz : ∀ ty, (Builtin.append_ #[126, 3] ty #[.slice (some ⟨g', 0, none⟩) i cap, .int .i64 ((n : Int) + 1 - (i : Int))]).run Tryz.prog w =
      .ok (.slice (some ⟨w.heap.size, 0, none⟩) (n + 1) G) (w.drew.alloc (.cells ROW 9)) := fun ty => by
    have h := Lib.run_append_grow_zeros (P := Tryz.prog) w 126 3 ty 9 i0 _ .i64 .i64 Tryz.underlying126 Tryz.underlying3 hi0 hi1 (some ⟨g', 0, none⟩) i cap ((strs l).take (i)) hold (n + 1 - i) (by omega) (by omega) (by omega) (by omega) (by rw [hi3]; omega) (by rw [hi3]; have := nextcap_le (i + (n + 1 - i)) cap (by omega) (by omega); omega)
    have hik : i + (n + 1 - i) = n + 1 := by omega
    have hkk : (n : Int) + 1 - (i : Int) = ((n + 1 - i : Nat) : Int) := by omega
    rw [hik, ← hG, ← hROW] at h
    rw [hkk]
    exact h
  have hRs : ROW.size = G := by
    rw [hROW]
    simp only [Array.size_append, List.size_toArray, List.length_take, hlen, Builtin.zeroCells, Value.cells]
    simp
    omega
  have hRt : ROW.toList.take (i) = (strs l).take (i) := by
    rw [hROW]
    simp only [Array.toList_append, List.append_assoc]
    rw [List.take_left' (by rw [List.length_take, hlen]; omega)]
  have hdl : ((strs l).drop (i)).length = (n - i) := by rw [List.length_drop, hlen]; omega
  obtain ⟨W1, hW1⟩ : ∃ W1, W1 = (w.alloc (.cells ROW 9)).drew := ⟨_, rfl⟩
  have hbN : g' ≠ w.heap.size := by omega
  have hxN : xb ≠ w.heap.size := by omega
  have h1N : W1.heap[w.heap.size]? = some (.cells ROW 9) := by rw [hW1]; exact heap_alloc_new _ _
  have h1g : W1.heap[g']? = some (.cells cur 9) := by rw [hW1]; exact (((Ext.refl w).alloc _).block g' hgs).trans hg
  have h1x : W1.heap[xb]? = some (.cells (tCell1 x).toArray 9) := by rw [hW1]; exact (((Ext.refl w).alloc _).block xb hxs).trans hx
  have h1E : Ext w W1 := by rw [hW1]; exact ((Ext.refl w).alloc _).drew
  obtain ⟨A1, hA1⟩ : ∃ A1 : Array Value, A1 = (ROW.toList.take (i) ++ tCell1 x ++ ROW.toList.drop (i + (tCell1 x).length)).toArray := ⟨_, rfl⟩
  have h6 : (tCell1 x).length = 1 := rfl
  have hA1s : A1.size = G := by
    rw [hA1]
    simp only [List.size_toArray, List.length_append, List.length_take, List.length_drop, h6, Array.length_toList, hRs]
    omega
  have hcpA : ∀ ty dl dc, 0 < dl → (Builtin.copy_ #[126, 126] ty #[.slice (some ⟨w.heap.size, i, none⟩) dl dc, .slice (some ⟨xb, 0, none⟩) 1 1]).run Tryz.prog W1 = .ok (goInt 1) (W1.setRow w.heap.size A1) := fun ty dl dc hd => by
    have hm : Nat.min 1 dl = 1 := by simp only [Nat.min_def]; split <;> omega
    have := run_copy_k (P := Tryz.prog) W1 126 126 ty 9 1 w.heap.size (i) dl dc ⟨xb, 0, none⟩ 1 1 ROW 9 (tCell1 x) Tryz.underlying126 hsz h1N (by rw [hm]; rfl)
      (World.news_of_block (cs := (tCell1 x).toArray) h1x) (by rw [hRs, h6]; omega) (by simp [tCell1, Value.oneCell'])
    rw [this, hm, hA1]; rfl
  obtain ⟨W2, hW2⟩ : ∃ W2, W2 = (W1.setRow w.heap.size A1).drew := ⟨_, rfl⟩
  have h2N : W2.heap[w.heap.size]? = some (.cells A1 9) := by rw [hW2]; exact setRow_heap _ _ _ _ _ _ h1N
  have h2g : W2.heap[g']? = some (.cells cur 9) := by
    rw [hW2]; show (W1.setRow w.heap.size A1).heap[g']? = _; rw [setRow_other _ _ _ _ hbN]; exact h1g
  obtain ⟨A2, hA2⟩ : ∃ A2 : Array Value, A2 = (A1.toList.take ((i + 1)) ++ (strs l).drop (i) ++ A1.toList.drop ((i + 1) + ((strs l).drop (i)).length)).toArray := ⟨_, rfl⟩
  have hcpB : ∀ ty dl dc sl sc, Nat.min sl dl = n - i → (Builtin.copy_ #[126, 126] ty #[.slice (some ⟨w.heap.size, (i + 1), none⟩) dl dc, .slice (some ⟨g', i, none⟩) sl sc]).run Tryz.prog W2 = .ok (goInt (n - i : Nat)) (W2.setRow w.heap.size A2) := fun ty dl dc sl sc hm => by
    rw [hA2]
    have := run_copy_k (P := Tryz.prog) W2 126 126 ty 9 1 w.heap.size ((i + 1)) dl dc ⟨g', i, none⟩ sl sc A1 9 ((strs l).drop (i)) Tryz.underlying126 hsz h2N (by rw [hdl, hm, Nat.mul_one])
      (fun j v hj => by
        rw [List.getElem?_drop, ← htk, List.getElem?_take] at hj
        split at hj
        · rw [Addr.add_lit]; simp [World.cell?, h2g]; simpa using hj
        · cases hj)
      (by rw [hdl, hA1s]; omega) (fun v hv => strs_one l v (List.mem_of_mem_drop hv))
    rw [this, hm]
  have hfin : A2.toList.take ((n + 1)) = strs (insStr l i x) ∧ A2.size = G := by
    have e1 : A1.toList.take ((i + 1)) = (strs l).take (i) ++ tCell1 x := by
      rw [hA1]
      show (ROW.toList.take (i) ++ tCell1 x ++ _).take _ = _
      rw [hRt, List.take_left' (by simp only [List.length_append, List.length_take, hlen, h6]; omega)]
    constructor
    · rw [hA2]
      show (A1.toList.take ((i + 1)) ++ (strs l).drop (i) ++ _).take _ = _
      rw [e1, insStr_cells, List.take_left' (by simp only [List.length_append, hdl, List.length_take, hlen, h6]; omega), List.append_assoc]
    · rw [hA2]
      simp only [List.size_toArray, List.length_append, List.length_take, List.length_drop, Array.length_toList, hA1s, hlen]
      omega
  have HA1 := Lib.hid hA1
  have HA2 := Lib.hid hA2
  have HROW := Lib.hid hROW
  have HG := Lib.hid hG
  have hz2 : ¬ ((i : Int) = (n : Int)) := by omega
  have hmx : maxLen = 9223372036854775807 := by unfold maxLen; rfl
  have hn0 : 0 ≤ (i : Int) + 1 := by omega
  have hn1 : (i : Int) + 1 ≤ (n : Int) + 1 := by omega
  have hn2 : ((i : Int) + 1).toNat = i + 1 := by omega
  have hn3 : ¬ (G = i + 1) := by omega
  have hn4 : ¬ (cap = i) := by omega
  have hn6 : ¬ (G = i) := by omega
  have hn5 : (i : Int) ≤ (n : Int) + 1 := by omega
  have hn7 : (i : Int) ≤ (n : Int) := by omega
  have hroom' : (cap : Int) < (n : Int) + 1 := by omega
  have hwr : IntKind.i64.wrap ((i : Int) + 1) = (i : Int) + 1 := IntWalk.i64_in _ (by omega)
  have hwr2 : IntKind.i64.wrap ((n : Int) + 1) = (n : Int) + 1 := IntWalk.i64_in _ (by omega)
  have hwr3 : IntKind.i64.wrap ((n : Int) + 1 - (i : Int)) = (n : Int) + 1 - (i : Int) := IntWalk.i64_in _ (by omega)
  have hEnd : Ext w (W2.setRow w.heap.size A2) ∧ (W2.setRow w.heap.size A2).heap[w.heap.size]? = some (.cells A2 9) := by
    refine ⟨⟨?_, ?_, ?_, ?_, fun k hk => ?_⟩, setRow_heap _ _ _ _ _ _ h2N⟩
    · rw [hW2]; exact h1E.os
    · rw [hW2]; exact h1E.tape
    · rw [hW2]; exact h1E.output
    · rw [hW2]; simpa using h1E.size
    · rw [hW2, setRow_other _ _ _ _ (by omega)]; show (W1.setRow w.heap.size A1).heap[k]? = _; rw [setRow_other _ _ _ _ (by omega)]; exact h1E.block k hk
  clear hA1 hA2 hROW hG hold hRs hRt h1N h1g h1x h1E h2N h2g 
  subst hW1
  go_enter Tryz.func57, Tryz.ntmps57
  go_wp2_with (at_builtin; refine Lib.wpList_append_run _ rfl _ _ _ _ rfl _ _ rfl rfl _ _ (hrz _) ?_)
  rw [hcpA _ _ _ (by omega)]
  go_wp2_with fail
  subst hW2
  go_region_law (refine step_copy_run _ rfl _ _ 126 126 rfl (.slice (some ⟨w.heap.size, (i + 1), none⟩) (n - i) (G - (i + 1))) (.slice (some ⟨g', i, none⟩) (n - i) (cap - i)) (by simp [Act.eval, Act.put]) (by simp [Act.eval, Act.put]) _ _ (hcpB _ _ _ _ _ (by simp only [Nat.min_def]; split <;> omega)) ?_)
  go_wp2_with fail
  go_ret
  refine ⟨.slice (some ⟨w.heap.size, 0, none⟩) (n + 1) G, rfl, ?_, hEnd.1.chg _, fun k hk => .inr (by have : w.heap.size = k := (by simpa [Value.ownBlock] using hk); omega)⟩
  rw [hn]
  exact ⟨by rw [← hfin.1, List.length_take, Array.length_toList, hfin.2]; omega, .inr ⟨w.heap.size, G, A2, rfl, hb, hEnd.2, hGn, hG63, by rw [hfin.2, Nat.mul_one], by rw [Nat.mul_one]; exact hfin.1⟩⟩

/-- Insert, wherever. -/
theorem InsT_any (base i : Nat) (v : Value) (l : List ByteArray) (x : ByteArray) (xb : Nat) (w : World) (hb : base ≤ w.heap.size)
    (hown : w.ownsRow base 9 1 v l.length (strs l)) (hl : l.length < 100000) (hi : i ≤ l.length)
    (hx : w.heap[xb]? = some (.cells (tCell1 x).toArray 9 (0, 0))) (hxv : v.ownBlock ≠ some xb) :
    Calls Tryz.prog 57 #[v, .int .i64 i, .slice (some ⟨xb, 0, none⟩) 1 1] w (InsTPost base v l i x w) := by
  by_cases h : i = l.length
  · subst h
    exact InsT_end base v l x xb w hb hown hl hx
  · rcases hown.2 with ⟨hv, h0⟩ | ⟨g, cap, cur, hv, hbg, hg, hnc, hcm, hcs, htk⟩
    · omega
    · subst hv
      by_cases hr : l.length + 1 ≤ cap
      · exact InsT_shift base g l.length cap i l x xb w rfl hown hcm (by omega) hr hx (fun h => hxv (by rw [h]; rfl))
      · exact InsT_grow base g l.length cap i l x xb w rfl hb hown hl (by omega) (by omega) hx

end Go.Proofs.YtbahalckcenfmaaGreatDoor
