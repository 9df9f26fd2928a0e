/-
  The contract of slices.Insert at writes: one write.
-/
import Derived.Test.YtbahalckcenfmaaGreatDoorCopy
namespace Go.Proofs.YtbahalckcenfmaaGreatDoor
open Go.RowKit

def insAt (l : List Wr) (i : Nat) (x : Wr) : List Wr := l.take i ++ x :: l.drop i
theorem insAt_length (l : List Wr) (i : Nat) (x : Wr) (h : i ≤ l.length) : (insAt l i x).length = l.length + 1 := by
  simp [insAt]; omega
theorem insAt_end (l : List Wr) (x : Wr) : insAt l l.length x = l ++ [x] := by simp [insAt]
theorem wCells_one_eq (x : Wr) : wCells [x] = wCells1 x := rfl
theorem wCells_take (l : List Wr) (i : Nat) : wCells (l.take i) = (wCells l).take (i * 6) := by
  induction l generalizing i with
  | nil => simp [wCells]
  | cons x l ih => cases i with
    | zero => simp [wCells]
    | succ i => simp only [List.take_succ_cons, wCells, ih, Nat.succ_mul, List.take_succ_cons]
theorem wCells_drop (l : List Wr) (i : Nat) : wCells (l.drop i) = (wCells l).drop (i * 6) := by
  induction l generalizing i with
  | nil => simp [wCells]
  | cons x l ih => cases i with
    | zero => simp [wCells]
    | succ i => simp only [List.drop_succ_cons, wCells, ih, Nat.succ_mul, List.drop_succ_cons]
theorem insAt_cells (l : List Wr) (i : Nat) (x : Wr) : wCells (insAt l i x) = (wCells l).take (i * 6) ++ (wCells1 x ++ (wCells l).drop (i * 6)) := by
  rw [insAt, wCells_append, wCells_take, ← wCells_drop]; rfl

theorem own_cap (a : Option Addr) (n c c' : Nat) : (Value.slice a n c).ownBlock = (Value.slice a n c').ownBlock := by cases a <;> rfl

def InsPost (base : Nat) (v : Value) (l : List Wr) (i : Nat) (x : Wr) (w : World) (e : Ending) (w' : World) : Prop :=
  ∃ v', e = .returned v' ∧ w'.ownsRow base 33 6 v' (l.length + 1) (wCells (insAt l i x)) ∧ Chg (fun k => v.ownBlock = some k) w w' ∧
    (∀ k, v'.ownBlock = some k → v.ownBlock = some k ∨ w.heap.size ≤ k)

set_option maxRecDepth 100000 in
set_option maxHeartbeats 4000000 in
theorem Ins_end (base : Nat) (v : Value) (l : List Wr) (x : Wr) (xb : Nat) (w : World) (hb : base ≤ w.heap.size)
    (hown : w.ownsRow base 33 6 v l.length (wCells l)) (hl : l.length < 100000)
    (hx : w.heap[xb]? = some (.cells (wCells1 x).toArray 33 (0, 0))) :
    Calls Tryz.prog 34 #[v, .int .i64 l.length, .slice (some ⟨xb, 0, none⟩) 1 1] w (InsPost base v l l.length x w) := by
  obtain ⟨a, c, rfl, hc, hrow, hnil, hin⟩ := own_row hown
  obtain ⟨i0, hi0, hi1, hi2, hi3⟩ := info_parts info_Wr
  go_enter Tryz.func34, Tryz.ntmps34
  go_wp2_with (at_builtin; refine wpList_append_lies _ rfl _ _ _ rfl base 33 i0 _ 6 64 Tryz.underlying23 hi0 hi1 hi2 hi3 rfl (by omega) (.slice a l.length c) l.length (wCells l) rfl hown ⟨xb, 0, none⟩ 1 1 (wCells1 x) rfl rfl (World.news_of_block (cs := (wCells1 x).toArray) hx) (by simp [wCells1, Value.oneCell']) (by omega) (by unfold maxLen; omega) (by omega) hb w.heap.size rfl ?_; intro g cap w9 hown9 hgrow hat hlt9)
  all_goals
    go_ret
    refine ⟨_, rfl, by rw [insAt_end, wCells_append, wCells_one_eq]; exact hown9, (Chg.refl _ _).grown hgrow (fun k hk => .inl ((own_cap _ _ _ _).trans hk)), fun k hk => ?_⟩
    have hkg : k = g := by simpa [Value.ownBlock] using hk.symm
    subst hkg
    rcases hat with h | h
    · exact .inl ((own_cap _ _ _ _).trans h)
    · right; omega

set_option maxRecDepth 100000 in
set_option maxHeartbeats 4000000 in
theorem Ins_shift (base g n c i : Nat) (l : List Wr) (x : Wr) (xb : Nat) (w : World) (hn : l.length = n)
    (hown : w.ownsRow base 33 6 (.slice (some ⟨g, 0, none⟩) n c) n (wCells l)) (hl : c ≤ maxLen) (hi : i < n) (hroom : n + 1 ≤ c)
    (hx : w.heap[xb]? = some (.cells (wCells1 x).toArray 33 (0, 0))) (hxv : xb ≠ g) :
    Calls Tryz.prog 34 #[.slice (some ⟨g, 0, none⟩) n c, .int .i64 i, .slice (some ⟨xb, 0, none⟩) 1 1] w (InsPost base (.slice (some ⟨g, 0, none⟩) n c) l i x w) := by
  obtain ⟨hlen, h2⟩ := hown
  rcases h2 with ⟨hv, _⟩ | ⟨g', cap, cur, hv, hbg, hg, hnc, hcm, hcs, htk⟩
  · cases hv
  obtain ⟨rfl, rfl⟩ : g' = g ∧ cap = c := by cases hv; exact ⟨rfl, rfl⟩
  clear hv
  have hgs : g' < w.heap.size := lt_blk hg
  have hxs : xb < w.heap.size := lt_blk hx
  have hsz : (Tryz.prog.info? 33).map (·.size) = some 6 := by
    obtain ⟨i0, hi0, hi1, hi2, hi3⟩ := info_parts info_Wr
    rw [hi0]; simp [hi2]
  have hso : ∀ w, (sizeOf 33).run Tryz.prog w = .ok 6 w := fun w => by
    obtain ⟨i0, hi0, hi1, hi2, hi3⟩ := info_parts info_Wr
    simp [sizeOf, typeInfo, hi0, hi2]
  have hov : ∀ lb cb, (callFunc 42 #[.slice (some ⟨xb, 0, none⟩) 1 1, .slice (some ⟨g', (i + 1) * 6, none⟩) lb cb]).run Tryz.prog w = .ok (.value (.bool false)) w := fun lb cb => by
    have h6 := @run_callFunc_extern Tryz.prog 42 _ (Extern.SlicesOverlaps.overlaps #[23, 23] #[4]) Tryz.func42 (by kernel_rfl) (by kernel_rfl) (by kernel_rfl) (by kernel_rfl)
    rw [h6, Lib.run_overlaps_apart w 23 4 33 Tryz.underlying23 6 hso ⟨xb, 0, none⟩ ⟨g', (i + 1) * 6, none⟩ 1 1 lb cb hxv 33 33 6 cur.size (by simp [World.shape?, hx, wCells1]) (by simp [World.shape?, hg]) (by omega) (free_blk hx) (free_blk hx)]
    rfl
  have hdl : ((wCells l).drop (i * 6)).length = (n - i) * 6 := by rw [List.length_drop, hlen]; omega
  obtain ⟨A1, hA1⟩ : ∃ A1 : Array Value, A1 = (cur.toList.take ((i + 1) * 6) ++ (wCells l).drop (i * 6) ++ cur.toList.drop ((i + 1) * 6 + ((wCells l).drop (i * 6)).length)).toArray := ⟨_, rfl⟩
  have hA1s : A1.size = cap * 6 := by rw [hA1]; simp; omega
  have hcp1 : ∀ ty dl dc sl sc, Nat.min sl dl = n - i → (Builtin.copy_ #[23, 23] ty #[.slice (some ⟨g', (i + 1) * 6, none⟩) dl dc, .slice (some ⟨g', i * 6, none⟩) sl sc]).run Tryz.prog w.drew =   .ok (goInt (n - i : Nat)) (w.drew.setRow g' A1) := fun ty dl dc sl sc hm => by
    rw [hA1]
    have := run_copy_k (P := Tryz.prog) w.drew 23 23 ty 33 6 g' ((i + 1) * 6) dl dc ⟨g', i * 6, none⟩ sl sc cur 33 ((wCells l).drop (i * 6)) Tryz.underlying23 hsz hg (by rw [hdl, hm])
      (fun j v hj => by
        rw [List.getElem?_drop, ← htk, List.getElem?_take] at hj
        split at hj
        · have : w.drew.heap[g']? = some (.cells cur 33) := hg
          rw [Addr.add_lit]; simp [World.cell?, this]; simpa using hj
        · cases hj)
      (by rw [hdl]; omega) (fun v hv => wCells_one l v (List.mem_of_mem_drop hv))
    rw [this, hm]
  obtain ⟨A2, hA2⟩ : ∃ A2 : Array Value, A2 = (A1.toList.take (i * 6) ++ wCells1 x ++ A1.toList.drop (i * 6 + (wCells1 x).length)).toArray := ⟨_, rfl⟩
  have hg1 : (w.drew.setRow g' A1).heap[g']? = some (.cells A1 33) := setRow_heap _ _ _ _ _ _ hg
  have hcp2 : ∀ ty dl dc, 0 < dl → (Builtin.copy_ #[23, 23] ty #[.slice (some ⟨g', i * 6, none⟩) dl dc, .slice (some ⟨xb, 0, none⟩) 1 1]).run Tryz.prog (w.drew.setRow g' A1) = .ok (goInt 1) ((w.drew.setRow g' A1).setRow g' A2) := fun ty dl dc hd => by
    have hm : Nat.min 1 dl = 1 := by simp only [Nat.min_def]; split <;> omega
    have := run_copy_k (P := Tryz.prog) (w.drew.setRow g' A1) 23 23 ty 33 6 g' (i * 6) dl dc ⟨xb, 0, none⟩ 1 1 A1 33 (wCells1 x) Tryz.underlying23 hsz hg1 (by rw [hm]; rfl)
      (World.news_of_block (cs := (wCells1 x).toArray) (show (w.drew.setRow g' A1).heap[xb]? = _ by rw [setRow_other _ _ _ _ hxv]; exact hx)) (by rw [hA1s]; simp [wCells1]; omega) (by simp [wCells1, Value.oneCell'])
    rw [this, hm, hA2]; rfl
  have hfin : A2.toList.take ((n + 1) * 6) = wCells (insAt l i x) ∧ A2.size = cap * 6 := by
    have hcl : cur.toList.length = cap * 6 := by simpa using hcs
    have e1 : A1.toList.take (i * 6) = (wCells l).take (i * 6) := by
      rw [hA1]
      show (cur.toList.take ((i + 1) * 6) ++ (wCells l).drop (i * 6) ++ _).take (i * 6) = _
      rw [List.append_assoc, List.take_append_of_le_length (by rw [List.length_take]; omega), List.take_take, Nat.min_eq_left (by omega), ← htk, List.take_take, Nat.min_eq_left (by omega)]
    have e2 : A1.toList.drop (i * 6 + (wCells1 x).length) = (wCells l).drop (i * 6) ++ cur.toList.drop ((i + 1) * 6 + ((wCells l).drop (i * 6)).length) := by
      rw [hA1]
      show (cur.toList.take ((i + 1) * 6) ++ (wCells l).drop (i * 6) ++ _).drop _ = _
      rw [List.append_assoc, List.drop_left' (by rw [List.length_take]; simp [wCells1]; omega)]
    constructor
    · rw [hA2]
      show (A1.toList.take (i * 6) ++ wCells1 x ++ _).take _ = _
      rw [e1, e2, insAt_cells, ← List.append_assoc, List.take_left' (by simp only [List.length_append, hdl, List.length_take, hlen]; simp [wCells1]; omega), List.append_assoc]
    · rw [hA2]
      have h6 : (wCells1 x).length = 6 := rfl
      simp only [List.size_toArray, List.length_append, List.length_take, List.length_drop, h6, Array.length_toList, hA1s]
      omega
  have HA1 := Lib.hid hA1
  have HA2 := Lib.hid hA2
  clear hA1 hA2
  have hz2 : ¬ ((i : Int) = (n : Int)) := by omega
  have hmx : maxLen = 9223372036854775807 := by unfold maxLen; rfl
  have hn0 : 0 ≤ (i : Int) + 1 := by omega
  have hn1 : (i : Int) + 1 ≤ (n : Int) + 1 := by omega
  have hn2 : ((i : Int) + 1).toNat = i + 1 := by omega
  have hn3 : ¬ (cap = i + 1) := by omega
  have hn4 : ¬ (cap = i) := by omega
  have hn5 : (i : Int) ≤ (n : Int) + 1 := by omega
  have hwr : IntKind.i64.wrap ((i : Int) + 1) = (i : Int) + 1 := IntWalk.i64_in _ (by omega)
  have hwr2 : IntKind.i64.wrap ((n : Int) + 1) = (n : Int) + 1 := IntWalk.i64_in _ (by omega)
  go_enter Tryz.func34, Tryz.ntmps34
  go_wp2_with (simp only [hov])
  go_region_law (refine step_copy_run _ rfl _ _ 23 23 rfl (.slice (some ⟨g', (i + 1) * 6, none⟩) (n - i) (cap - (i + 1))) (.slice (some ⟨g', i * 6, none⟩) (n + 1 - i) (cap - i)) (by simp [Act.eval, Act.put]) (by simp [Act.eval, Act.put]) _ _ (hcp1 _ _ _ _ _ (by simp only [Nat.min_def]; split <;> omega)) ?_)
  go_wp2_with fail
  rw [hcp2 _ _ _ (by omega)]
  go_wp2_with fail
  go_ret
  have hg2 : ((w.drew.setRow g' A1).setRow g' A2).heap[g']? = some (.cells A2 33) := setRow_heap _ _ _ _ _ _ hg1
  refine ⟨.slice (some ⟨g', 0, none⟩) (n + 1) cap, rfl, ?_, ⟨rfl, rfl, rfl, by simp [World.setRow], fun k hk hs => ?_⟩, fun k hk => .inl hk⟩
  · rw [hn]
    refine ⟨by rw [← hfin.1, List.length_take, Array.length_toList, hfin.2]; omega, .inr ⟨g', cap, A2, rfl, hbg, hg2, hroom, hcm, hfin.2, hfin.1⟩⟩
  · have hkg : k ≠ g' := fun h => hs (by rw [h]; rfl)
    rw [setRow_other _ _ _ _ hkg, setRow_other _ _ _ _ hkg]; rfl

set_option maxRecDepth 100000 in
set_option maxHeartbeats 4000000 in
theorem Ins_grow (base g n c i : Nat) (l : List Wr) (x : Wr) (xb : Nat) (w : World) (hn : l.length = n) (hb : base ≤ w.heap.size)
    (hown : w.ownsRow base 33 6 (.slice (some ⟨g, 0, none⟩) n c) n (wCells l)) (hl : n < 100000) (hi : i < n) (hroom : c < n + 1)
    (hx : w.heap[xb]? = some (.cells (wCells1 x).toArray 33 (0, 0))) :
    Calls Tryz.prog 34 #[.slice (some ⟨g, 0, none⟩) n c, .int .i64 i, .slice (some ⟨xb, 0, none⟩) 1 1] w (InsPost base (.slice (some ⟨g, 0, none⟩) n c) l i x w) := by
  obtain ⟨hlen, h2⟩ := hown
  rcases h2 with ⟨hv, _⟩ | ⟨g', cap, cur, hv, hbg, hg, hnc, hcm, hcs, htk⟩
  · cases hv
  obtain ⟨rfl, rfl⟩ : g' = g ∧ cap = c := by cases hv; exact ⟨rfl, rfl⟩
  clear hv
  have hgs : g' < w.heap.size := lt_blk hg
  have hxs : xb < w.heap.size := lt_blk hx
  obtain ⟨i0, hi0, hi1, hi2, hi3⟩ := info_parts info_Wr
  have hsz : (Tryz.prog.info? 33).map (·.size) = some 6 := by rw [hi0]; simp [hi2]
  have hold : (Builtin.firstCells i0.size i (.slice (some ⟨g', 0, none⟩) i cap)).run Tryz.prog w.drew = .ok ((wCells l).take (i * 6)).toArray w.drew := by
    rw [hi2]
    exact run_firstCells_some w.drew 6 i ⟨g', 0, none⟩ i cap ((wCells l).take (i * 6)) (by rw [List.length_take, hlen]; omega) (fun j v hj => by
      rw [← htk, List.take_take, Nat.min_eq_left (by omega), List.getElem?_take] at hj
      split at hj
      · have : w.drew.heap[g']? = some (.cells cur 33) := hg
        rw [Addr.add_lit]; simp [World.cell?, this]; simpa using hj
      · cases hj)
  obtain ⟨G, hG⟩ : ∃ G, G = grownCap w (n + 1) cap 33 := ⟨_, rfl⟩
  obtain ⟨ROW, hROW⟩ : ∃ ROW : Array Value, ROW = ((wCells l).take (i * 6)).toArray ++ Builtin.zeroCells (Value.agg #[.int .i64 0, .int .i64 0, .int .i64 0, .string ⟨#[]⟩, .string ⟨#[]⟩, .int .i64 0]).cells (n + 1 - i) ++ Builtin.zeroCells (Value.agg #[.int .i64 0, .int .i64 0, .int .i64 0, .string ⟨#[]⟩, .string ⟨#[]⟩, .int .i64 0]).cells (G - (n + 1)) := ⟨_, rfl⟩
  have hGn : n + 1 ≤ G := by rw [hG]; exact grownCap_ge w _ _ _
  have hG63 : G ≤ maxLen := by
    rw [hG]
    exact grownCap_le_maxLen w (n + 1) cap 33 (by unfold maxLen; omega)
  have hrz : ∀ ty, (Builtin.append_ #[23, 3] ty #[.slice (some ⟨g', 0, none⟩) i cap, .int .i64 ((n : Int) + 1 - (i : Int))]).run Tryz.prog w =
      .ok (.slice (some ⟨w.heap.size, 0, none⟩) (n + 1) G) (w.drew.alloc (.cells ROW 33)) := fun ty => by
    have h := Lib.run_append_grow_zeros (P := Tryz.prog) w 23 3 ty 33 i0 _ .i64 .i64 Tryz.underlying23 Tryz.underlying3 hi0 hi1 (some ⟨g', 0, none⟩) i cap ((wCells l).take (i * 6)) hold (n + 1 - i) (by omega) (by omega) (by omega) (by omega) (by rw [hi3]; omega) (by rw [hi3]; have := nextcap_le (i + (n + 1 - i)) cap (by omega) (by omega); omega)
    have hik : i + (n + 1 - i) = n + 1 := by omega
    have hkk : (n : Int) + 1 - (i : Int) = ((n + 1 - i : Nat) : Int) := by omega
    rw [hik, ← hG, ← hROW] at h
    rw [hkk]
    exact h
  have hRs : ROW.size = G * 6 := by
    rw [hROW]
    simp only [Array.size_append, List.size_toArray, List.length_take, hlen, Builtin.zeroCells, Value.cells]
    simp
    omega
  have hRt : ROW.toList.take (i * 6) = (wCells l).take (i * 6) := by
    rw [hROW]
    simp only [Array.toList_append, List.append_assoc]
    rw [List.take_left' (by rw [List.length_take, hlen]; omega)]
  have hdl : ((wCells l).drop (i * 6)).length = (n - i) * 6 := by rw [List.length_drop, hlen]; omega
  obtain ⟨W1, hW1⟩ : ∃ W1, W1 = (w.alloc (.cells ROW 33)).drew := ⟨_, rfl⟩
  have hbN : g' ≠ w.heap.size := by omega
  have hxN : xb ≠ w.heap.size := by omega
  have h1N : W1.heap[w.heap.size]? = some (.cells ROW 33) := by rw [hW1]; exact heap_alloc_new _ _
  have h1g : W1.heap[g']? = some (.cells cur 33) := by rw [hW1]; exact (((Ext.refl w).alloc _).block g' hgs).trans hg
  have h1x : W1.heap[xb]? = some (.cells (wCells1 x).toArray 33) := by rw [hW1]; exact (((Ext.refl w).alloc _).block xb hxs).trans hx
  have h1E : Ext w W1 := by rw [hW1]; exact ((Ext.refl w).alloc _).drew
  obtain ⟨A1, hA1⟩ : ∃ A1 : Array Value, A1 = (ROW.toList.take (i * 6) ++ wCells1 x ++ ROW.toList.drop (i * 6 + (wCells1 x).length)).toArray := ⟨_, rfl⟩
  have h6 : (wCells1 x).length = 6 := rfl
  have hA1s : A1.size = G * 6 := by
    rw [hA1]
    simp only [List.size_toArray, List.length_append, List.length_take, List.length_drop, h6, Array.length_toList, hRs]
    omega
  have hcpA : ∀ ty dl dc, 0 < dl → (Builtin.copy_ #[23, 23] ty #[.slice (some ⟨w.heap.size, i * 6, none⟩) dl dc, .slice (some ⟨xb, 0, none⟩) 1 1]).run Tryz.prog W1 = .ok (goInt 1) (W1.setRow w.heap.size A1) := fun ty dl dc hd => by
    have hm : Nat.min 1 dl = 1 := by simp only [Nat.min_def]; split <;> omega
    have := run_copy_k (P := Tryz.prog) W1 23 23 ty 33 6 w.heap.size (i * 6) dl dc ⟨xb, 0, none⟩ 1 1 ROW 33 (wCells1 x) Tryz.underlying23 hsz h1N (by rw [hm]; rfl)
      (World.news_of_block (cs := (wCells1 x).toArray) h1x) (by rw [hRs, h6]; omega) (by simp [wCells1, Value.oneCell'])
    rw [this, hm, hA1]; rfl
  obtain ⟨W2, hW2⟩ : ∃ W2, W2 = (W1.setRow w.heap.size A1).drew := ⟨_, rfl⟩
  have h2N : W2.heap[w.heap.size]? = some (.cells A1 33) := by rw [hW2]; exact setRow_heap _ _ _ _ _ _ h1N
  have h2g : W2.heap[g']? = some (.cells cur 33) := by
    rw [hW2]; show (W1.setRow w.heap.size A1).heap[g']? = _; rw [setRow_other _ _ _ _ hbN]; exact h1g
  obtain ⟨A2, hA2⟩ : ∃ A2 : Array Value, A2 = (A1.toList.take ((i + 1) * 6) ++ (wCells l).drop (i * 6) ++ A1.toList.drop ((i + 1) * 6 + ((wCells l).drop (i * 6)).length)).toArray := ⟨_, rfl⟩
  have hcpB : ∀ ty dl dc sl sc, Nat.min sl dl = n - i → (Builtin.copy_ #[23, 23] ty #[.slice (some ⟨w.heap.size, (i + 1) * 6, none⟩) dl dc, .slice (some ⟨g', i * 6, none⟩) sl sc]).run Tryz.prog W2 = .ok (goInt (n - i : Nat)) (W2.setRow w.heap.size A2) := fun ty dl dc sl sc hm => by
    rw [hA2]
    have := run_copy_k (P := Tryz.prog) W2 23 23 ty 33 6 w.heap.size ((i + 1) * 6) dl dc ⟨g', i * 6, none⟩ sl sc A1 33 ((wCells l).drop (i * 6)) Tryz.underlying23 hsz h2N (by rw [hdl, hm])
      (fun j v hj => by
        rw [List.getElem?_drop, ← htk, List.getElem?_take] at hj
        split at hj
        · rw [Addr.add_lit]; simp [World.cell?, h2g]; simpa using hj
        · cases hj)
      (by rw [hdl, hA1s]; omega) (fun v hv => wCells_one l v (List.mem_of_mem_drop hv))
    rw [this, hm]
  have hfin : A2.toList.take ((n + 1) * 6) = wCells (insAt l i x) ∧ A2.size = G * 6 := by
    have e1 : A1.toList.take ((i + 1) * 6) = (wCells l).take (i * 6) ++ wCells1 x := by
      rw [hA1]
      show (ROW.toList.take (i * 6) ++ wCells1 x ++ _).take _ = _
      rw [hRt, List.take_left' (by simp only [List.length_append, List.length_take, hlen, h6]; omega)]
    constructor
    · rw [hA2]
      show (A1.toList.take ((i + 1) * 6) ++ (wCells l).drop (i * 6) ++ _).take _ = _
      rw [e1, insAt_cells, List.take_left' (by simp only [List.length_append, hdl, List.length_take, hlen, h6]; omega), List.append_assoc]
    · rw [hA2]
      simp only [List.size_toArray, List.length_append, List.length_take, List.length_drop, Array.length_toList, hA1s, hlen]
      omega
  have HA1 := Lib.hid hA1
  have HA2 := Lib.hid hA2
  have HROW := Lib.hid hROW
  have HG := Lib.hid hG
  have hz2 : ¬ ((i : Int) = (n : Int)) := by omega
  have hmx : maxLen = 9223372036854775807 := by unfold maxLen; rfl
  have hn0 : 0 ≤ (i : Int) + 1 := by omega
  have hn1 : (i : Int) + 1 ≤ (n : Int) + 1 := by omega
  have hn2 : ((i : Int) + 1).toNat = i + 1 := by omega
  have hn3 : ¬ (G = i + 1) := by omega
  have hn4 : ¬ (cap = i) := by omega
  have hn6 : ¬ (G = i) := by omega
  have hn5 : (i : Int) ≤ (n : Int) + 1 := by omega
  have hn7 : (i : Int) ≤ (n : Int) := by omega
  have hroom' : (cap : Int) < (n : Int) + 1 := by omega
  have hwr : IntKind.i64.wrap ((i : Int) + 1) = (i : Int) + 1 := IntWalk.i64_in _ (by omega)
  have hwr2 : IntKind.i64.wrap ((n : Int) + 1) = (n : Int) + 1 := IntWalk.i64_in _ (by omega)
  have hwr3 : IntKind.i64.wrap ((n : Int) + 1 - (i : Int)) = (n : Int) + 1 - (i : Int) := IntWalk.i64_in _ (by omega)
  have hEnd : Ext w (W2.setRow w.heap.size A2) ∧ (W2.setRow w.heap.size A2).heap[w.heap.size]? = some (.cells A2 33) := by
    refine ⟨⟨?_, ?_, ?_, ?_, fun k hk => ?_⟩, setRow_heap _ _ _ _ _ _ h2N⟩
    · rw [hW2]; exact h1E.os
    · rw [hW2]; exact h1E.tape
    · rw [hW2]; exact h1E.output
    · rw [hW2]; simpa using h1E.size
    · rw [hW2, setRow_other _ _ _ _ (by omega)]; show (W1.setRow w.heap.size A1).heap[k]? = _; rw [setRow_other _ _ _ _ (by omega)]; exact h1E.block k hk
  clear hA1 hA2 hROW hG hold hRs hRt h1N h1g h1x h1E h2N h2g 
  subst hW1
  go_enter Tryz.func34, Tryz.ntmps34
  go_wp2_with (at_builtin; refine Lib.wpList_append_run _ rfl _ _ _ _ rfl _ _ rfl rfl _ _ (hrz _) ?_)
  rw [hcpA _ _ _ (by omega)]
  go_wp2_with fail
  subst hW2
  go_region_law (refine step_copy_run _ rfl _ _ 23 23 rfl (.slice (some ⟨w.heap.size, (i + 1) * 6, none⟩) (n - i) (G - (i + 1))) (.slice (some ⟨g', i * 6, none⟩) (n - i) (cap - i)) (by simp [Act.eval, Act.put]) (by simp [Act.eval, Act.put]) _ _ (hcpB _ _ _ _ _ (by simp only [Nat.min_def]; split <;> omega)) ?_)
  go_wp2_with fail
  go_ret
  refine ⟨.slice (some ⟨w.heap.size, 0, none⟩) (n + 1) G, rfl, ?_, hEnd.1.chg _, fun k hk => .inr (by have : w.heap.size = k := (by simpa [Value.ownBlock] using hk); omega)⟩
  rw [hn]
  exact ⟨by rw [← hfin.1, List.length_take, Array.length_toList, hfin.2]; omega, .inr ⟨w.heap.size, G, A2, rfl, hb, hEnd.2, hGn, hG63, hfin.2, hfin.1⟩⟩

theorem own_cap_lt {w : World} {base : Nat} {e : TypeId} {size : Nat} {g n c : Nat} {xs : List Value} (h : w.ownsRow base e size (.slice (some ⟨g, 0, none⟩) n c) n xs) : c ≤ maxLen := by
  rcases h.2 with ⟨hv, _⟩ | ⟨g', cap, cur, hv, _, _, _, hm, _⟩
  · cases hv
  · cases hv; exact hm

/-- Insert, wherever. -/
theorem Ins_any (base i : Nat) (v : Value) (l : List Wr) (x : Wr) (xb : Nat) (w : World) (hb : base ≤ w.heap.size)
    (hown : w.ownsRow base 33 6 v l.length (wCells l)) (hl : l.length < 100000) (hi : i ≤ l.length)
    (hx : w.heap[xb]? = some (.cells (wCells1 x).toArray 33 (0, 0))) (hxv : v.ownBlock ≠ some xb) :
    Calls Tryz.prog 34 #[v, .int .i64 i, .slice (some ⟨xb, 0, none⟩) 1 1] w (InsPost base v l i x w) := by
  by_cases h : i = l.length
  · subst h
    exact Ins_end base v l x xb w hb hown hl hx
  · rcases hown.2 with ⟨hv, h0⟩ | ⟨g, cap, cur, hv, hbg, hg, hnc, hcm, hcs, htk⟩
    · omega
    · subst hv
      by_cases hr : l.length + 1 ≤ cap
      · exact Ins_shift base g l.length cap i l x xb w rfl hown hcm (by omega) hr hx (fun h => hxv (by rw [h]; rfl))
      · exact Ins_grow base g l.length cap i l x xb w rfl hb hown hl (by omega) (by omega) hx

end Go.Proofs.YtbahalckcenfmaaGreatDoor
