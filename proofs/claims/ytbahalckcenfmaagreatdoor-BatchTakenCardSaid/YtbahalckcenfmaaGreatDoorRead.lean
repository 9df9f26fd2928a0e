/-
  How arguments read: writes, entries; slices of them.
-/
import Derived.Test.YtbahalckcenfmaaGreatDoorLaid
import Derived.Test.YtbahalckcenfmaaGreatDoorSpec
namespace Go.Proofs.YtbahalckcenfmaaGreatDoor
open Go.ChangeShapes Go.WideShapes Go.ChangeAt Go.RowKit

section
variable {H : Type} {enc : TypeId × Value → H} {W : World} {b : Nat} {sp : Nat → Bool} {hd : Bool} {fuel : Nat}
theorem c_int : Tryz.prog.cellsOf 3 = 1 := by kernel_rfl
theorem c_str : Tryz.prog.cellsOf 9 = 1 := by kernel_rfl
theorem c_id : Tryz.prog.cellsOf 31 = 2 := by kernel_rfl
theorem c_wr : Tryz.prog.cellsOf 33 = 6 := by kernel_rfl
theorem c_ent : Tryz.prog.cellsOf 45 = 2 := by kernel_rfl
theorem list_two {α : Type} {l : List α} (h : l.length = 2) : ∃ a b, l = [a, b] := by
  match l, h with
  | [a, b], _ => exact ⟨a, b, rfl⟩
theorem list_five {α : Type} {l : List α} (h : l.length = 5) : ∃ a b c d e, l = [a, b, c, d, e] := by
  match l, h with
  | [a, b, c, d, e], _ => exact ⟨a, b, c, d, e, rfl⟩
theorem list_six {α : Type} {l : List α} (h : l.length = 6) : ∃ a b c d e f, l = [a, b, c, d, e, f] := by
  match l, h with
  | [a, b, c, d, e, f], _ => exact ⟨a, b, c, d, e, f, rfl⟩
theorem read_int {v : Value} {x : DataW H × List MemPlace} (h : DataW.trod enc Tryz.prog W b sp hd fuel 3 [v] = some x) : ∃ n, v = .int .i64 n ∧ -9223372036854775808 ≤ n ∧ n ≤ 9223372036854775807 := by
  obtain ⟨n, h1, _, h2⟩ := DataW.trod_int Tryz.underlying3 h
  exact ⟨n, by simpa using h1, bounds_i64 h2⟩
theorem read_str {v : Value} {x : DataW H × List MemPlace} (h : DataW.trod enc Tryz.prog W b sp hd fuel 9 [v] = some x) : ∃ s : ByteArray, v = .string s ∧ s.size ≤ maxLen := by
  obtain ⟨s, h1, _, h2⟩ := DataW.trod_string Tryz.underlying9 h
  exact ⟨s, by simpa using h1, h2⟩
theorem read_id {v0 v1 : Value} {x : DataW H × List MemPlace} (h : DataW.trod enc Tryz.prog W b sp hd fuel 31 [v0, v1] = some x) : ∃ t r, v0 = .int .i64 t ∧ v1 = .int .i64 r := by
  obtain ⟨xs, n, rfl, rfl, hl, hxl, hf⟩ := DataW.trod_struct Tryz.underlying31 h
  obtain ⟨x0, x1, rfl⟩ := list_two hxl
  have h0 := hf 0 _ rfl
  have h1 := hf 1 _ rfl
  simp [c_int] at h0 h1
  obtain ⟨t, rfl, _⟩ := read_int h0
  obtain ⟨r, rfl, _⟩ := read_int h1
  exact ⟨t, r, rfl, rfl⟩
theorem read_ent {cs : List Value} {x : DataW H × List MemPlace} (h : DataW.trod enc Tryz.prog W b sp hd fuel 45 cs = some x) : ∃ e : Ent, cs = [.int .i64 e.r, .int .i64 e.t] ∧ -9223372036854775808 ≤ e.r ∧ e.r ≤ 9223372036854775807 ∧ -9223372036854775808 ≤ e.t ∧ e.t ≤ 9223372036854775807 := by
  obtain ⟨xs, n, rfl, rfl, hl, hxl, hf⟩ := DataW.trod_struct Tryz.underlying45 h
  rw [c_ent] at hl
  obtain ⟨v0, v1, rfl⟩ := list_two hl
  obtain ⟨x0, x1, rfl⟩ := list_two hxl
  have h0 := hf 0 _ rfl
  have h1 := hf 1 _ rfl
  simp [c_int] at h0 h1
  obtain ⟨r, rfl, r1, r2⟩ := read_int h0
  obtain ⟨t, rfl, t1, t2⟩ := read_int h1
  exact ⟨⟨r, t⟩, rfl, r1, r2, t1, t2⟩
theorem read_wr {cs : List Value} {x : DataW H × List MemPlace} (h : DataW.trod enc Tryz.prog W b sp hd fuel 33 cs = some x) : ∃ y : Wr, cs = wCells1 y ∧ wFits y := by
  obtain ⟨xs, n, rfl, rfl, hl, hxl, hf⟩ := DataW.trod_struct Tryz.underlying33 h
  rw [c_wr] at hl
  obtain ⟨v0, v1, v2, v3, v4, v5, rfl⟩ := list_six hl
  obtain ⟨x0, x1, x2, x3, x4, rfl⟩ := list_five hxl
  have h0 := hf 0 _ rfl
  have h1 := hf 1 _ rfl
  have h2 := hf 2 _ rfl
  have h3 := hf 3 _ rfl
  have h4 := hf 4 _ rfl
  simp [c_int, c_str, c_id] at h0 h1 h2 h3 h4
  obtain ⟨t, r, rfl, rfl⟩ := read_id h0
  obtain ⟨k, rfl, k1, k2⟩ := read_int h1
  obtain ⟨s, rfl, hs⟩ := read_str h2
  obtain ⟨v, rfl, hv⟩ := read_str h3
  obtain ⟨n, rfl, _⟩ := read_int h4
  unfold maxLen at hs hv
  exact ⟨⟨t, r, k, s, v, n⟩, rfl, by show s.size < _; omega, by show v.size < _; omega, k1, k2⟩
end

set_option linter.unusedSimpArgs false
set_option linter.unusedVariables false
section
variable {H : Type} {enc : TypeId × Value → H} {W : World} {b : Nat} {sp : Nat → Bool} {hd : Bool} {fuel : Nat}
theorem read_row {α : Type} [Inhabited α] (encA : α → List Value) (Q : α → Prop) (k : Nat) (hk : 0 < k) (hek : ∀ x, (encA x).length = k) {e t : TypeId} (ht : Tryz.prog.underlying t = some (.slice e)) (hc : Tryz.prog.cellsOf e = k)
    (hr : ∀ (cs : List Value) (n : Nat) (y : DataW H × List MemPlace), DataW.trod enc Tryz.prog W b sp hd n e cs = some y → ∃ x : α, cs = encA x ∧ Q x) {v : Value} {x : DataW H × List MemPlace} (h : DataW.trod enc Tryz.prog W b sp hd fuel t [v] = some x) :
    ∃ (a : Option Addr) (l : List α) (c : Nat), v = .slice a l.length c ∧ l.length ≤ c ∧ c ≤ maxLen ∧ (∀ x ∈ l, Q x) ∧
      (l = [] ∨ ∃ bb off, a = some ⟨bb, off, none⟩ ∧ bb < W.heap.size ∧ ∀ i (h : i < l.length) j, j < k → W.cell? ⟨bb, off + i * k + j, none⟩ = (encA l[i])[j]?) := by
  rcases DataW.trod_slice ht h with ⟨h0, _⟩ | ⟨a, len, cap, elems, rest, n, _, hv, _, hb, hl, hm, hlen, hel, _, _⟩
  · exact ⟨none, [], 0, by simpa using h0, Nat.le_refl _, Nat.zero_le _, fun x hx => (by cases hx), .inl rfl⟩
  · have hE : ∀ i, i < len → ∃ x : α, Q x ∧ ∀ j, j < k → W.cell? ((a.add (i * k)).add j) = (encA x)[j]? := by
      intro i hi
      have h1 := hel i hi
      rw [hc, List.getElem?_eq_getElem (by omega), Option.bind_eq_some_iff] at h1
      obtain ⟨cs, hcs, hy⟩ := h1
      obtain ⟨x, rfl, hq⟩ := hr _ _ _ hy
      obtain ⟨_, _, hcell⟩ := World.cells?_some hcs
      exact ⟨x, hq, hcell⟩
    obtain ⟨f, hf⟩ : ∃ f : Nat → α, ∀ i, i < len → Q (f i) ∧ ∀ j, j < k → W.cell? ((a.add (i * k)).add j) = (encA (f i))[j]? := by
      classical
      refine ⟨fun i => if h : i < len then (hE i h).choose else default, fun i hi => ?_⟩
      simp only [hi, dif_pos]
      exact (hE i hi).choose_spec
    refine ⟨some a, (List.range len).map f, cap, by simpa using hv, by simpa using hl, hm, fun x hx => ?_, ?_⟩
    · obtain ⟨i, hi, rfl⟩ := List.mem_map.1 hx
      exact (hf i (List.mem_range.1 hi)).1
    · by_cases h0 : len = 0
      · left; simp [h0]
      · right
        obtain ⟨bb, off, spot⟩ := a
        have g0 := (hf 0 (by omega)).2 0 hk
        have h2 : (encA (f 0))[0]? = some ((encA (f 0))[0]'(by rw [hek]; exact hk)) := List.getElem?_eq_getElem _
        rw [h2] at g0
        have hspot : spot = none := by simpa [Addr.add] using World.cell?_spot g0
        subst hspot
        have hlt := lt_of_cell g0
        simp only [add_plain] at hlt g0
        refine ⟨bb, off, rfl, hlt, fun i hi j hj => ?_⟩
        have hi' : i < len := by simpa using hi
        have h3 := (hf i hi').2 j hj
        rw [add_plain, add_plain] at h3
        rw [h3]
        simp
theorem read_ents {v : Value} {x : DataW H × List MemPlace} (h : DataW.trod enc Tryz.prog W b sp hd fuel 22 [v] = some x) :
    ∃ (a : Option Addr) (l : List Ent) (c : Nat), v = .slice a l.length c ∧ l.length ≤ c ∧ c ≤ maxLen ∧ EntsAt W a l := by
  haveI : Inhabited Ent := ⟨⟨0, 0⟩⟩
  obtain ⟨a, l, c, h1, h2, h3, _, h4⟩ := read_row (fun e : Ent => [.int .i64 e.r, .int .i64 e.t]) (fun _ => True) 2 (by omega) (fun _ => rfl) Tryz.underlying22 c_ent (fun cs n y hy => by
    obtain ⟨e, he, _⟩ := read_ent hy
    exact ⟨e, he, trivial⟩) h
  refine ⟨a, l, c, h1, h2, h3, ?_⟩
  rcases h4 with h4 | ⟨bb, off, rfl, hlt, hcell⟩
  · exact .inl h4
  · exact .inr ⟨bb, off, rfl, hlt, fun k hk => ⟨hcell k hk 0 (by omega), hcell k hk 1 (by omega)⟩⟩
theorem read_wrs {v : Value} {x : DataW H × List MemPlace} (h : DataW.trod enc Tryz.prog W b sp hd fuel 23 [v] = some x) :
    ∃ (a : Option Addr) (l : List Wr) (c : Nat), v = .slice a l.length c ∧ l.length ≤ c ∧ c ≤ maxLen ∧ (∀ x ∈ l, wFits x) ∧ WrsAt W a l := by
  haveI : Inhabited Wr := ⟨⟨0, 0, 0, ⟨#[]⟩, ⟨#[]⟩, 0⟩⟩
  obtain ⟨a, l, c, h1, h2, h3, h5, h4⟩ := read_row wCells1 wFits 6 (by omega) (fun _ => rfl) Tryz.underlying23 c_wr (fun cs n y hy => read_wr hy) h
  refine ⟨a, l, c, h1, h2, h3, h5, ?_⟩
  rcases h4 with h4 | ⟨bb, off, rfl, hlt, hcell⟩
  · exact .inl h4
  · exact .inr ⟨bb, off, rfl, hlt, fun k hk => ⟨hcell k hk 0 (by omega), hcell k hk 1 (by omega), hcell k hk 2 (by omega), hcell k hk 3 (by omega), hcell k hk 4 (by omega), hcell k hk 5 (by omega)⟩⟩
theorem c_sl1 : Tryz.prog.cellsOf 22 = 1 := by kernel_rfl
theorem c_sl2 : Tryz.prog.cellsOf 23 = 1 := by kernel_rfl
theorem c_bat : Tryz.prog.cellsOf 25 = 3 := by kernel_rfl
theorem list_three {α : Type} {l : List α} (h : l.length = 3) : ∃ a b c, l = [a, b, c] := by
  match l, h with
  | [a, b, c], _ => exact ⟨a, b, c, rfl⟩
theorem read_bat {cs : List Value} {x : DataW H × List MemPlace} (h : DataW.trod enc Tryz.prog W b sp hd fuel 25 cs = some x) :
    ∃ (af ah aw : Option Addr) (f hh : List Ent) (ws : List Wr) (cf ch cw : Nat), cs = [.slice af f.length cf, .slice ah hh.length ch, .slice aw ws.length cw] ∧ f.length ≤ cf ∧ cf ≤ maxLen ∧ hh.length ≤ ch ∧ ch ≤ maxLen ∧ ws.length ≤ cw ∧ cw ≤ maxLen ∧
      EntsAt W af f ∧ EntsAt W ah hh ∧ WrsAt W aw ws ∧ ∀ x ∈ ws, wFits x := by
  obtain ⟨xs, n, rfl, rfl, hl, hxl, hf⟩ := DataW.trod_struct Tryz.underlying25 h
  rw [c_bat] at hl
  obtain ⟨v0, v1, v2, rfl⟩ := list_three hl
  obtain ⟨x0, x1, x2, rfl⟩ := list_three hxl
  have h0 := hf 0 _ rfl
  have h1 := hf 1 _ rfl
  have h2 := hf 2 _ rfl
  simp [c_sl1, c_sl2] at h0 h1 h2
  obtain ⟨af, f, cf, rfl, f1, f2, f3⟩ := read_ents h0
  obtain ⟨ah, hh, ch, rfl, g1, g2, g3⟩ := read_ents h1
  obtain ⟨aw, ws, cw, rfl, k1, k2, k4, k3⟩ := read_wrs h2
  exact ⟨af, ah, aw, f, hh, ws, cf, ch, cw, rfl, f1, f2, g1, g2, k1, k2, f3, g3, k3, k4⟩
end

end Go.Proofs.YtbahalckcenfmaaGreatDoor
