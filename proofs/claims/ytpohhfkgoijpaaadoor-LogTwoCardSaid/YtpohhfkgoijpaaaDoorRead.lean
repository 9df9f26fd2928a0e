/-
  How arguments read: writes, entries; slices of them.
-/
import Derived.Test.YtpohhfkgoijpaaaDoorLaid
import Derived.Test.YtpohhfkgoijpaaaDoorSpec
namespace Go.Proofs.YtpohhfkgoijpaaaDoor
open Go.ChangeShapes Go.WideShapes Go.ChangeAt Go.RowKit

section
variable {H : Type} {enc : TypeId × Value → H} {W : World} {b : Nat} {sp : Nat → Bool} {hd : Bool} {fuel : Nat}
theorem c_int : Tryd.prog.cellsOf 3 = 1 := by kernel_rfl
theorem c_str : Tryd.prog.cellsOf 9 = 1 := by kernel_rfl
theorem c_id : Tryd.prog.cellsOf 30 = 2 := by kernel_rfl
theorem c_wr : Tryd.prog.cellsOf 34 = 6 := by kernel_rfl
theorem c_ent : Tryd.prog.cellsOf 58 = 2 := by kernel_rfl
theorem list_two {α : Type} {l : List α} (h : l.length = 2) : ∃ a b, l = [a, b] := by
  match l, h with
  | [a, b], _ => exact ⟨a, b, rfl⟩
theorem list_five {α : Type} {l : List α} (h : l.length = 5) : ∃ a b c d e, l = [a, b, c, d, e] := by
  match l, h with
  | [a, b, c, d, e], _ => exact ⟨a, b, c, d, e, rfl⟩
theorem list_six {α : Type} {l : List α} (h : l.length = 6) : ∃ a b c d e f, l = [a, b, c, d, e, f] := by
  match l, h with
  | [a, b, c, d, e, f], _ => exact ⟨a, b, c, d, e, f, rfl⟩
theorem read_int {v : Value} {x : DataW H × List MemPlace} (h : DataW.trod enc Tryd.prog W b sp hd fuel 3 [v] = some x) : ∃ n, v = .int .i64 n ∧ -9223372036854775808 ≤ n ∧ n ≤ 9223372036854775807 := by
  obtain ⟨n, h1, _, h2⟩ := DataW.trod_int Tryd.underlying3 h
  exact ⟨n, by simpa using h1, bounds_i64 h2⟩
theorem read_str {v : Value} {x : DataW H × List MemPlace} (h : DataW.trod enc Tryd.prog W b sp hd fuel 9 [v] = some x) : ∃ s : ByteArray, v = .string s ∧ s.size ≤ maxLen := by
  obtain ⟨s, h1, _, h2⟩ := DataW.trod_string Tryd.underlying9 h
  exact ⟨s, by simpa using h1, h2⟩
theorem read_id {v0 v1 : Value} {x : DataW H × List MemPlace} (h : DataW.trod enc Tryd.prog W b sp hd fuel 30 [v0, v1] = some x) : ∃ t r, v0 = .int .i64 t ∧ v1 = .int .i64 r := by
  obtain ⟨xs, n, rfl, rfl, hl, hxl, hf⟩ := DataW.trod_struct Tryd.underlying30 h
  obtain ⟨x0, x1, rfl⟩ := list_two hxl
  have h0 := hf 0 _ rfl
  have h1 := hf 1 _ rfl
  simp [c_int] at h0 h1
  obtain ⟨t, rfl, _⟩ := read_int h0
  obtain ⟨r, rfl, _⟩ := read_int h1
  exact ⟨t, r, rfl, rfl⟩
theorem read_ent {cs : List Value} {x : DataW H × List MemPlace} (h : DataW.trod enc Tryd.prog W b sp hd fuel 58 cs = some x) : ∃ e : Ent, cs = [.int .i64 e.r, .int .i64 e.t] ∧ -9223372036854775808 ≤ e.r ∧ e.r ≤ 9223372036854775807 ∧ -9223372036854775808 ≤ e.t ∧ e.t ≤ 9223372036854775807 := by
  obtain ⟨xs, n, rfl, rfl, hl, hxl, hf⟩ := DataW.trod_struct Tryd.underlying58 h
  rw [c_ent] at hl
  obtain ⟨v0, v1, rfl⟩ := list_two hl
  obtain ⟨x0, x1, rfl⟩ := list_two hxl
  have h0 := hf 0 _ rfl
  have h1 := hf 1 _ rfl
  simp [c_int] at h0 h1
  obtain ⟨r, rfl, r1, r2⟩ := read_int h0
  obtain ⟨t, rfl, t1, t2⟩ := read_int h1
  exact ⟨⟨r, t⟩, rfl, r1, r2, t1, t2⟩
theorem read_wr {cs : List Value} {x : DataW H × List MemPlace} (h : DataW.trod enc Tryd.prog W b sp hd fuel 34 cs = some x) : ∃ y : Wr, cs = wCells1 y ∧ wFits y := by
  obtain ⟨xs, n, rfl, rfl, hl, hxl, hf⟩ := DataW.trod_struct Tryd.underlying34 h
  rw [c_wr] at hl
  obtain ⟨v0, v1, v2, v3, v4, v5, rfl⟩ := list_six hl
  obtain ⟨x0, x1, x2, x3, x4, rfl⟩ := list_five hxl
  have h0 := hf 0 _ rfl
  have h1 := hf 1 _ rfl
  have h2 := hf 2 _ rfl
  have h3 := hf 3 _ rfl
  have h4 := hf 4 _ rfl
  simp [c_int, c_str, c_id] at h0 h1 h2 h3 h4
  obtain ⟨t, r, rfl, rfl⟩ := read_id h0
  obtain ⟨k, rfl, k1, k2⟩ := read_int h1
  obtain ⟨s, rfl, hs⟩ := read_str h2
  obtain ⟨v, rfl, hv⟩ := read_str h3
  obtain ⟨n, rfl, _⟩ := read_int h4
  unfold maxLen at hs hv
  exact ⟨⟨t, r, k, s, v, n⟩, rfl, by show s.size < _; omega, by show v.size < _; omega, k1, k2⟩
end

end Go.Proofs.YtpohhfkgoijpaaaDoor
