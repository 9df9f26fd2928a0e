/-
  The contract of vary.Put: a number in as few bytes as it needs.
-/
import Derived.Test.YtbahalckcenfmaaGreatDoorLogA
import Derived.Deep.AppendLies
import Derived.Laws.IdiomStrings
namespace Go.Proofs.YtbahalckcenfmaaGreatDoor
open Go.RowKit
set_option linter.unusedSimpArgs false
set_option linter.unusedVariables false

/-- A number as bytes: seven bits a byte, the lowest first. -/
def vput (n : Nat) : List UInt8 := if n < 128 then [UInt8.ofNat n] else UInt8.ofNat (n % 128 + 128) :: vput (n / 128)
termination_by n
decreasing_by omega
theorem vput_lt {n : Nat} (h : n < 128) : vput n = [UInt8.ofNat n] := by rw [vput, if_pos h]
theorem vput_ge {n : Nat} (h : 128 ≤ n) : vput n = UInt8.ofNat (n % 128 + 128) :: vput (n / 128) := by rw [vput, if_neg (by omega)]
theorem vput_len (k : Nat) : ∀ n, n < 128 ^ (k + 1) → (vput n).length ≤ k + 1 := by
  induction k with
  | zero => intro n h; rw [vput_lt (by simpa using h)]; simp
  | succ k ih =>
    intro n h
    by_cases hn : n < 128
    · rw [vput_lt hn]; simp
    · rw [vput_ge (by omega), List.length_cons]
      have := ih (n / 128) (by rw [Nat.div_lt_iff_lt_mul (by omega)]; rw [Nat.pow_succ] at h; exact h)
      omega
/-- Bytes as cells. -/
def bCells (l : List UInt8) : List Value := l.map fun b => .int .u8 (b.toNat : Int)
theorem bCells_len (l : List UInt8) : (bCells l).length = l.length := by simp [bCells]
theorem bCells_app (a b : List UInt8) : bCells (a ++ b) = bCells a ++ bCells b := by simp [bCells]
theorem bCells_one (l : List UInt8) : ∀ u ∈ bCells l, u.oneCell' = true := by
  intro u hu
  obtain ⟨x, _, rfl⟩ := List.mem_map.1 hu
  rfl
theorem info_Byte : (Tryz.prog.info? 5).map (fun i => (i.zero, i.size, i.bytes)) = some (some (.int .u8 0), 1, 1) := by kernel_rfl
/-- A row of bytes as a string. -/
theorem bytes_back {w : World} {base n : Nat} {v : Value} {l : List UInt8} (h : w.ownsRow base 5 1 v n (bCells l)) (hn : n = l.length) (hp : 0 < l.length) :
    (convert 105 9 v).run Tryz.prog w = .ok (.string ⟨l.toArray⟩) w := by
  subst hn
  rcases h.2 with ⟨_, h0⟩ | ⟨g, cap, cur, rfl, hb, hg, hc, hm, hcs, htk⟩
  · omega
  refine run_convert_bytes_back w 105 9 5 ⟨g, 0, none⟩ cap l Tryz.underlying105 Tryz.underlying5 Tryz.underlying9 (fun j hj => ?_)
  have h1 : (cur.toList.take (l.length * 1))[j]? = some (.int .u8 (l[j].toNat : Int)) := by
    rw [htk]; simp [bCells, hj]
  rw [List.getElem?_take] at h1
  split at h1
  · simp only [Array.getElem?_toList] at h1
    rw [Addr.add_lit]
    simp [World.cell?, hg, h1]
  · cases h1

theorem put_own {w : World} {base n : Nat} {v : Value} {acc : List UInt8} {k : Nat} (h : w.ownsRow base 5 1 v n (bCells acc ++ [.int .u8 (k : Int)])) (hk : k < 256) :
    w.ownsRow base 5 1 v n (bCells (acc ++ [UInt8.ofNat k])) := by
  have e : (UInt8.ofNat k).toNat = k := by simp; omega
  rw [bCells_app]
  simpa [bCells, e] using h
set_option maxRecDepth 100000 in
theorem or_128 (k : Nat) : bits BinOp.or IntKind.u8 ((k : Int) % 256) 128 = (k : Int) % 128 + 128 := by
  have h : ∀ m : Fin 256, bits BinOp.or IntKind.u8 ((m.val : Nat) : Int) 128 = ((m.val % 128 + 128 : Nat) : Int) := by decide
  have := h ⟨k % 256, Nat.mod_lt _ (by omega)⟩
  have e : k % 256 % 128 = k % 128 := by omega
  simp only [e] at this
  simpa using this
def PutPost (n : Nat) (w : World) (e : Ending) (w' : World) : Prop := e = .returned (.string ⟨(vput n).toArray⟩) ∧ Ext w w'
set_option maxRecDepth 100000 in
set_option maxHeartbeats 4000000 in
theorem Put_any (n : Nat) (w : World) (hn : n < 18446744073709551616) : Calls Tryz.prog 39 #[.int .u64 n] w (PutPost n w) := by
  obtain ⟨i0, hi0, hi1, hi2, hi3⟩ := info_parts info_Byte
  go_enter Tryz.func39, Tryz.ntmps39
  go_wp2_with fail
  go_loopw [0, 3] (fun m v wr => ∃ (k : Nat) (acc : List UInt8), m = .int .u64 (k : Int) ∧ k ≤ n ∧ acc.length + (vput k).length ≤ 10 ∧ Hid (acc ++ vput k = vput n) ∧ wr.ownsRow w.heap.size 5 1 v acc.length (bCells acc) ∧ Ext w wr) (fun m _ _ => (intOf m).toNat)
  case atStart => exact ⟨n, [], rfl, Nat.le_refl _, by have := vput_len 9 n (by omega); simpa using this, Lib.hid (by simp), World.ownsRow_nil _ _ _ _, Ext.refl _⟩
  case round =>
    obtain ⟨k, acc, rfl, hkn, hlen, hac, hown, hx⟩ := hrel
    obtain ⟨oa, oc, rfl, -, -, -, -⟩ := own_row hown
    by_cases hk : k < 128
    · have hki : ¬ (128 : Int) ≤ (k : Int) := by omega
      go_wp2_with (at_builtin; refine wpList_append_lies _ rfl _ _ _ rfl w.heap.size 5 i0 _ 1 1 Tryz.underlying105 hi0 hi1 hi2 hi3 rfl (by omega) (.slice oa acc.length oc) acc.length (bCells acc) rfl (own_ext hown ((Ext.refl _).alloc _)) ⟨wr.heap.size, 0, none⟩ 1 1 [.int .u8 (k : Int)] rfl rfl (World.news_of_block (cs := #[.int .u8 (k : Int)]) (by exact blk_new _ _ _ rfl)) (by simp [Value.oneCell']) (by omega) (by unfold maxLen; omega) (by omega) (by have := hx.size; simp; omega) _ rfl ?_; intro g cap w9 hown9 hgrow hat hlt9; have hcv := bytes_back (l := acc ++ [UInt8.ofNat k]) (put_own hown9 (by omega)) (by simp) (by simp))
      go_ret
      refine ⟨?_, (hx.trans ((Ext.refl _).alloc _)).grown hgrow (fun j hj => own_ge hown j hj)⟩
      rw [← hac.out, vput_lt hk]; rfl
    · have hki : (128 : Int) ≤ (k : Int) := by omega
      have hor := or_128 k
      have hg := vput_ge (n := k) (by omega)
      have hgl : (vput k).length = (vput (k / 128)).length + 1 := by rw [hg]; rfl
      go_wp2_with (at_builtin; refine wpList_append_lies _ rfl _ _ _ rfl w.heap.size 5 i0 _ 1 1 Tryz.underlying105 hi0 hi1 hi2 hi3 rfl (by omega) (.slice oa acc.length oc) acc.length (bCells acc) rfl (own_ext hown ((Ext.refl _).alloc _)) ⟨wr.heap.size, 0, none⟩ 1 1 [.int .u8 ((k : Int) % 128 + 128)] rfl rfl (World.news_of_block (cs := #[.int .u8 ((k : Int) % 128 + 128)]) (by exact blk_new _ _ _ rfl)) (by simp [Value.oneCell']) (by omega) (by unfold maxLen; omega) (by omega) (by have := hx.size; simp; omega) _ rfl ?_; intro g cap w9 hown9 hgrow hat hlt9)
      refine ⟨⟨k / 128, acc ++ [UInt8.ofNat (k % 128 + 128)], by first | rfl | (simp; done) | trace_state, by omega, by simp; omega, Lib.hid (by rw [← hac.out, hg]; simp), by simpa using put_own (k := k % 128 + 128) (by simpa using hown9) (by omega), (hx.trans ((Ext.refl _).alloc _)).grown hgrow (fun j hj => own_ge hown j hj)⟩, ?_⟩
      simp [intOf]
      omega

end Go.Proofs.YtbahalckcenfmaaGreatDoor
