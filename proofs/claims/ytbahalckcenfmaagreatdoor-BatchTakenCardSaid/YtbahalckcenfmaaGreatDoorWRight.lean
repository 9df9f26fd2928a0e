/-
  The contract of write.Right.
-/
import Derived.Test.YtbahalckcenfmaaGreatDoorWrite
import Derived.Deep.Light
namespace Go.Proofs.YtbahalckcenfmaaGreatDoor
open Go.RowKit

/-- A write as a value. -/
def wVal (x : Wr) : Value := .agg #[.int .i64 x.t, .int .i64 x.r, .int .i64 x.kind, .string x.key, .string x.val, .int .i64 x.n]

def WRPost (x : Wr) (w : World) (e : Ending) (w' : World) : Prop := ∃ v, e = .returned v ∧ IsEr w' v (wRight x) ∧ Ext w w'
theorem WRPost.no {x : Wr} {w w' : World} {k : Int} (h : wRight x = .no k) (hx : Ext w w') : WRPost x w (.returned (.iface 50 (.int .i64 k))) w' := ⟨_, rfl, by rw [h]; rfl, hx⟩
theorem WRPost.nil {x : Wr} {w w' : World} (h : wRight x = .nil) (hx : Ext w w') : WRPost x w (.returned .nilIface) w' := ⟨_, rfl, by rw [h]; rfl, hx⟩

theorem str_toList (s : ByteArray) : s.toList = s.data.toList := ByteArray.toList_eq s
theorem wr_str (s : ByteArray) : s = ⟨#[]⟩ ↔ s.toList = [] := by
  rw [str_toList]
  constructor
  · rintro rfl; rfl
  · intro h
    cases s with
    | mk d => simp at h; rw [h]

set_option maxRecDepth 100000 in
set_option maxHeartbeats 4000000 in
theorem wRight_k1 (t r n : Int) (key val : ByteArray) (w : World) (hk : key.size < 9223372036854775808) (hv : val.size < 9223372036854775808) :
    Calls Tryz.prog 36 #[.agg #[.int .i64 t, .int .i64 r, .int .i64 1, .string key, .string val, .int .i64 n]] w (WRPost ⟨t, r, 1, key, val, n⟩ w) := by
  go_enter Tryz.func36, Tryz.ntmps36
  go_wp2_with fail
  go_quiet (fail)
  go_wp2_with fail
  refine (idRight_any _ _ _).mono ?_
  rintro e w1 ⟨rfl, hx1⟩
  have hx2 : Ext w w1 := Ext.trans (((Ext.refl _).alloc _).drewN _) hx1
  have q2 := hx1.get (p := ⟨w.heap.size, 2, none⟩) (v := .int .i64 1) (by simp)
  have q3 := hx1.get (p := ⟨w.heap.size, 3, none⟩) (v := .string key) (by simp)
  have q4 := hx1.get (p := ⟨w.heap.size, 4, none⟩) (v := .string val) (by simp)
  have q5 := hx1.get (p := ⟨w.heap.size, 5, none⟩) (v := .int .i64 n) (by simp)
  go_wp2_with fail
  all_goals go_ret
  all_goals clear q2 q3 q4 q5 hx1
  all_goals first
    | (refine WRPost.nil ?_ hx2; go_light; clear hx2; simp_all [wRight, wr_str] <;> (intros; first | omega | (split <;> first | rfl | omega | (split <;> first | rfl | omega))))
    | (refine WRPost.no ?_ hx2; go_light; clear hx2; simp_all [wRight, wr_str] <;> (intros; first | omega | (split <;> first | rfl | omega | (split <;> first | rfl | omega))))

set_option maxRecDepth 100000 in
set_option maxHeartbeats 4000000 in
theorem wRight_k2 (t r n : Int) (key val : ByteArray) (w : World) (hk : key.size < 9223372036854775808) (hv : val.size < 9223372036854775808) :
    Calls Tryz.prog 36 #[.agg #[.int .i64 t, .int .i64 r, .int .i64 2, .string key, .string val, .int .i64 n]] w (WRPost ⟨t, r, 2, key, val, n⟩ w) := by
  go_enter Tryz.func36, Tryz.ntmps36
  go_wp2_with fail
  go_quiet (fail)
  go_wp2_with fail
  refine (idRight_any _ _ _).mono ?_
  rintro e w1 ⟨rfl, hx1⟩
  have hx2 : Ext w w1 := Ext.trans (((Ext.refl _).alloc _).drewN _) hx1
  have q2 := hx1.get (p := ⟨w.heap.size, 2, none⟩) (v := .int .i64 2) (by simp)
  have q3 := hx1.get (p := ⟨w.heap.size, 3, none⟩) (v := .string key) (by simp)
  have q4 := hx1.get (p := ⟨w.heap.size, 4, none⟩) (v := .string val) (by simp)
  have q5 := hx1.get (p := ⟨w.heap.size, 5, none⟩) (v := .int .i64 n) (by simp)
  go_wp2_with fail
  all_goals go_ret
  all_goals clear q2 q3 q4 q5 hx1
  all_goals first
    | (refine WRPost.nil ?_ hx2; go_light; clear hx2; simp_all [wRight, wr_str] <;> (intros; first | omega | (split <;> first | rfl | omega | (split <;> first | rfl | omega))))
    | (refine WRPost.no ?_ hx2; go_light; clear hx2; simp_all [wRight, wr_str] <;> (intros; first | omega | (split <;> first | rfl | omega | (split <;> first | rfl | omega))))

set_option maxRecDepth 100000 in
set_option maxHeartbeats 4000000 in
theorem wRight_k3 (t r n : Int) (key val : ByteArray) (w : World) (hk : key.size < 9223372036854775808) (hv : val.size < 9223372036854775808) :
    Calls Tryz.prog 36 #[.agg #[.int .i64 t, .int .i64 r, .int .i64 3, .string key, .string val, .int .i64 n]] w (WRPost ⟨t, r, 3, key, val, n⟩ w) := by
  go_enter Tryz.func36, Tryz.ntmps36
  go_wp2_with fail
  go_quiet (fail)
  go_wp2_with fail
  refine (idRight_any _ _ _).mono ?_
  rintro e w1 ⟨rfl, hx1⟩
  have hx2 : Ext w w1 := Ext.trans (((Ext.refl _).alloc _).drewN _) hx1
  have q2 := hx1.get (p := ⟨w.heap.size, 2, none⟩) (v := .int .i64 3) (by simp)
  have q3 := hx1.get (p := ⟨w.heap.size, 3, none⟩) (v := .string key) (by simp)
  have q4 := hx1.get (p := ⟨w.heap.size, 4, none⟩) (v := .string val) (by simp)
  have q5 := hx1.get (p := ⟨w.heap.size, 5, none⟩) (v := .int .i64 n) (by simp)
  go_wp2_with fail
  all_goals go_ret
  all_goals clear q2 q3 q4 q5 hx1
  all_goals first
    | (refine WRPost.nil ?_ hx2; go_light; clear hx2; simp_all [wRight, wr_str] <;> (intros; first | omega | (split <;> first | rfl | omega | (split <;> first | rfl | omega))))
    | (refine WRPost.no ?_ hx2; go_light; clear hx2; simp_all [wRight, wr_str] <;> (intros; first | omega | (split <;> first | rfl | omega | (split <;> first | rfl | omega))))

set_option maxRecDepth 100000 in
set_option maxHeartbeats 4000000 in
theorem wRight_k4 (t r n : Int) (key val : ByteArray) (w : World) (hk : key.size < 9223372036854775808) (hv : val.size < 9223372036854775808) :
    Calls Tryz.prog 36 #[.agg #[.int .i64 t, .int .i64 r, .int .i64 4, .string key, .string val, .int .i64 n]] w (WRPost ⟨t, r, 4, key, val, n⟩ w) := by
  go_enter Tryz.func36, Tryz.ntmps36
  go_wp2_with fail
  go_quiet (fail)
  go_wp2_with fail
  refine (idRight_any _ _ _).mono ?_
  rintro e w1 ⟨rfl, hx1⟩
  have hx2 : Ext w w1 := Ext.trans (((Ext.refl _).alloc _).drewN _) hx1
  have q2 := hx1.get (p := ⟨w.heap.size, 2, none⟩) (v := .int .i64 4) (by simp)
  have q3 := hx1.get (p := ⟨w.heap.size, 3, none⟩) (v := .string key) (by simp)
  have q4 := hx1.get (p := ⟨w.heap.size, 4, none⟩) (v := .string val) (by simp)
  have q5 := hx1.get (p := ⟨w.heap.size, 5, none⟩) (v := .int .i64 n) (by simp)
  go_wp2_with fail
  all_goals go_ret
  all_goals clear q2 q3 q4 q5 hx1
  all_goals first
    | (refine WRPost.nil ?_ hx2; go_light; clear hx2; simp_all [wRight, wr_str] <;> (intros; first | omega | (split <;> first | rfl | omega | (split <;> first | rfl | omega))))
    | (refine WRPost.no ?_ hx2; go_light; clear hx2; simp_all [wRight, wr_str] <;> (intros; first | omega | (split <;> first | rfl | omega | (split <;> first | rfl | omega))))

set_option maxRecDepth 100000 in
set_option maxHeartbeats 4000000 in
theorem wRight_k0 (t r kind n : Int) (key val : ByteArray) (w : World) (h : kind < 1 ∨ 4 < kind) (hlo : -9223372036854775808 ≤ kind) (hhi : kind ≤ 9223372036854775807) :
    Calls Tryz.prog 36 #[.agg #[.int .i64 t, .int .i64 r, .int .i64 kind, .string key, .string val, .int .i64 n]] w (WRPost ⟨t, r, kind, key, val, n⟩ w) := by
  have hfin := Lib.hid (show wRight ⟨t, r, kind, key, val, n⟩ = .no 1 by rw [wRight, if_pos h])
  have h1 : (kind == 1) = false := by simp; omega
  have h3 : (kind == 3) = false := by simp; omega
  have h4 : (kind == 4) = false := by simp; omega
  go_enter Tryz.func36, Tryz.ntmps36
  go_wp2_with fail
  go_quiet (fail)
  rcases h with h | h
  · go_wp2_with fail
    go_ret
    exact WRPost.no hfin.out (((Ext.refl _).alloc _).drewN _)
  · go_wp2_with fail
    go_ret
    exact WRPost.no hfin.out (((Ext.refl _).alloc _).drewN _)

/-- write.Right, whatever the write. -/
theorem wRight_any (x : Wr) (w : World) (hk : x.key.size < 9223372036854775808) (hv : x.val.size < 9223372036854775808) (hlo : -9223372036854775808 ≤ x.kind) (hhi : x.kind ≤ 9223372036854775807) :
    Calls Tryz.prog 36 #[wVal x] w (WRPost x w) := by
  cases x with
  | mk t r kind key val n =>
    by_cases h : kind < 1 ∨ 4 < kind
    · exact wRight_k0 t r kind n key val w h hlo hhi
    · have : kind = 1 ∨ kind = 2 ∨ kind = 3 ∨ kind = 4 := by omega
      rcases this with rfl | rfl | rfl | rfl
      · exact wRight_k1 t r n key val w hk hv
      · exact wRight_k2 t r n key val w hk hv
      · exact wRight_k3 t r n key val w hk hv
      · exact wRight_k4 t r n key val w hk hv

end Go.Proofs.YtbahalckcenfmaaGreatDoor
