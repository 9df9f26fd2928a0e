/-
  The contract of pick.
-/
import Derived.Test.YtpohhfkgoijpaaaDoorLogd
namespace Go.Proofs.YtpohhfkgoijpaaaDoor
open Go.RowKit

/-- A number below k, by a number. -/
def pickV (n k : Int) : Int := (n % 18446744073709551616) % k
theorem pickV_lt (n : Int) {k : Int} (h : 0 < k) : 0 ≤ pickV n k ∧ pickV n k < k := ⟨Int.emod_nonneg _ (by omega), Int.emod_lt_of_pos _ h⟩
theorem pick_any (n k : Int) (w : World) (h0 : 0 < k) (h1 : k ≤ 4611686018427387904) :
    Calls Tryd.prog 8 #[.int .i64 n, .int .i64 k] w fun e w' => e = .returned (.int .i64 (pickV n k)) ∧ w' = w := by
  have e1 : IntKind.u64.wrap n = n % 18446744073709551616 := by simp [IntKind.wrap, IntKind.bits, IntKind.signed]
  have e2 : IntKind.u64.wrap k = k := by simp [IntKind.wrap, IntKind.bits, IntKind.signed]; omega
  have hp := pickV_lt n h0
  have e3 : IntKind.i64.wrap (pickV n k) = pickV n k := IntWalk.i64_in _ (by omega)
  have e4 : IntKind.u64.wrap (pickV n k) = pickV n k := by simp [IntKind.wrap, IntKind.bits, IntKind.signed]; omega
  have e5 : Int.tmod (n % 18446744073709551616) k = pickV n k := by
    unfold pickV
    exact Int.tmod_eq_emod_of_nonneg (Int.emod_nonneg _ (by decide))
  have hk : ¬ k = 0 := by omega
  go_enter Tryd.func8, Tryd.ntmps8
  go_wp2_with fail
  go_ret
  exact ⟨rfl, rfl⟩

end Go.Proofs.YtpohhfkgoijpaaaDoor
