/-
  What LogTwo's walk gives, in the row's words.
-/
import Derived.Test.YtpohhfkgoijpaaaDoorTwo
import Derived.Test.YtpohhfkgoijpaaaDoorRead
import Derived.Test.YtpohhfkgoijpaaaDoorLaid
namespace Go.Proofs.YtpohhfkgoijpaaaDoor.fnLogTwo
open Go.ChangeShapes Go.WideShapes Go.ChangeAt Go.RowKit Go.ChangeMaps

set_option maxRecDepth 100000 in
theorem contract (H : Type) (enc : TypeId × Value → H) (W : World) (base : Nat) (args : Array Value) (ds gs : List (DataW H)) (before : List MemPlace)
    (hval : ∀ (j : Nat) t v, Tryd.f5.params[j]? = some t → args[j]? = some v → Value.okWide Tryd.prog W .any base t v)
    (hW : DataW.Whole enc Tryd.prog Tryd.f5.params.toList Rows.logTwoSpec.vars false W args.toList ds gs before) (hg : Good W) :
    Calls Tryd.prog 5 args W fun e W' => ∃ v, e = .returned v ∧ Rows.logTwoSpec.post enc Tryd.prog Tryd.f5 false true false false W args v W' := by
  have hW' := hW
  obtain ⟨p, q, hA0, hV, rfl, hfz, hnd⟩ := hW
  have hA : DataW.TrodAll enc Tryd.prog W 0 (fun _ => true) true Tryd.f5.params.toList args.toList ds p := hA0
  rw [Tryd.params5] at hA hval
  obtain ⟨v0, vs0, d0, ds0, p0, q0, hargs, rfl, rfl, h0, r0⟩ := trodAll_cons hA
  obtain ⟨v1, vs1, d1, ds1, p1, q1, rfl, rfl, rfl, h1, r1⟩ := trodAll_cons r0
  obtain ⟨rfl, rfl, rfl⟩ := trodAll_nil r1
  obtain rfl : args = #[v0, v1] := by cases args; simp_all
  obtain ⟨rfl, rfl⟩ := trodVars_none hV
  obtain ⟨cs, rfl, hcs⟩ := okWide_struct Tryd.underlying34 (hval 0 34 v0 rfl rfl)
  obtain ⟨fuel, hf0⟩ := h0
  obtain ⟨x, hx0, hfx⟩ := read_wr hf0
  have hcs' : cs = (wCells1 x).toArray := by
    have : cs.toList = wCells1 x := by simpa [Value.cells] using hx0
    rw [← this]
  subst hcs'
  obtain ⟨key, rfl, hdk, hpk, hks⟩ := open_string Tryd.underlying9 (hval 1 9 v1 rfl rfl) h1
  refine (LogTwo_any x key W hg hfx (by unfold maxLen at hks; omega)).mono fun e W' ⟨he, hx⟩ => ?_
  exact law_post rfl hW' rfl rfl rfl (by rw [Tryd.params5]; intro t ht; simp at ht; rcases ht with rfl | rfl <;> exact ⟨by kernel_rfl, by rw [size_]; decide⟩) hx he

end Go.Proofs.YtpohhfkgoijpaaaDoor.fnLogTwo
