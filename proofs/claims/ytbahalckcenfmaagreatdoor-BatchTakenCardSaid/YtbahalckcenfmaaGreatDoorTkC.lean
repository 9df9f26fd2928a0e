/-
  What BatchTaken's walk gives, in the row's words.
-/
import Derived.Test.YtbahalckcenfmaaGreatDoorTk
import Derived.Test.YtbahalckcenfmaaGreatDoorRead
import Derived.Test.YtbahalckcenfmaaGreatDoorLaid
namespace Go.Proofs.YtbahalckcenfmaaGreatDoor.fnBatchTaken
open Go.ChangeShapes Go.WideShapes Go.ChangeAt Go.RowKit Go.ChangeMaps

set_option maxRecDepth 100000 in
theorem contract (H : Type) (enc : TypeId × Value → H) (W : World) (base : Nat) (args : Array Value) (ds gs : List (DataW H)) (before : List MemPlace)
    (hval : ∀ (j : Nat) t v, Tryz.f3.params[j]? = some t → args[j]? = some v → Value.okWide Tryz.prog W .any base t v)
    (hW : DataW.Whole enc Tryz.prog Tryz.f3.params.toList Rows.batchTakenSpec.vars false W args.toList ds gs before) (hg : Good W) :
    Calls Tryz.prog 3 args W fun e W' => ∃ v, e = .returned v ∧ Rows.batchTakenSpec.post enc Tryz.prog Tryz.f3 false true false false W args v W' := by
  have hW' := hW
  obtain ⟨p, q, hA0, hV, rfl, hfz, hnd⟩ := hW
  have hA : DataW.TrodAll enc Tryz.prog W 0 (fun _ => true) true Tryz.f3.params.toList args.toList ds p := hA0
  rw [Tryz.params3] at hA hval
  obtain ⟨v0, vs0, d0, ds0, p0, q0, hargs, rfl, rfl, h0, r0⟩ := trodAll_cons hA
  obtain ⟨v1, vs1, d1, ds1, p1, q1, rfl, rfl, rfl, h1, r1⟩ := trodAll_cons r0
  obtain ⟨rfl, rfl, rfl⟩ := trodAll_nil r1
  obtain rfl : args = #[v0, v1] := by cases args; simp_all
  obtain ⟨rfl, rfl⟩ := trodVars_none hV
  obtain ⟨cs, rfl, hcs⟩ := okWide_struct Tryz.underlying25 (hval 0 25 v0 rfl rfl)
  obtain ⟨fuel, hf0⟩ := h0
  obtain ⟨af, ah, aw, f, hh, ws, cf, ch, cw, hx0, f1, f2, g1, g2, k1, k2, sf, sh, sw, hfit⟩ := read_bat hf0
  have hcs' : cs = #[.slice af f.length cf, .slice ah hh.length ch, .slice aw ws.length cw] := by
    have : cs.toList = [.slice af f.length cf, .slice ah hh.length ch, .slice aw ws.length cw] := by simpa [Value.cells] using hx0
    apply Array.toList_inj.1
    rw [this]
  subst hcs'
  obtain ⟨am0, nm0, cm0, rfl⟩ := okWide_slice Tryz.underlying22 (hval 1 22 v1 rfl rfl)
  obtain ⟨fuel1, hf1⟩ := h1
  have hf1' : DataW.trod enc Tryz.prog W 0 (fun _ => true) true fuel1 22 [.slice am0 nm0 cm0] = some _ := hf1
  obtain ⟨am, m, cm, hv1, m1, m2, sm⟩ := read_ents hf1'
  rw [hv1] at hW' ⊢
  unfold maxLen at f2 g2 k2 m2
  refine (BatchTaken_any f hh ws af ah aw cf ch cw m am cm W hg (by omega) (by omega) (by omega) (by omega) f1 g1 k1 m1 sf sh sw sm hfit).mono fun e W' ⟨he, hx⟩ => ?_
  exact law_post rfl hW' rfl rfl rfl (by rw [Tryz.params3]; intro t ht; simp at ht; rcases ht with rfl | rfl <;> exact ⟨by kernel_rfl, by rw [size_]; decide⟩) hx he

end Go.Proofs.YtbahalckcenfmaaGreatDoor.fnBatchTaken
