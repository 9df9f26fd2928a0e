/-
  Equality of writes, of ids, of entries.
-/
import Derived.Test.YtbahalckcenfmaaGreatDoorBs
import Derived.Laws.StructEq
namespace Go.Proofs.YtbahalckcenfmaaGreatDoor
open Go.RowKit

section
variable {P : Program} {d : Nat} {xs ys : Array Value} {f : Field} {fs : List Field} {a b : Value} {r s : Bool} {w : World}
theorem field_one (hn : f.name ≠ "_") (ha : (part f.type xs f.offset).run P w = .ok a w) (hb : (part f.type ys f.offset).run P w = .ok b w) (he : (Op.equalIn d f.type a b).run P w = .ok r w)
    (hr : (Op.eqFields d xs ys fs).run P w = .ok s w) : (Op.eqFields d xs ys (f :: fs)).run P w = .ok (r && s) w := by
  simp only [Op.eqFields, if_pos hn, Sem.run_bind, ha, hb, he, Result.andThen_ok]
  cases r
  · simp
  · simpa using hr
theorem fields_none : (Op.eqFields d xs ys []).run P w = .ok true w := by simp [Op.eqFields]
theorem struct_eq {t : TypeId} {fs : Array Field} (hu : P.underlying t = some (.struct fs)) (hp : P.stoodInHeld t = false) (h : (Op.eqFields d xs ys fs.toList).run P w = .ok r w) : (Op.equalIn (d + 1) t (.agg xs) (.agg ys)).run P w = .ok r w := by
  have hf : P.fieldsOf t = fs := by simp [Program.fieldsOf, hu]
  rw [run_equalIn_struct (P := P) w d t xs ys (by rw [hf]; exact hu) hp, hf]
  exact h
end

theorem str_inj (a b : ByteArray) : a.toList = b.toList ↔ a = b := by
  rw [ByteArray.toList_eq, ByteArray.toList_eq]
  obtain ⟨⟨x⟩⟩ := a
  obtain ⟨⟨y⟩⟩ := b
  simp
theorem eq_id (d : Nat) (w : World) (x0 y0 x1 y1 : Int) :
    (Op.equalIn (d + 2) 31 (.agg #[.int .i64 x0, .int .i64 x1]) (.agg #[.int .i64 y0, .int .i64 y1])).run Tryz.prog w = .ok ((x0 == y0) && ((x1 == y1) && true)) w := by
  refine struct_eq Tryz.underlying31 (by kernel_rfl) ?_
  refine field_one (by decide) (by go_simp; rfl) (by go_simp; rfl) (by go_simp) ?_
  exact field_one (by decide) (by go_simp; rfl) (by go_simp; rfl) (by go_simp) fields_none
theorem eq_ent (d : Nat) (w : World) (x y : Ent) :
    (Op.equalIn (d + 2) 45 (.agg #[.int .i64 x.r, .int .i64 x.t]) (.agg #[.int .i64 y.r, .int .i64 y.t])).run Tryz.prog w = .ok (x == y) w := by
  have : (x == y) = ((x.r == y.r) && ((x.t == y.t) && true)) := by
    obtain ⟨a, b⟩ := x; obtain ⟨c, d⟩ := y
    rw [Bool.eq_iff_iff]; simp
  rw [this]
  refine struct_eq Tryz.underlying45 (by kernel_rfl) ?_
  refine field_one (by decide) (by go_simp; rfl) (by go_simp; rfl) (by go_simp) ?_
  exact field_one (by decide) (by go_simp; rfl) (by go_simp; rfl) (by go_simp) fields_none
theorem eq_wr (d : Nat) (w : World) (x y : Wr) :
    (Op.equalIn (d + 3) 33 (.agg #[.int .i64 x.t, .int .i64 x.r, .int .i64 x.kind, .string x.key, .string x.val, .int .i64 x.n]) (.agg #[.int .i64 y.t, .int .i64 y.r, .int .i64 y.kind, .string y.key, .string y.val, .int .i64 y.n])).run Tryz.prog w = .ok (x == y) w := by
  have : (x == y) = (((x.t == y.t) && ((x.r == y.r) && true)) && ((x.kind == y.kind) && ((x.key.toList == y.key.toList) && ((x.val.toList == y.val.toList) && ((x.n == y.n) && true))))) := by
    obtain ⟨a, b, c, d, e, f⟩ := x; obtain ⟨a', b', c', d', e', f'⟩ := y
    rw [Bool.eq_iff_iff]; simp [and_assoc, str_inj]
  rw [this]
  refine struct_eq Tryz.underlying33 (by kernel_rfl) ?_
  refine field_one (by decide) (by go_simp) (by go_simp) (eq_id d w _ _ _ _) ?_
  refine field_one (by decide) (by go_simp; rfl) (by go_simp; rfl) (by go_simp) ?_
  refine field_one (by decide) (by go_simp; rfl) (by go_simp; rfl) (by go_simp) ?_
  refine field_one (by decide) (by go_simp; rfl) (by go_simp; rfl) (by go_simp) ?_
  exact field_one (by decide) (by go_simp; rfl) (by go_simp; rfl) (by go_simp) fields_none

end Go.Proofs.YtbahalckcenfmaaGreatDoor
