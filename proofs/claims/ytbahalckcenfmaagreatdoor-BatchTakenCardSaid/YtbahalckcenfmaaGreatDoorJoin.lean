/-
  The contract of vector.Join.
-/
import Derived.Test.YtbahalckcenfmaaGreatDoorCov
import Derived.Deep.RegionHeld3
import Derived.Deep.AppendLies
namespace Go.Proofs.YtbahalckcenfmaaGreatDoor
open Go.RowKit

/-- The slice value v is a new one, or nil, and reads as these entries. -/
def NewEnts (w0 w : World) (v : Value) (l : List Ent) : Prop := w.ownsRow w0.heap.size 45 2 v l.length (eCells l)

/-- What Join leaves. -/
def JoinPost (la lb : List Ent) (w : World) (e : Ending) (w' : World) : Prop :=
  (∀ k, vJoin la lb = .inl k → e = .returned (.tuple #[.slice none 0 0, .iface 50 (.int .i64 k)])) ∧
  (∀ out, vJoin la lb = .inr out → ∃ x, e = .returned (.tuple #[x, .nilIface]) ∧ NewEnts w w' x out) ∧ Ext w w'
theorem JoinPost.err {la lb : List Ent} {w w' : World} {e : Ending} {k : Int} (hv : vJoin la lb = .inl k) (he : e = .returned (.tuple #[.slice none 0 0, .iface 50 (.int .i64 k)])) (hx : Ext w w') : JoinPost la lb w e w' :=
  ⟨fun k' h => by rw [hv] at h; cases h; exact he, fun out h => by rw [hv] at h; (cases h), hx⟩
theorem JoinPost.ok {la lb : List Ent} {w w' : World} {e : Ending} {out : List Ent} {x : Value} (hv : vJoin la lb = .inr out) (he : e = .returned (.tuple #[x, .nilIface])) (hn : NewEnts w w' x out) (hx : Ext w w') : JoinPost la lb w e w' :=
  ⟨fun k h => by rw [hv] at h; (cases h), fun out' h => by rw [hv] at h; cases h; exact ⟨x, he, hn⟩, hx⟩

def lenOf : Value → Nat | .slice _ n _ => n | _ => 0

/-- What still is to be joined: a slice value over old memory. -/
structure Rest (w : World) (v : Value) (l : List Ent) (n : Nat) : Prop where
  len : Hid (n = l.length)
  form : ∃ a c, v = .slice a n c ∧ n ≤ c ∧ EntsAt w a l

/-- The round's relation. -/
structure JRel (w : World) (la lb : List Ent) (va vb vo : Value) (wr : World) (la' lb' out : List Ent) (na nb : Nat) : Prop where
  ra : Rest w va la' na
  rb : Rest w vb lb' nb
  own : wr.ownsRow w.heap.size 45 2 vo out.length (eCells out)
  fit : Hid (out ++ vMerge la' lb' = vMerge la lb)
  few : Hid (out.length + la'.length + lb'.length ≤ 32)
  ext : Ext w wr

theorem own_form {w : World} {base : Nat} {e : TypeId} {size : Nat} {v : Value} {n : Nat} {xs : List Value} (h : w.ownsRow base e size v n xs) : ∃ a c, v = .slice a n c ∧ n ≤ c := by
  rcases h.2 with ⟨hv, h0⟩ | ⟨g, cap, cur, hv, hb, hg, hc, _⟩
  · exact ⟨none, 0, by rw [hv, h0], by omega⟩
  · exact ⟨_, _, hv, hc⟩

/-- The first entry of what is left lies in old memory. -/
theorem EntsAt.head {w : World} {a : Option Addr} {x : Ent} {l : List Ent} (h : EntsAt w a (x :: l)) :
    ∃ b off, a = some ⟨b, off, none⟩ ∧ b < w.heap.size ∧ w.cell? ⟨b, off, none⟩ = some (.int .i64 x.r) ∧ w.cell? ⟨b, off + 1, none⟩ = some (.int .i64 x.t) := by
  rcases h with h | ⟨b, off, rfl, hb, hc⟩
  · cases h
  · have := hc 0 (by simp)
    exact ⟨b, off, rfl, hb, by simpa using this.1, by simpa using this.2⟩
theorem EntsAt.tail {w : World} {b off : Nat} {x : Ent} {l : List Ent} (h : EntsAt w (some ⟨b, off, none⟩) (x :: l)) : EntsAt w (some ⟨b, off + 2, none⟩) l := by
  rcases h with h | ⟨b', off', he, hb, hc⟩
  · cases h
  · cases he
    refine .inr ⟨_, _, rfl, hb, fun k hk => ?_⟩
    have := hc (k + 1) (by simpa using hk)
    simp only [List.getElem_cons_succ] at this
    rw [show off + 2 + k * 2 = off + (k + 1) * 2 from by omega]
    exact this

theorem own_far {w0 w : World} {e : TypeId} {size : Nat} {v : Value} {n : Nat} {xs : List Value} {b : Nat} (h : w.ownsRow w0.heap.size e size v n xs) (hb : b < w0.heap.size) : v.ownBlock ≠ some b := by
  rcases h.2 with ⟨hv, h0⟩ | ⟨g, cap, cur, hv, hg, _⟩
  · rw [hv]; simp [Value.ownBlock]
  · rw [hv]; simp [Value.ownBlock]; omega

theorem own_drewN {w : World} {base : Nat} {e : TypeId} {size : Nat} {v : Value} {n : Nat} {xs : List Value} (h : w.ownsRow base e size v n xs) (k : Nat) : (w.drewN k).ownsRow base e size v n xs := h
theorem own_ge {w : World} {base : Nat} {e : TypeId} {size : Nat} {v : Value} {n : Nat} {xs : List Value} (h : w.ownsRow base e size v n xs) : ∀ k, v.ownBlock = some k → base ≤ k := by
  intro k hk
  rcases h.2 with ⟨hv, h0⟩ | ⟨g, cap, cur, hv, hg, _⟩
  · rw [hv] at hk; cases hk
  · rw [hv] at hk; cases hk; exact hg
theorem Ext.grown {a w w' : World} {row : Option Nat} (h : Ext a w) (hg : w.grownBy w' row) (hr : ∀ k, row = some k → a.heap.size ≤ k) : Ext a w' := Below.grown h hg h.size hr

theorem Rest.tail {w : World} {b off n c : Nat} {x : Ent} {l : List Ent} (h : Rest w (.slice (some ⟨b, off, none⟩) n c) (x :: l) n) {A : Option Addr} {n' c' : Nat} (hn : n' = n - 1) (hc : c' = c - 1) (hA : A = some ⟨b, off + 2, none⟩ ∨ c = 1) : Rest w (.slice A n' c') l n' := by
  subst hn hc
  obtain ⟨hl, a, c', he, hc, hs⟩ := h
  cases he
  have hl' := hl.out
  simp only [List.length_cons] at hl'
  refine ⟨?_, A, c - 1, rfl, by omega, ?_⟩
  · show n - 1 = l.length
    omega
  · rcases hA with rfl | hc1
    · exact hs.tail
    · exact .inl (List.eq_nil_of_length_eq_zero (by omega))

theorem JRel.stepA {w wr w1 : World} {la lb la2 lb' out : List Ent} {x : Ent} {b0 o0 na ca' nb c0 : Nat} {vb vo : Value} {g : Nat} {A : Option Addr}
    (h : JRel w la lb (.slice (some ⟨b0, o0, none⟩) na ca') vb vo wr (x :: la2) lb' out na nb) (hm : vMerge (x :: la2) lb' = x :: vMerge la2 lb')
    {n' c' : Nat} (hn : n' = na - 1) (hc : c' = ca' - 1) (hA : A = some ⟨b0, o0 + 2, none⟩ ∨ ca' = 1) (ho : w1.ownsRow w.heap.size 45 2 (.slice (some ⟨g, 0, none⟩) (out.length + 1) c0) (out.length + 1) (eCells out ++ [.int .i64 x.r, .int .i64 x.t])) (he : Ext w w1) :
    JRel w la lb (.slice A n' c') vb (.slice (some ⟨g, 0, none⟩) (out.length + 1) c0) w1 la2 lb' (out ++ [x]) n' nb := by
  have hfew := h.few.out
  refine ⟨h.ra.tail hn hc hA, h.rb, ?_, ?_, ?_, he⟩
  · rw [eCells_append, List.length_append]; exact ho
  · show out ++ [x] ++ vMerge la2 lb' = _
    rw [← h.fit.out, hm]; simp
  · show (out ++ [x]).length + la2.length + lb'.length ≤ 32
    simp only [List.length_append, List.length_cons, List.length_nil] at hfew ⊢; omega

theorem JRel.stepB {w wr w1 : World} {la lb la' lb2 out : List Ent} {y : Ent} {b1 o1 na nb cb' c0 : Nat} {va vo : Value} {g : Nat} {A : Option Addr}
    (h : JRel w la lb va (.slice (some ⟨b1, o1, none⟩) nb cb') vo wr la' (y :: lb2) out na nb) (hm : vMerge la' (y :: lb2) = y :: vMerge la' lb2)
    {n' c' : Nat} (hn : n' = nb - 1) (hc : c' = cb' - 1) (hA : A = some ⟨b1, o1 + 2, none⟩ ∨ cb' = 1) (ho : w1.ownsRow w.heap.size 45 2 (.slice (some ⟨g, 0, none⟩) (out.length + 1) c0) (out.length + 1) (eCells out ++ [.int .i64 y.r, .int .i64 y.t])) (he : Ext w w1) :
    JRel w la lb va (.slice A n' c') (.slice (some ⟨g, 0, none⟩) (out.length + 1) c0) w1 la' lb2 (out ++ [y]) na n' := by
  have hfew := h.few.out
  refine ⟨h.ra, h.rb.tail hn hc hA, ?_, ?_, ?_, he⟩
  · rw [eCells_append, List.length_append]; exact ho
  · show out ++ [y] ++ vMerge la' lb2 = _
    rw [← h.fit.out, hm]; simp
  · show (out ++ [y]).length + la'.length + lb2.length ≤ 32
    simp only [List.length_append, List.length_cons, List.length_nil] at hfew ⊢; omega

theorem JRel.stepM {w wr w1 : World} {la lb la2 lb2 out : List Ent} {x y : Ent} {b0 o0 b1 o1 na ca' nb cb' c0 : Nat} {vo : Value} {g : Nat} {A B : Option Addr}
    (h : JRel w la lb (.slice (some ⟨b0, o0, none⟩) na ca') (.slice (some ⟨b1, o1, none⟩) nb cb') vo wr (x :: la2) (y :: lb2) out na nb) {m : Int} (hmm : Hid (m = max x.t y.t)) (hm : x.r = y.r)
    {n1 c1 n2 c2 : Nat} (h1 : n1 = na - 1) (h2 : c1 = ca' - 1) (h3 : n2 = nb - 1) (h4 : c2 = cb' - 1) (hA : A = some ⟨b0, o0 + 2, none⟩ ∨ ca' = 1) (hB : B = some ⟨b1, o1 + 2, none⟩ ∨ cb' = 1)
    (ho : w1.ownsRow w.heap.size 45 2 (.slice (some ⟨g, 0, none⟩) (out.length + 1) c0) (out.length + 1) (eCells out ++ [.int .i64 x.r, .int .i64 m])) (he : Ext w w1) :
    JRel w la lb (.slice A n1 c1) (.slice B n2 c2) (.slice (some ⟨g, 0, none⟩) (out.length + 1) c0) w1 la2 lb2 (out ++ [⟨x.r, m⟩]) n1 n2 := by
  have hfew := h.few.out
  refine ⟨h.ra.tail h1 h2 hA, h.rb.tail h3 h4 hB, ?_, ?_, ?_, he⟩
  · rw [eCells_append, List.length_append]; exact ho
  · show out ++ [_] ++ vMerge la2 lb2 = _
    rw [← h.fit.out, vMerge_eq _ _ _ _ hm, ← hmm.out]; simp
  · show (out ++ [_]).length + la2.length + lb2.length ≤ 32
    simp only [List.length_append, List.length_cons, List.length_nil] at hfew ⊢; omega

theorem arr2_0 (x y : Value) (w : World) : (Instr.index 78 (.agg #[x, y]) (.int .i64 0)).run Tryz.prog w = .ok x w := by kernel_rfl
theorem arr2_1 (x y : Value) (w : World) : (Instr.index 78 (.agg #[x, y]) (.int .i64 1)).run Tryz.prog w = .ok y w := by kernel_rfl

set_option maxRecDepth 100000 in
set_option maxHeartbeats 1000000 in
theorem Join_any (la lb : List Ent) (a b : Option Addr) (ca cb : Nat) (w : World) (hg : Good w) (hla : la.length < 9223372036854775808) (hlb : lb.length < 9223372036854775808) (hca : la.length ≤ ca) (hcb : lb.length ≤ cb) (hsa : EntsAt w a la) (hsb : EntsAt w b lb) :
    Calls Tryz.prog 25 #[.slice a la.length ca, .slice b lb.length cb] w (JoinPost la lb w) := by
  by_cases hra : vRight la = .nil
  · by_cases hrb : vRight lb = .nil
    · go_enter Tryz.func25, Tryz.ntmps25
      have HA := Lib.hid hra
      have HB := Lib.hid hrb
      clear hra hrb
      have ar0 := arr2_0
      have ar1 := arr2_1
      go_wp2_with fail
      refine wp_loop_rounds 3 ?_
      rw [rounds_succ]
      go_wp2_with fail
      refine (Right_any la a ca _ (by omega) hsa).mono ?_
      rintro e w1 ⟨v1, rfl, he1, hx1⟩
      rw [HA.out] at he1
      obtain rfl : v1 = _ := he1
      go_wp2_with fail
      rw [rounds_succ]
      go_wp2_with fail
      refine (Right_any lb b cb _ (by omega) (hsb.ext hx1)).mono ?_
      rintro e w2 ⟨v2, rfl, he2, hx2⟩
      rw [HB.out] at he2
      obtain rfl : v2 = _ := he2
      go_wp2_with fail
      rw [rounds_succ]
      go_wp2_with fail
      have hx02 : Ext w w2 := hx1.trans hx2
      have h16a := vRight_len HA.out
      have h16b := vRight_len HB.out
      go_loopw [0, 1, 9] (fun va vb vo wr => ∃ la' lb' out na nb, JRel w la lb va vb vo wr la' lb' out na nb) (fun va vb _ _ => lenOf va + lenOf vb)
      case atStart => exact ⟨la, lb, [], la.length, lb.length, ⟨rfl, _, _, rfl, hca, hsa⟩, ⟨rfl, _, _, rfl, hcb, hsb⟩, by exact World.ownsRow_nil _ _ _ _, rfl, by simp [Hid]; omega, hx02⟩
      case round =>
        obtain ⟨la', lb', out, na, nb, hj⟩ := hrel
        have hj0 := hj
        obtain ⟨⟨hna, aa, ca', rfl, hca', hsa'⟩, ⟨hnb, ab, cb', rfl, hcb', hsb'⟩, hown, hfit, hfew, hext⟩ := hj
        clear hsa hsb hca hcb hx1 hx2 hx02
        obtain ⟨i0, hi0, hi1, hi2, hi3⟩ := info_parts info_Ent
        have hsz := hext.size
        rcases la' with _ | ⟨x, la2⟩
        · have hna0 : na = 0 := hna.out
          have hzz0 : ((na : Int) == 0) = true := by simp; omega
          have hzz1 : decide ((0 : Int) < (na : Int)) = false := by simp; omega
          have hzz2 : ¬ (0 : Int) < (na : Int) := by omega
          have HNA := Lib.hid hna0
          clear hna0
          rcases lb' with _ | ⟨y, lb2⟩
          · have hnb0 : nb = 0 := hnb.out
            have hyy0 : ((nb : Int) == 0) = true := by simp; omega
            have hyy1 : decide ((0 : Int) < (nb : Int)) = false := by simp; omega
            have hyy2 : ¬ (0 : Int) < (nb : Int) := by omega
            have HNB := Lib.hid hnb0
            clear hnb0
            obtain ⟨ao, co, rfl, hco⟩ := own_form hown
            have hmg := hfit.out
            rw [vMerge_nil_left, List.append_nil] at hmg
            have HM := Lib.hid hmg
            have hfw := hfew.out
            simp only [List.length_nil] at hfw
            clear hmg
            by_cases h16 : 16 < out.length
            · go_wp2_with fail
              go_ret2
              exact JoinPost.err (k := 4) (by rw [vJoin, HA.out, HB.out, ← HM.out]; simp [h16]) rfl hext
            · go_wp2_with fail
              go_ret2
              exact JoinPost.ok (out := out) (by rw [vJoin, HA.out, HB.out, ← HM.out]; simp; omega) rfl hown hext
          · have hfw := hfew.out
            have hnb1 : 0 < nb := by have := hnb.out; simp at this; omega
            have hy0 : ((nb : Int) == 0) = false := by simp; omega
            have hy1 : decide ((0 : Int) < (nb : Int)) = true := by simp; omega
            obtain ⟨b1, o1, rfl, hb1, p0, p1⟩ := hsb'.head
            have g2 := (hext.cell (p := ⟨b1, o1, none⟩) hb1).trans p0
            have g3 := (hext.cell (p := ⟨b1, o1 + 1, none⟩) hb1).trans p1
            have hb1r : b1 < wr.heap.size := by omega
            have hobb := own_far hown hb1
            have hfz := Lib.hid (show vMerge [] (y :: lb2) = y :: vMerge [] lb2 by rw [vMerge_nil_left, vMerge_nil_left])
            by_cases hcb1 : 1 < cb'
            · have hcb1' : ¬ cb' = 1 := by omega
              have hcb1'' : (1 : Int) ≤ (nb : Int) := by omega
              go_wp2_with fail
              go_quiet (fail)
              go_wp2_with fail
              go_quiet (fail)
              go_wp2_with fail
              go_region_held3 (fun w' => w'.cell? ⟨b1, o1, none⟩ = some (.int .i64 y.r) ∧ w'.cell? ⟨b1, o1 + 1, none⟩ = some (.int .i64 y.t))
                (first
                  | go_keep
                  | (go_split_ands
                     refine ⟨?_, ?_⟩
                     · (rw [hgrow.cell_far _ (by simp; omega) (Ne.symm hobb)]; assumption)
                     · (rw [hgrow.cell_far _ (by simp; omega) (Ne.symm hobb)]; assumption)))
                ((refine step_append_lies _ (by rfl) _ _ _ (by rfl) w.heap.size 45 i0 _ 2 16 Tryz.underlying22 hi0 hi1 hi2 hi3 rfl (by omega) u9 out.length (eCells out) (by rfl) (own_drewN (hown.alloc _) _)
                    ⟨wr.heap.size, 0, none⟩ 1 1 [.int .i64 y.r, .int .i64 y.t] (by rfl) (by rfl) (World.news_of_block (cs := #[.int .i64 y.r, .int .i64 y.t]) (t := 45) (fr := (0, 0)) (heap_alloc_new _ _)) (by simp [Value.oneCell'])
                    (by omega) (by unfold maxLen; omega) (by omega) (by simp; omega) (wr.heap.size + 1) (by simp) ?_; intro gg cap w1 hown1 hgrow hat hlt))
              all_goals (go_wp2_with fail)
              all_goals (have hz := HNA.out; subst hz)
              all_goals exact ⟨⟨_, _, _, _, _, hj0.stepB hfz.out (by omega) (by omega) (.inl rfl) hown1 (((hext.alloc _).drewN _).grown hgrow (own_ge hown))⟩, by simp [lenOf]; omega⟩
            · have hcb1' : cb' = 1 := by omega
              have hcb1'' : (1 : Int) ≤ (nb : Int) := by omega
              go_wp2_with fail
              go_quiet (fail)
              go_wp2_with fail
              go_quiet (fail)
              go_wp2_with fail
              go_region_held3 (fun w' => w'.cell? ⟨b1, o1, none⟩ = some (.int .i64 y.r) ∧ w'.cell? ⟨b1, o1 + 1, none⟩ = some (.int .i64 y.t))
                (first
                  | go_keep
                  | (go_split_ands
                     refine ⟨?_, ?_⟩
                     · (rw [hgrow.cell_far _ (by simp; omega) (Ne.symm hobb)]; assumption)
                     · (rw [hgrow.cell_far _ (by simp; omega) (Ne.symm hobb)]; assumption)))
                ((refine step_append_lies _ (by rfl) _ _ _ (by rfl) w.heap.size 45 i0 _ 2 16 Tryz.underlying22 hi0 hi1 hi2 hi3 rfl (by omega) u9 out.length (eCells out) (by rfl) (own_drewN (hown.alloc _) _)
                    ⟨wr.heap.size, 0, none⟩ 1 1 [.int .i64 y.r, .int .i64 y.t] (by rfl) (by rfl) (World.news_of_block (cs := #[.int .i64 y.r, .int .i64 y.t]) (t := 45) (fr := (0, 0)) (heap_alloc_new _ _)) (by simp [Value.oneCell'])
                    (by omega) (by unfold maxLen; omega) (by omega) (by simp; omega) (wr.heap.size + 1) (by simp) ?_; intro gg cap w1 hown1 hgrow hat hlt))
              all_goals (go_wp2_with fail)
              all_goals (have hz := HNA.out; subst hz)
              all_goals exact ⟨⟨_, _, _, _, _, hj0.stepB hfz.out (by omega) (by omega) (.inr hcb1') hown1 (((hext.alloc _).drewN _).grown hgrow (own_ge hown))⟩, by simp [lenOf]; omega⟩
        · have hfw := hfew.out
          have hna1 : 0 < na := by have := hna.out; simp at this; omega
          have hz0 : ((na : Int) == 0) = false := by simp; omega
          have hz1 : decide ((0 : Int) < (na : Int)) = true := by simp; omega
          obtain ⟨b0, o0, rfl, hb0, q0, q1⟩ := hsa'.head
          have g0 := (hext.cell (p := ⟨b0, o0, none⟩) hb0).trans q0
          have g1 := (hext.cell (p := ⟨b0, o0 + 1, none⟩) hb0).trans q1
          have hb0r : b0 < wr.heap.size := by omega
          have hoa := own_far hown hb0
          rcases lb' with _ | ⟨y, lb2⟩
          · have hnb0 : nb = 0 := hnb.out
            have hyy0 : ((nb : Int) == 0) = true := by simp; omega
            have hyy1 : decide ((0 : Int) < (nb : Int)) = false := by simp; omega
            have hyy2 : ¬ (0 : Int) < (nb : Int) := by omega
            have HNB := Lib.hid hnb0
            clear hnb0
            have hfz := Lib.hid (show vMerge (x :: la2) [] = x :: vMerge la2 [] by rw [vMerge_nil_right, vMerge_nil_right])
            by_cases hca1 : 1 < ca'
            · have hca1' : ¬ ca' = 1 := by omega
              have hca1'' : (1 : Int) ≤ (na : Int) := by omega
              go_wp2_with fail
              go_quiet (fail)
              go_wp2_with fail
              go_region_held3 (fun w' => w'.cell? ⟨b0, o0, none⟩ = some (.int .i64 x.r) ∧ w'.cell? ⟨b0, o0 + 1, none⟩ = some (.int .i64 x.t))
                (first
                  | go_keep
                  | (go_split_ands
                     refine ⟨?_, ?_⟩
                     · (rw [hgrow.cell_far _ (by simp; omega) (Ne.symm hoa)]; assumption)
                     · (rw [hgrow.cell_far _ (by simp; omega) (Ne.symm hoa)]; assumption)))
                ((refine step_append_lies _ (by rfl) _ _ _ (by rfl) w.heap.size 45 i0 _ 2 16 Tryz.underlying22 hi0 hi1 hi2 hi3 rfl (by omega) u9 out.length (eCells out) (by rfl) (own_drewN (hown.alloc _) _)
                    ⟨wr.heap.size, 0, none⟩ 1 1 [.int .i64 x.r, .int .i64 x.t] (by rfl) (by rfl) (World.news_of_block (cs := #[.int .i64 x.r, .int .i64 x.t]) (t := 45) (fr := (0, 0)) (heap_alloc_new _ _)) (by simp [Value.oneCell'])
                    (by omega) (by unfold maxLen; omega) (by omega) (by simp; omega) (wr.heap.size + 1) (by simp) ?_; intro gg cap w1 hown1 hgrow hat hlt))
              all_goals (go_wp2_with fail)
              all_goals (have hz := HNB.out; subst hz)
              all_goals exact ⟨⟨_, _, _, _, _, hj0.stepA hfz.out (by omega) (by omega) (.inl rfl) hown1 (((hext.alloc _).drewN _).grown hgrow (own_ge hown))⟩, by simp [lenOf]; omega⟩
            · have hca1' : ca' = 1 := by omega
              have hca1'' : (1 : Int) ≤ (na : Int) := by omega
              go_wp2_with fail
              go_quiet (fail)
              go_wp2_with fail
              go_region_held3 (fun w' => w'.cell? ⟨b0, o0, none⟩ = some (.int .i64 x.r) ∧ w'.cell? ⟨b0, o0 + 1, none⟩ = some (.int .i64 x.t))
                (first
                  | go_keep
                  | (go_split_ands
                     refine ⟨?_, ?_⟩
                     · (rw [hgrow.cell_far _ (by simp; omega) (Ne.symm hoa)]; assumption)
                     · (rw [hgrow.cell_far _ (by simp; omega) (Ne.symm hoa)]; assumption)))
                ((refine step_append_lies _ (by rfl) _ _ _ (by rfl) w.heap.size 45 i0 _ 2 16 Tryz.underlying22 hi0 hi1 hi2 hi3 rfl (by omega) u9 out.length (eCells out) (by rfl) (own_drewN (hown.alloc _) _)
                    ⟨wr.heap.size, 0, none⟩ 1 1 [.int .i64 x.r, .int .i64 x.t] (by rfl) (by rfl) (World.news_of_block (cs := #[.int .i64 x.r, .int .i64 x.t]) (t := 45) (fr := (0, 0)) (heap_alloc_new _ _)) (by simp [Value.oneCell'])
                    (by omega) (by unfold maxLen; omega) (by omega) (by simp; omega) (wr.heap.size + 1) (by simp) ?_; intro gg cap w1 hown1 hgrow hat hlt))
              all_goals (go_wp2_with fail)
              all_goals (have hz := HNB.out; subst hz)
              all_goals exact ⟨⟨_, _, _, _, _, hj0.stepA hfz.out (by omega) (by omega) (.inr hca1') hown1 (((hext.alloc _).drewN _).grown hgrow (own_ge hown))⟩, by simp [lenOf]; omega⟩
          · have hnb1 : 0 < nb := by have := hnb.out; simp at this; omega
            have hy0 : ((nb : Int) == 0) = false := by simp; omega
            have hy1 : decide ((0 : Int) < (nb : Int)) = true := by simp; omega
            obtain ⟨b1, o1, rfl, hb1, p0, p1⟩ := hsb'.head
            have g2 := (hext.cell (p := ⟨b1, o1, none⟩) hb1).trans p0
            have g3 := (hext.cell (p := ⟨b1, o1 + 1, none⟩) hb1).trans p1
            have hb1r : b1 < wr.heap.size := by omega
            have hobb := own_far hown hb1
            rcases Int.lt_trichotomy x.r y.r with hxy | hxy | hxy
            · have hfz := Lib.hid (vMerge_lt x y la2 lb2 hxy)
              have hd1 : decide (x.r < y.r) = true := by simp; omega
              by_cases hca1 : 1 < ca'
              · have hca1' : ¬ ca' = 1 := by omega
                have hca1'' : (1 : Int) ≤ (na : Int) := by omega
                go_wp2_with fail
                go_quiet (fail)
                go_wp2_with fail
                go_region_held3 (fun w' => w'.cell? ⟨b0, o0, none⟩ = some (.int .i64 x.r) ∧ w'.cell? ⟨b0, o0 + 1, none⟩ = some (.int .i64 x.t))
                  (first
                    | go_keep
                    | (go_split_ands
                       refine ⟨?_, ?_⟩
                       · (rw [hgrow.cell_far _ (by simp; omega) (Ne.symm hoa)]; assumption)
                       · (rw [hgrow.cell_far _ (by simp; omega) (Ne.symm hoa)]; assumption)))
                  ((refine step_append_lies _ (by rfl) _ _ _ (by rfl) w.heap.size 45 i0 _ 2 16 Tryz.underlying22 hi0 hi1 hi2 hi3 rfl (by omega) u9 out.length (eCells out) (by rfl) (own_drewN (hown.alloc _) _)
                      ⟨wr.heap.size, 0, none⟩ 1 1 [.int .i64 x.r, .int .i64 x.t] (by rfl) (by rfl) (World.news_of_block (cs := #[.int .i64 x.r, .int .i64 x.t]) (t := 45) (fr := (0, 0)) (heap_alloc_new _ _)) (by simp [Value.oneCell'])
                      (by omega) (by unfold maxLen; omega) (by omega) (by simp; omega) (wr.heap.size + 1) (by simp) ?_; intro gg cap w1 hown1 hgrow hat hlt))
                all_goals (go_wp2_with fail)
                all_goals exact ⟨⟨_, _, _, _, _, hj0.stepA hfz.out (by omega) (by omega) (.inl rfl) hown1 (((hext.alloc _).drewN _).grown hgrow (own_ge hown))⟩, by simp [lenOf]; omega⟩
              · have hca1' : ca' = 1 := by omega
                have hca1'' : (1 : Int) ≤ (na : Int) := by omega
                go_wp2_with fail
                go_quiet (fail)
                go_wp2_with fail
                go_region_held3 (fun w' => w'.cell? ⟨b0, o0, none⟩ = some (.int .i64 x.r) ∧ w'.cell? ⟨b0, o0 + 1, none⟩ = some (.int .i64 x.t))
                  (first
                    | go_keep
                    | (go_split_ands
                       refine ⟨?_, ?_⟩
                       · (rw [hgrow.cell_far _ (by simp; omega) (Ne.symm hoa)]; assumption)
                       · (rw [hgrow.cell_far _ (by simp; omega) (Ne.symm hoa)]; assumption)))
                  ((refine step_append_lies _ (by rfl) _ _ _ (by rfl) w.heap.size 45 i0 _ 2 16 Tryz.underlying22 hi0 hi1 hi2 hi3 rfl (by omega) u9 out.length (eCells out) (by rfl) (own_drewN (hown.alloc _) _)
                      ⟨wr.heap.size, 0, none⟩ 1 1 [.int .i64 x.r, .int .i64 x.t] (by rfl) (by rfl) (World.news_of_block (cs := #[.int .i64 x.r, .int .i64 x.t]) (t := 45) (fr := (0, 0)) (heap_alloc_new _ _)) (by simp [Value.oneCell'])
                      (by omega) (by unfold maxLen; omega) (by omega) (by simp; omega) (wr.heap.size + 1) (by simp) ?_; intro gg cap w1 hown1 hgrow hat hlt))
                all_goals (go_wp2_with fail)
                all_goals exact ⟨⟨_, _, _, _, _, hj0.stepA hfz.out (by omega) (by omega) (.inr hca1') hown1 (((hext.alloc _).drewN _).grown hgrow (own_ge hown))⟩, by simp [lenOf]; omega⟩
            · have hxy0 := Lib.hid hxy
              have hxy1 : ¬ x.r < y.r := by omega
              have hxy2 : ¬ y.r < x.r := by omega
              have hd1 : decide (x.r < y.r) = false := by simp; omega
              have hd2 : decide (y.r < x.r) = false := by simp; omega
              clear hxy
              by_cases htt : x.t < y.t
              · have hm0 : y.t = max x.t y.t := by omega
                have hm := Lib.hid hm0
                clear hm0
                go_wp2_with fail
                go_quiet (fail)
                go_wp2_with fail
                go_quiet (fail)
                go_wp2_with fail
                go_region_held3 (fun w' => w'.cell? ⟨b0, o0, none⟩ = some (.int .i64 x.r) ∧ w'.cell? ⟨b0, o0 + 1, none⟩ = some (.int .i64 x.t) ∧ w'.cell? ⟨b1, o1 + 1, none⟩ = some (.int .i64 y.t))
                  (first
                    | go_keep
                    | (go_split_ands
                       refine ⟨?_, ?_, ?_⟩
                       · (rw [hgrow.cell_far _ (by simp; omega) (Ne.symm hoa)]; assumption)
                       · (rw [hgrow.cell_far _ (by simp; omega) (Ne.symm hoa)]; assumption)
                       · (rw [hgrow.cell_far _ (by simp; omega) (Ne.symm hobb)]; assumption)))
                  ((refine step_append_lies _ (by rfl) _ _ _ (by rfl) w.heap.size 45 i0 _ 2 16 Tryz.underlying22 hi0 hi1 hi2 hi3 rfl (by omega) u9 out.length (eCells out) (by rfl) (own_drewN (hown.alloc _) _)
                      ⟨wr.heap.size, 0, none⟩ 1 1 [.int .i64 x.r, .int .i64 y.t] (by rfl) (by rfl) (World.news_of_block (cs := #[.int .i64 x.r, .int .i64 y.t]) (t := 45) (fr := (0, 0)) (heap_alloc_new _ _)) (by simp [Value.oneCell'])
                      (by omega) (by unfold maxLen; omega) (by omega) (by simp; omega) (wr.heap.size + 1) (by simp) ?_; intro gg cap w1 hown1 hgrow hat hlt))
                go_wp2_with fail
                by_cases hca1 : ca' = 1
                · by_cases hcb1 : cb' = 1
                  · have hca2 : (1 : Int) ≤ (na : Int) := by omega
                    have hcb2 : (1 : Int) ≤ (nb : Int) := by omega
                    go_quiet (fail)
                    go_wp2_with fail
                    exact ⟨⟨_, _, _, _, _, hj0.stepM hm hxy0.out (by omega) (by omega) (by omega) (by omega) (.inr hca1) (.inr hcb1) hown1 (((hext.alloc _).drewN _).grown hgrow (own_ge hown) |>.drewN _)⟩, by simp [lenOf]; omega⟩
                  · have hca2 : (1 : Int) ≤ (na : Int) := by omega
                    have hcb2 : (1 : Int) ≤ (nb : Int) := by omega
                    go_quiet (fail)
                    go_wp2_with fail
                    exact ⟨⟨_, _, _, _, _, hj0.stepM hm hxy0.out (by omega) (by omega) (by omega) (by omega) (.inr hca1) (.inl rfl) hown1 (((hext.alloc _).drewN _).grown hgrow (own_ge hown) |>.drewN _)⟩, by simp [lenOf]; omega⟩
                · by_cases hcb1 : cb' = 1
                  · have hca2 : (1 : Int) ≤ (na : Int) := by omega
                    have hcb2 : (1 : Int) ≤ (nb : Int) := by omega
                    go_quiet (fail)
                    go_wp2_with fail
                    exact ⟨⟨_, _, _, _, _, hj0.stepM hm hxy0.out (by omega) (by omega) (by omega) (by omega) (.inl rfl) (.inr hcb1) hown1 (((hext.alloc _).drewN _).grown hgrow (own_ge hown) |>.drewN _)⟩, by simp [lenOf]; omega⟩
                  · have hca2 : (1 : Int) ≤ (na : Int) := by omega
                    have hcb2 : (1 : Int) ≤ (nb : Int) := by omega
                    go_quiet (fail)
                    go_wp2_with fail
                    exact ⟨⟨_, _, _, _, _, hj0.stepM hm hxy0.out (by omega) (by omega) (by omega) (by omega) (.inl rfl) (.inl rfl) hown1 (((hext.alloc _).drewN _).grown hgrow (own_ge hown) |>.drewN _)⟩, by simp [lenOf]; omega⟩
              · have hm0 : x.t = max x.t y.t := by omega
                have htp : (x.t < y.t) = False := eq_false htt
                have hm := Lib.hid hm0
                clear hm0
                go_wp2_with fail
                go_quiet (fail)
                go_wp2_with fail
                go_quiet (fail)
                go_wp2_with fail
                go_region_held3 (fun w' => w'.cell? ⟨b0, o0, none⟩ = some (.int .i64 x.r) ∧ w'.cell? ⟨b0, o0 + 1, none⟩ = some (.int .i64 x.t) ∧ w'.cell? ⟨b1, o1 + 1, none⟩ = some (.int .i64 y.t))
                  (first
                    | go_keep
                    | (go_split_ands
                       refine ⟨?_, ?_, ?_⟩
                       · (rw [hgrow.cell_far _ (by simp; omega) (Ne.symm hoa)]; assumption)
                       · (rw [hgrow.cell_far _ (by simp; omega) (Ne.symm hoa)]; assumption)
                       · (rw [hgrow.cell_far _ (by simp; omega) (Ne.symm hobb)]; assumption)))
                  ((refine step_append_lies _ (by rfl) _ _ _ (by rfl) w.heap.size 45 i0 _ 2 16 Tryz.underlying22 hi0 hi1 hi2 hi3 rfl (by omega) u9 out.length (eCells out) (by rfl) (own_drewN (hown.alloc _) _)
                      ⟨wr.heap.size, 0, none⟩ 1 1 [.int .i64 x.r, .int .i64 x.t] (by rfl) (by rfl) (World.news_of_block (cs := #[.int .i64 x.r, .int .i64 x.t]) (t := 45) (fr := (0, 0)) (heap_alloc_new _ _)) (by simp [Value.oneCell'])
                      (by omega) (by unfold maxLen; omega) (by omega) (by simp; omega) (wr.heap.size + 1) (by simp) ?_; intro gg cap w1 hown1 hgrow hat hlt))
                go_wp2_with fail
                by_cases hca1 : ca' = 1
                · by_cases hcb1 : cb' = 1
                  · have hca2 : (1 : Int) ≤ (na : Int) := by omega
                    have hcb2 : (1 : Int) ≤ (nb : Int) := by omega
                    go_quiet (fail)
                    go_wp2_with fail
                    exact ⟨⟨_, _, _, _, _, hj0.stepM hm hxy0.out (by omega) (by omega) (by omega) (by omega) (.inr hca1) (.inr hcb1) hown1 (((hext.alloc _).drewN _).grown hgrow (own_ge hown) |>.drewN _)⟩, by simp [lenOf]; omega⟩
                  · have hca2 : (1 : Int) ≤ (na : Int) := by omega
                    have hcb2 : (1 : Int) ≤ (nb : Int) := by omega
                    go_quiet (fail)
                    go_wp2_with fail
                    exact ⟨⟨_, _, _, _, _, hj0.stepM hm hxy0.out (by omega) (by omega) (by omega) (by omega) (.inr hca1) (.inl rfl) hown1 (((hext.alloc _).drewN _).grown hgrow (own_ge hown) |>.drewN _)⟩, by simp [lenOf]; omega⟩
                · by_cases hcb1 : cb' = 1
                  · have hca2 : (1 : Int) ≤ (na : Int) := by omega
                    have hcb2 : (1 : Int) ≤ (nb : Int) := by omega
                    go_quiet (fail)
                    go_wp2_with fail
                    exact ⟨⟨_, _, _, _, _, hj0.stepM hm hxy0.out (by omega) (by omega) (by omega) (by omega) (.inl rfl) (.inr hcb1) hown1 (((hext.alloc _).drewN _).grown hgrow (own_ge hown) |>.drewN _)⟩, by simp [lenOf]; omega⟩
                  · have hca2 : (1 : Int) ≤ (na : Int) := by omega
                    have hcb2 : (1 : Int) ≤ (nb : Int) := by omega
                    go_quiet (fail)
                    go_wp2_with fail
                    exact ⟨⟨_, _, _, _, _, hj0.stepM hm hxy0.out (by omega) (by omega) (by omega) (by omega) (.inl rfl) (.inl rfl) hown1 (((hext.alloc _).drewN _).grown hgrow (own_ge hown) |>.drewN _)⟩, by simp [lenOf]; omega⟩
            · have hfz := Lib.hid (vMerge_gt x y la2 lb2 hxy)
              have hxy1 : ¬ x.r < y.r := by omega
              have hd1 : decide (x.r < y.r) = false := by simp; omega
              have hd2 : decide (y.r < x.r) = true := by simp; omega
              by_cases hcb1 : 1 < cb'
              · have hcb1' : ¬ cb' = 1 := by omega
                have hcb1'' : (1 : Int) ≤ (nb : Int) := by omega
                go_wp2_with fail
                go_quiet (fail)
                go_wp2_with fail
                go_quiet (fail)
                go_wp2_with fail
                go_region_held3 (fun w' => w'.cell? ⟨b1, o1, none⟩ = some (.int .i64 y.r) ∧ w'.cell? ⟨b1, o1 + 1, none⟩ = some (.int .i64 y.t))
                  (first
                    | go_keep
                    | (go_split_ands
                       refine ⟨?_, ?_⟩
                       · (rw [hgrow.cell_far _ (by simp; omega) (Ne.symm hobb)]; assumption)
                       · (rw [hgrow.cell_far _ (by simp; omega) (Ne.symm hobb)]; assumption)))
                  ((refine step_append_lies _ (by rfl) _ _ _ (by rfl) w.heap.size 45 i0 _ 2 16 Tryz.underlying22 hi0 hi1 hi2 hi3 rfl (by omega) u9 out.length (eCells out) (by rfl) (own_drewN (hown.alloc _) _)
                      ⟨wr.heap.size, 0, none⟩ 1 1 [.int .i64 y.r, .int .i64 y.t] (by rfl) (by rfl) (World.news_of_block (cs := #[.int .i64 y.r, .int .i64 y.t]) (t := 45) (fr := (0, 0)) (heap_alloc_new _ _)) (by simp [Value.oneCell'])
                      (by omega) (by unfold maxLen; omega) (by omega) (by simp; omega) (wr.heap.size + 1) (by simp) ?_; intro gg cap w1 hown1 hgrow hat hlt))
                all_goals (go_wp2_with fail)
                all_goals exact ⟨⟨_, _, _, _, _, hj0.stepB hfz.out (by omega) (by omega) (.inl rfl) hown1 (((hext.alloc _).drewN _).grown hgrow (own_ge hown))⟩, by simp [lenOf]; omega⟩
              · have hcb1' : cb' = 1 := by omega
                have hcb1'' : (1 : Int) ≤ (nb : Int) := by omega
                go_wp2_with fail
                go_quiet (fail)
                go_wp2_with fail
                go_quiet (fail)
                go_wp2_with fail
                go_region_held3 (fun w' => w'.cell? ⟨b1, o1, none⟩ = some (.int .i64 y.r) ∧ w'.cell? ⟨b1, o1 + 1, none⟩ = some (.int .i64 y.t))
                  (first
                    | go_keep
                    | (go_split_ands
                       refine ⟨?_, ?_⟩
                       · (rw [hgrow.cell_far _ (by simp; omega) (Ne.symm hobb)]; assumption)
                       · (rw [hgrow.cell_far _ (by simp; omega) (Ne.symm hobb)]; assumption)))
                  ((refine step_append_lies _ (by rfl) _ _ _ (by rfl) w.heap.size 45 i0 _ 2 16 Tryz.underlying22 hi0 hi1 hi2 hi3 rfl (by omega) u9 out.length (eCells out) (by rfl) (own_drewN (hown.alloc _) _)
                      ⟨wr.heap.size, 0, none⟩ 1 1 [.int .i64 y.r, .int .i64 y.t] (by rfl) (by rfl) (World.news_of_block (cs := #[.int .i64 y.r, .int .i64 y.t]) (t := 45) (fr := (0, 0)) (heap_alloc_new _ _)) (by simp [Value.oneCell'])
                      (by omega) (by unfold maxLen; omega) (by omega) (by simp; omega) (wr.heap.size + 1) (by simp) ?_; intro gg cap w1 hown1 hgrow hat hlt))
                all_goals (go_wp2_with fail)
                all_goals exact ⟨⟨_, _, _, _, _, hj0.stepB hfz.out (by omega) (by omega) (.inr hcb1') hown1 (((hext.alloc _).drewN _).grown hgrow (own_ge hown))⟩, by simp [lenOf]; omega⟩
    · go_enter Tryz.func25, Tryz.ntmps25
      have HA := Lib.hid hra
      have HB := Lib.hid hrb
      clear hra hrb
      have ar0 := arr2_0
      have ar1 := arr2_1
      go_wp2_with fail
      refine wp_loop_rounds 2 ?_
      rw [rounds_succ]
      go_wp2_with fail
      refine (Right_any la a ca _ (by omega) hsa).mono ?_
      rintro e w1 ⟨v1, rfl, he1, hx1⟩
      rw [HA.out] at he1
      obtain rfl : v1 = _ := he1
      go_wp2_with fail
      rw [rounds_succ]
      go_wp2_with fail
      refine (Right_any lb b cb _ (by omega) (hsb.ext hx1)).mono ?_
      rintro e w2 ⟨v2, rfl, he2, hx2⟩
      obtain ⟨t2, y2, rfl⟩ := he2.iface HB.out
      go_wp2_with fail
      refine (Tell_any _ _ _ he2 (hg.ext (hx1.trans hx2))).mono ?_
      rintro e w3 ⟨rfl, hx3⟩
      go_wp2_with fail
      go_ret2
      exact JoinPost.err (by rw [vJoin, HA.out]; simp [HB.out]) rfl ((hx1.trans hx2).trans hx3)
  · go_enter Tryz.func25, Tryz.ntmps25
    have HA := Lib.hid hra
    clear hra
    have ar0 := arr2_0
    go_wp2_with fail
    refine wp_loop_rounds 1 ?_
    rw [rounds_succ]
    go_wp2_with fail
    refine (Right_any la a ca _ (by omega) hsa).mono ?_
    rintro e w1 ⟨v1, rfl, he1, hx1⟩
    obtain ⟨t2, y2, rfl⟩ := he1.iface HA.out
    go_wp2_with fail
    refine (Tell_any _ _ _ he1 (hg.ext hx1)).mono ?_
    rintro e w3 ⟨rfl, hx3⟩
    go_wp2_with fail
    go_ret2
    exact JoinPost.err (by rw [vJoin]; simp [HA.out]) rfl (hx1.trans hx3)

end Go.Proofs.YtbahalckcenfmaaGreatDoor
