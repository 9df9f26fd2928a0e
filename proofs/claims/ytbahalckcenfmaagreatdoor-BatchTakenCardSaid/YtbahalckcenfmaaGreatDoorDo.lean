/-
  The contract of (*store.Store).Do at a write that is right.
-/
import Derived.Test.YtbahalckcenfmaaGreatDoorStr
import Derived.Test.YtbahalckcenfmaaGreatDoorWRight
import Derived.Test.YtbahalckcenfmaaGreatDoorOrd
import Derived.Deep.RegionHeld3
import Derived.Deep.QuietTactic
namespace Go.Proofs.YtbahalckcenfmaaGreatDoor
open Go.RowKit Go.Maps
set_option linter.unusedSimpArgs false
set_option linter.unusedVariables false

def stTouch (base k : Nat) : Prop := base ≤ k
def DoPost (base sb mb n : Nat) (s : St) (x : Wr) (w : World) (e : Ending) (w' : World) : Prop :=
  e = .returned .nilIface ∧ (∃ at' lv' D', StAt w' base sb mb (n + 1) (stDo s x) at' lv' D') ∧ Chg (fun k => base ≤ k) w w'

theorem wrap64_i64 (n : Int) : IntKind.i64.wrap n = wrap64 n := by
  simp only [IntKind.wrap, IntKind.bits, IntKind.signed, wrap64]; simp; try omega
theorem St.set_set (s : St) (k : ByteArray) (a b : Option Cel) : (s.set k a).set k b = s.set k b := by
  funext k'
  unfold St.set
  split <;> rfl
theorem stDo_pre {s : St} {x : Wr} (h : s x.key = none) : stDo (s.set x.key (some (Cel.zero x.key))) x = stDo s x := by
  unfold stDo
  split
  · rw [St.set_set]
  · rw [St.set_set, St.set_same, h]; rfl
/-- A store into a map, a delete, at a step of a region that draws. -/
theorem step_mapUpdate {P : Program} (w : World) {ops : Array Oper} {o : Oper} {a : Act} {K : Act → World → Prop} {Q : Exit → Act → World → Prop} {E : Prop} (hgd : o.guard = none) (m x v : Operand) (t : TypeId)
    (ho : o.op = Op.mapUpdate t m x v) (vm vx vv : Value) (hm : a.eval m = vm) (hx : a.eval x = vx) (hv : a.eval v = vv) (w' : World) (hr : (Instr.mapUpdate t vm vx vv).run P w = .ok () w') (h : K (a.put o.dst undef) w') :
    if Region.wanted o (yielded ops a.tmps) = true then Oper.wp P o a w K Q else E := by
  rw [if_pos (by simp [Region.wanted, hgd])]
  unfold Oper.wp
  simp [execOp, ho, hm, hx, hv, hr, Result.andThen]
  exact h
theorem step_delete {P : Program} (w : World) {ops : Array Oper} {o : Oper} {a : Act} {K : Act → World → Prop} {Q : Exit → Act → World → Prop} {E : Prop} (hgd : o.guard = none) (m x : Operand) (t k : TypeId)
    (ho : o.op = Op.call { callee := Callee.builtin Builtin.delete, args := #[m, x], argTypes := #[t, k] }) (vm vx : Value) (hm : a.eval m = vm) (hx : a.eval x = vx) (w' : World) (hr : (Builtin.delete_ #[t, k] o.type #[vm, vx]).run P w = .ok (.tuple #[]) w') (h : K (a.put o.dst (.tuple #[])) w') :
    if Region.wanted o (yielded ops a.tmps) = true then Oper.wp P o a w K Q else E := by
  rw [if_pos (by simp [Region.wanted, hgd])]
  unfold Oper.wp
  simp [execOp, ho, resolve, invoke, builtin, hm, hx, hr, Result.andThen]
  exact h
theorem zero_ptr (w : World) : (zeroValue 125).run Tryz.prog w = .ok (.pointer none) w := by kernel_rfl
section
variable {w w' : World} {base sb mb n : Nat} {s : St} {at_ : ByteArray → Nat} {lv : ByteArray → Value} {D : DataW Unit}
theorem StAt.drewN (h : StAt w base sb mb n s at_ lv D) (q : Nat) : StAt (w.drewN q) base sb mb n s at_ lv D := h.ext ((Ext.refl w).drewN q)
theorem StAt.find (h : StAt w base sb mb n s at_ lv D) {key : ByteArray} (hk : key.size ≤ maxLen) {c : Cel} (hc : s key = some c) (q : Nat) :
    (Instr.lookup 122 (.map (some mb)) (.string key) false).run Tryz.prog (w.drewN q) = .ok (.pointer (some ⟨at_ key, 0, none⟩)) (w.drewN q) := by
  obtain ⟨v, ps, hrun, hr⟩ := (h.drewN q).own.lookup law Tryz.underlying122 (zero_ptr _) (zd := .lit (.bool false)) (zp := []) rfl (kl_of key hk)
  rw [h.look key c hc] at hr
  rw [hrun, ptrR_at hr]
theorem StAt.miss (h : StAt w base sb mb n s at_ lv D) {key : ByteArray} (hk : key.size ≤ maxLen) (hc : s key = none) (q : Nat) :
    (Instr.lookup 122 (.map (some mb)) (.string key) false).run Tryz.prog (w.drewN q) = .ok (.pointer none) (w.drewN q) := by
  obtain ⟨v, ps, hrun, hr⟩ := (h.drewN q).own.lookup law Tryz.underlying122 (zero_ptr _) (zd := .lit (.bool false)) (zp := []) rfl (kl_of key hk)
  rw [atKey_of_not_has (by rw [h.has key hk, hc]; rfl)] at hr
  rw [hrun, ptrR_nil hr]
theorem StAt.mono (h : StAt w base sb mb n s at_ lv D) {n' : Nat} (hn : n ≤ n') : StAt w base sb mb n' s at_ lv D :=
  ⟨h.blk, h.own.mono hn, h.has, h.look, h.cell, h.small, h.one, h.rows, h.hsb, h.hmb⟩
/-- A cell that is there is written. -/
theorem StAt.put (h : StAt w base sb mb n s at_ lv D) {key : ByteArray} {c c' : Cel} {lv' : Value} (hs : s key = some c) (hk' : c'.key = key) (hc : Chg (fun k => k = at_ key ∨ (lv key).ownBlock = some k) w w')
    (hb : w'.heap[at_ key]? = some (.cells (celCells c' lv').toArray 128 (0, 0))) (hr : w'.ownsRow base 9 1 lv' c'.list.length (strs c'.list)) (hfl : ∀ g, lv'.ownBlock = some g → w.heap.size ≤ g ∨ (lv key).ownBlock = some g) :
    ∃ at' lv'', StAt w' base sb mb n (s.set key (some c')) at' lv'' D := by
  obtain ⟨h1, h2, h3, h4⟩ := h.cell _ _ hs
  have hm : w'.ownsMap Tryz.prog 9 ptrR mb n D := by
    obtain ⟨es, clock, hm, r⟩ := h.own
    refine ⟨es, clock, ?_, r⟩
    rw [hc.block mb h.own.lt]
    · exact hm
    · rintro (e | e)
      · exact h.map_ne h3 e.symm
      · exact h.row_ne_map hs e
  exact ⟨_, _, h.turn (h.small _ _ hs) (hc.mono fun k _ hT => .inr ⟨c, hs, hT⟩) hm (fun k hkk => ⟨rfl, fun _ => rfl⟩) (some c') (at_ key) lv' (by rw [h.has _ (by have := h.small _ _ hs; unfold maxLen; omega), hs]; rfl)
    (fun _ _ z => h.look _ _ hs z) (fun c0 hc0 => by cases hc0; exact ⟨hk', h2, hb, hr⟩) (fun _ _ => .inr ⟨rfl, c, hs⟩) (fun c0 _ g hg => (hfl g hg).imp id fun hh => ⟨hh, c, hs⟩)⟩
theorem StAt.put_base (h : StAt w base sb mb n s at_ lv D) {key : ByteArray} {c : Cel} (hs : s key = some c) : ∀ k, (k = at_ key ∨ (lv key).ownBlock = some k) → base ≤ k :=
  fun k hT => h.touch_base (key := key) (.inr ⟨c, hs, hT⟩)
/-- A cell that is there is gone. -/
theorem StAt.drop (h : StAt w base sb mb n s at_ lv D) {key : ByteArray} (hk : key.size ≤ 40) (hg : w.grownBy w' (some mb)) (hown : w'.ownsMap Tryz.prog 9 ptrR mb n (D.del (kl key))) :
    ∃ at' lv', StAt w' base sb mb n (s.set key none) at' lv' (D.del (kl key)) :=
  ⟨_, _, h.turn hk ((Chg.refl _ w).grown hg (fun k hk => .inl (.inl (by cases hk; rfl)))) hown (fun k hkk => ⟨has_del_other (kl_ne hkk), fun z => atKey_del_other (kl_ne hkk) _⟩) none 0 (.slice none 0 0) has_del_same
    (fun c hc => by cases hc) (fun c hc => by cases hc) (fun c hc => by cases hc) (fun c hc => by cases hc)⟩
end

set_option maxRecDepth 100000 in
set_option maxHeartbeats 4000000 in
theorem Do_any (x : Wr) (w : World) (base sb mb n : Nat) (s : St) (at_ : ByteArray → Nat) (lv : ByteArray → Value) (D : DataW Unit) (h : StAt w base sb mb n s at_ lv D) (hx : wRight x = .nil) (hk : x.key.size ≤ 40) (hv : x.val.size ≤ 300) (hlo : 1 ≤ x.kind) (hhi : x.kind ≤ 4) (hn : n < 1000000)
    (hl : ∀ k c, s k = some c → c.list.length < 50000) :
    Calls Tryz.prog 50 #[.pointer (some ⟨sb, 0, none⟩), .agg #[.int .i64 x.t, .int .i64 x.r, .int .i64 x.kind, .string x.key, .string x.val, .int .i64 x.n]] w (DoPost base sb mb n s x w) := by
  have hmx : maxLen = 9223372036854775807 := by unfold maxLen; rfl
  go_enter Tryz.func50, Tryz.ntmps50
  go_wp2_with fail
  refine (wRight_any x _ (by omega) (by omega) (by omega) (by omega)).mono ?_
  rintro e w1 ⟨v1, rfl, he1, hx1⟩
  rw [hx] at he1
  obtain rfl : v1 = _ := he1
  have hy1 : Ext w w1 := Ext.trans ((Ext.refl _).alloc _) hx1
  have b1 := hx1.get (p := ⟨w.heap.size, 1, none⟩) (v := .int .i64 x.r) (by simp)
  have b2 := hx1.get (p := ⟨w.heap.size, 2, none⟩) (v := .int .i64 x.kind) (by simp)
  have b3 := hx1.get (p := ⟨w.heap.size, 3, none⟩) (v := .string x.key) (by simp)
  have b4 := hx1.get (p := ⟨w.heap.size, 4, none⟩) (v := .string x.val) (by simp)
  have b5 := hx1.get (p := ⟨w.heap.size, 5, none⟩) (v := .int .i64 x.n) (by simp)
  have hwb : w1.heap[w.heap.size]? = some (.cells (wCells1 x).toArray 33 (0, 0)) := by rw [hx1.block _ (by simp)]; exact heap_alloc_new _ _
  have h1 := h.ext hy1
  have q0 : w1.cell? ⟨sb, 0, none⟩ = some (.map (some mb)) := cell_blk h1.blk rfl
  go_wp2_with fail
  have q1 : w1.frozen? ⟨sb, 0, none⟩ = false := free_blk h1.blk
  have hl1 : ∀ k c, s k = some c → c.list.length < 50000 := hl
  have hy1b := hy1
  clear hl hy1b
  obtain ⟨p0, hp0, hf⟩ : ∃ p0 : Option Addr, p0 = (match s x.key with | some _ => some ⟨at_ x.key, 0, none⟩ | none => none) ∧ ∀ q, (Instr.lookup 122 (.map (some mb)) (.string x.key) false).run Tryz.prog (w1.drewN q) = .ok (.pointer p0) (w1.drewN q) := by
    refine ⟨_, rfl, fun q => ?_⟩
    rcases hs : s x.key with _ | c
    · exact h1.miss (by omega) hs q
    · exact h1.find (by omega) hs q
  have HV := Lib.hid hp0
  clear hp0
  go_quiet (fail)
  go_upto_if 20 with (fail)
  go_cut [6] from 21 (fun s6 wc => ∃ s1 at1 lv1 D1 c, s6 = .pointer (some ⟨at1 x.key, 0, none⟩) ∧ StAt wc base sb mb (n + 1) s1 at1 lv1 D1 ∧ s1 x.key = some c ∧ stDo s1 x = stDo s x ∧ c.list.length < 50000 ∧ Chg (fun k => base ≤ k) w wc ∧
    wc.heap[w.heap.size]? = some (.cells (wCells1 x).toArray 33 (0, 0)))
  case first =>
    rcases hs : s x.key with _ | c
    · have hv0' := HV.out
      rw [hs] at hv0'
      subst hv0'
      go_wp2_with fail
      obtain ⟨wa, hwa⟩ : ∃ wa, wa = (w1.drewN nq).alloc (.cells (celCells (Cel.zero x.key) (.slice none 0 0)).toArray 128) := ⟨_, rfl⟩
      have hxa : Ext w1 wa := by rw [hwa]; exact ((Ext.refl w1).drewN nq).alloc _
      have hba : wa.heap[w1.heap.size]? = some (.cells (celCells (Cel.zero x.key) (.slice none 0 0)).toArray 128 (0, 0)) := by rw [hwa]; exact heap_alloc_new _ _
      have hA := h1.ext hxa
      have qa0 := hxa.get q0
      have qa3 := hxa.get b3
      change Code.wp _ _ _ _ ((w1.drewN nq).alloc (.cells (celCells (Cel.zero x.key) (.slice none 0 0)).toArray 128))
      rw [← hwa]
      obtain ⟨w2, hrun2, hown2, hgrow2⟩ := (hA.ext (Ext.refl wa).drew).own.update law Tryz.underlying122 (by omega) (kl_of x.key (by omega)) (val := .pointer (some ⟨w1.heap.size, 0, none⟩)) (d := .lit (.int .i64 w1.heap.size)) (ps := []) rfl
      have h2ne : some sb ≠ some mb := fun hh => hA.map_ne hA.blk (by cases hh; rfl)
      have h2ne3 : some w.heap.size ≠ some mb := fun hh => by
        have := h.own.lt
        cases hh; omega
      refine wp_region_held_drew (S := fun w' => w'.cell? ⟨sb, 0, none⟩ = some (.map (some mb)) ∧ w'.cell? ⟨w.heap.size, 3, none⟩ = some (.string x.key)) (by kernel_rfl) ⟨qa0, qa3⟩ (fun hS => ?_)
      refine wpAnyH_take (i := 0) (oi := ⟨_, _, _, _, _, _⟩) (v := ?_) rfl (by kernel_rfl) (by kernel_rfl) (by kernel_rfl) (fun _ _ _ h => h) (Or.inl ⟨by rfl, ?_⟩) (by assumption) ?_
      rotate_left
      · intro w hSw
        (try dsimp only at hSw)
        first | (go_simp; done) | (go_simp; with_reducible rfl)
      simp only [Act.put, List.setIfInBounds_toArray, List.set_cons_zero, List.set_cons_succ]
      refine wpAnyH_take (i := 1) (oi := ⟨_, _, _, _, _, _⟩) (v := ?_) rfl (by kernel_rfl) (by kernel_rfl) (by kernel_rfl) (fun _ _ _ h => h) (Or.inl ⟨by rfl, ?_⟩) (by assumption) ?_
      rotate_left
      · intro w hSw
        (try dsimp only at hSw)
        first | (go_simp; done) | (go_simp; with_reducible rfl)
      simp only [Act.put, List.setIfInBounds_toArray, List.set_cons_zero, List.set_cons_succ]
      refine wpAnyH_take (i := 2) (oi := ⟨_, _, _, _, _, _⟩) (v := ?_) rfl (by kernel_rfl) (by kernel_rfl) (by kernel_rfl) (fun _ _ _ h => h) (Or.inl ⟨by rfl, ?_⟩) (by assumption) ?_
      rotate_left
      · intro w hSw
        (try dsimp only at hSw)
        first | (go_simp; done) | (go_simp; with_reducible rfl)
      simp only [Act.put, List.setIfInBounds_toArray, List.set_cons_zero, List.set_cons_succ]
      refine wpAnyH_take (i := 3) (oi := ⟨_, _, _, _, _, _⟩) (v := ?_) rfl (by kernel_rfl) (by kernel_rfl) (by kernel_rfl) (fun _ _ _ h => h) (Or.inl ⟨by rfl, ?_⟩) (by assumption) ?_
      rotate_left
      · intro w hSw
        (try dsimp only at hSw)
        first | (go_simp; done) | (go_simp; with_reducible rfl)
      simp only [Act.put, List.setIfInBounds_toArray, List.set_cons_zero, List.set_cons_succ]
      refine wpAnyH_take (i := 4) (oi := ⟨_, _, _, _, _, _⟩) (v := ?_) rfl (by kernel_rfl) (by kernel_rfl) (by kernel_rfl) (fun _ _ _ h => h) (Or.inl ⟨by rfl, ?_⟩) (by assumption) ?_
      rotate_left
      · intro w hSw
        (try dsimp only at hSw)
        first | (go_simp; done) | (go_simp; with_reducible rfl)
      simp only [Act.put, List.setIfInBounds_toArray, List.set_cons_zero, List.set_cons_succ]
      refine wpAnyH_take (i := 5) (oi := ⟨_, _, _, _, _, _⟩) (v := ?_) rfl (by kernel_rfl) (by kernel_rfl) (by kernel_rfl) (fun _ _ _ h => h) (Or.inl ⟨by rfl, ?_⟩) (by assumption) ?_
      rotate_left
      · intro w hSw
        (try dsimp only at hSw)
        first | (go_simp; done) | (go_simp; with_reducible rfl)
      simp only [Act.put, List.setIfInBounds_toArray, List.set_cons_zero, List.set_cons_succ]
      refine wpAnyH_take (i := 6) (oi := ⟨_, _, _, _, _, _⟩) (v := ?_) rfl (by kernel_rfl) (by kernel_rfl) (by kernel_rfl) (fun _ _ _ h => h) (Or.inl ⟨by rfl, ?_⟩) (by assumption) ?_
      rotate_left
      · intro w hSw
        (try dsimp only at hSw)
        first | (go_simp; done) | (go_simp; with_reducible rfl)
      simp only [Act.put, List.setIfInBounds_toArray, List.set_cons_zero, List.set_cons_succ]
      refine wpAnyH_ready (rs := [7]) (by kernel_rfl) (by simp) ?_
      refine AllReadyH.cons (o := ⟨_, _, _, _, _, _⟩) rfl (fun K hK => ?_) AllReadyH.nil
      refine step_mapUpdate _ rfl _ _ _ _ rfl (.map (some mb)) (.string x.key) (.pointer (some ⟨w1.heap.size, 0, none⟩)) (by simp [Act.eval, Act.put]) (by simp [Act.eval, Act.put]) (by simp [Act.eval, Act.put]) w2 hrun2 ?_
      refine hK.out _ _ ?_ (fun hS2 => ?_)
      · show _ ∧ _; exact ⟨grown_get hgrow2 h2ne hS.1, grown_get hgrow2 h2ne3 hS.2⟩
      clear hK K
      (try simp only [Act.put, List.setIfInBounds_toArray, List.set_cons_zero, List.set_cons_succ])
      refine wpAnyH_done (by kernel_rfl) ?_ _
      go_wp2_with fail
      go_meet
      case rel =>
        have hchg : Chg (Touch mb s at_ lv x.key) w1 w2 := (hxa.chg _).trans (((Chg.refl _ wa).drew).grown hgrow2 (fun k hk => .inl (.inl (by cases hk; rfl))))
        have hb2 : w2.heap[w1.heap.size]? = some (.cells (celCells (Cel.zero x.key) (.slice none 0 0)).toArray 128 (0, 0)) := by
          rw [hgrow2.block _ (lt_blk hba) (fun hh => hA.map_ne hba (by cases hh; rfl))]; exact hba
        have hS2 : StAt w2 base sb mb (n + 1) (s.set x.key (some (Cel.zero x.key))) (upd at_ x.key w1.heap.size) (upd lv x.key (.slice none 0 0)) _ :=
          h1.turn hk hchg hown2 (fun k hkk => ⟨has_put_other (kl_ne hkk) _, fun z => atKey_put_other (kl_ne hkk) _ _⟩) (some (Cel.zero x.key)) w1.heap.size (.slice none 0 0) (has_put_same hA.own.isMap (kl_key _ (by omega)) _)
            (fun c _ z => atKey_put_same hA.own.isMap (kl_key _ (by omega)) _ _) (fun c hc => by cases hc; exact ⟨rfl, by have := h1.hmb; have := h1.own.lt; omega, hb2, World.ownsRow_nil _ _ _ _⟩)
            (fun c _ => .inl (Nat.le_refl _)) (fun c _ g hg => by cases hg)
        have hcw := (hy1.chg (fun k => base ≤ k)).trans (hchg.mono (fun k _ hT => h1.touch_base hT))
        have hfar : w2.heap[w.heap.size]? = some (.cells (wCells1 x).toArray 33 (0, 0)) := by
          rw [hgrow2.block _ (Nat.lt_of_lt_of_le (lt_blk hwb) hxa.size) h2ne3]
          show wa.heap[w.heap.size]? = _
          rw [hxa.block _ (lt_blk hwb)]; exact hwb
        exact ⟨_, _, _, _, Cel.zero x.key, by rw [upd_same], hS2, St.set_same _ _ _, stDo_pre hs, by simp [Cel.zero], hcw, hfar⟩
    · have hv0' := HV.out
      rw [hs] at hv0'
      subst hv0'
      go_wp2_with fail
      go_meet
      case rel =>
        have hc2 := Ext.drewN hy1 nq
        exact ⟨_, _, _, _, c, rfl, (h1.drewN nq).mono (by omega), hs, rfl, hl1 _ _ hs, hc2.chg _, hwb⟩
  case rest =>
    clear hf HV hx1 hwb b1 b2 b3 b4 b5 q0 q1 hl1
    obtain ⟨s1, at1, lv1, D1, c, rfl, hS, hs, hdo, hcl, hchg, hwb⟩ := hcut
    have b2 : wc.cell? ⟨w.heap.size, 2, none⟩ = some (.int .i64 x.kind) := cell_blk hwb rfl
    have b3 : wc.cell? ⟨w.heap.size, 3, none⟩ = some (.string x.key) := cell_blk hwb rfl
    have b4 : wc.cell? ⟨w.heap.size, 4, none⟩ = some (.string x.val) := cell_blk hwb rfl
    have b5 : wc.cell? ⟨w.heap.size, 5, none⟩ = some (.int .i64 x.n) := cell_blk hwb rfl
    have hkind : x.kind = 1 ∨ x.kind = 2 ∨ x.kind = 3 ∨ x.kind = 4 := by omega
    obtain ⟨hck, hcb, hcblk, hcrow⟩ := hS.cell _ _ hs
    have c1 : wc.cell? ⟨at1 x.key, 1, none⟩ = some (.bool c.has) := cell_blk hcblk rfl
    have c2 : wc.cell? ⟨at1 x.key, 2, none⟩ = some (.string c.text) := cell_blk hcblk rfl
    have c3 : wc.cell? ⟨at1 x.key, 3, none⟩ = some (.int .i64 c.sum) := cell_blk hcblk rfl
    have c4 : wc.cell? ⟨at1 x.key, 4, none⟩ = some (lv1 x.key) := cell_blk hcblk rfl
    have f1 : ∀ i, wc.frozen? ⟨at1 x.key, i, none⟩ = false := fun i => free_blk hcblk
    have q0 : wc.cell? ⟨sb, 0, none⟩ = some (.map (some mb)) := cell_blk hS.blk rfl
    have hmm : w.heap.size ≠ mb := by have := h.own.lt; omega
    have hd : stDo s1 x = if x.kind = 2 then s1.set x.key none else s1.set x.key (some (celDo c x)) := by unfold stDo; rw [hs]; rfl
    rcases hkind with h4 | h4 | h4 | h4
    · rw [h4] at b2
      have H4 := Lib.hid h4
      clear h4
      go_wp2_with fail
      go_region
      go_wp2_with fail
      go_ret
      have hcc : celDo c x = { c with has := true, text := x.val } := by unfold celDo; rw [if_pos H4.out]
      have hb1 : (wc.setCell ⟨at1 x.key, 1, none⟩ (.bool true)).heap[at1 x.key]? = some (.cells #[.string c.key, .bool true, .string c.text, .int .i64 c.sum, lv1 x.key] 128 (0, 0)) := by simpa [celCells] using set_blk hcblk (i := 1) (.bool true)
      have hb2 : ((wc.setCell ⟨at1 x.key, 1, none⟩ (.bool true)).setCell ⟨at1 x.key, 2, none⟩ (.string x.val)).heap[at1 x.key]? = some (.cells (celCells (celDo c x) (lv1 x.key)).toArray 128 (0, 0)) := by
        rw [hcc]; simpa [celCells] using set_blk hb1 (i := 2) (.string x.val)
      have hne := own_ne hcrow hcblk (by decide)
      have hch : Chg (fun k => k = at1 x.key ∨ (lv1 x.key).ownBlock = some k) wc ((wc.setCell ⟨at1 x.key, 1, none⟩ (.bool true)).setCell ⟨at1 x.key, 2, none⟩ (.string x.val)).drew :=
        (((Chg.refl _ wc).set (a := ⟨at1 x.key, 1, none⟩) (.inl (.inl rfl)) _).set (a := ⟨at1 x.key, 2, none⟩) (.inl (.inl rfl)) _).drew
      obtain ⟨at2, lv2, hfin⟩ := hS.put hs (c' := celDo c x) (lv' := lv1 x.key) (by rw [hcc]; exact hck) hch hb2 (by rw [hcc]; exact own_set (own_set hcrow hne _) hne _) (fun g hg => .inr hg)
      refine ⟨rfl, ⟨at2, lv2, D1, ?_⟩, hchg.trans (hch.mono fun k _ hT => hS.put_base hs k hT)⟩
      rw [← hdo, hd, if_neg (by rw [H4.out]; decide)]
      exact hfin
    · rw [h4] at b2
      have H4 := Lib.hid h4
      clear h4
      go_wp2_with fail
      obtain ⟨w2, hrun2, hown2, hturn2⟩ := (hS.ext (Ext.refl wc).drew).own.drop law Tryz.underlying122 (kl_of x.key (by omega)) 0
      have hgrow0 := hturn2.grown
      have hgrow2 : wc.grownBy w2 (some mb) := ⟨hgrow0.os, hgrow0.tape, hgrow0.output, hgrow0.size, hgrow0.block⟩
      refine wp_region_held_drew (S := fun w' => w'.cell? ⟨sb, 0, none⟩ = some (.map (some mb)) ∧ w'.cell? ⟨w.heap.size, 3, none⟩ = some (.string x.key)) (by kernel_rfl) ⟨q0, b3⟩ (fun hS0 => ?_)
      refine wpAnyH_take (i := 0) (oi := ⟨_, _, _, _, _, _⟩) (v := ?_) rfl (by kernel_rfl) (by kernel_rfl) (by kernel_rfl) (fun _ _ _ h => h) (Or.inl ⟨by rfl, ?_⟩) (by assumption) ?_
      rotate_left
      · intro w hSw
        (try dsimp only at hSw)
        first | (go_simp; done) | (go_simp; with_reducible rfl)
      simp only [Act.put, List.setIfInBounds_toArray, List.set_cons_zero, List.set_cons_succ]
      refine wpAnyH_take (i := 1) (oi := ⟨_, _, _, _, _, _⟩) (v := ?_) rfl (by kernel_rfl) (by kernel_rfl) (by kernel_rfl) (fun _ _ _ h => h) (Or.inl ⟨by rfl, ?_⟩) (by assumption) ?_
      rotate_left
      · intro w hSw
        (try dsimp only at hSw)
        first | (go_simp; done) | (go_simp; with_reducible rfl)
      simp only [Act.put, List.setIfInBounds_toArray, List.set_cons_zero, List.set_cons_succ]
      refine wpAnyH_take (i := 2) (oi := ⟨_, _, _, _, _, _⟩) (v := ?_) rfl (by kernel_rfl) (by kernel_rfl) (by kernel_rfl) (fun _ _ _ h => h) (Or.inl ⟨by rfl, ?_⟩) (by assumption) ?_
      rotate_left
      · intro w hSw
        (try dsimp only at hSw)
        first | (go_simp; done) | (go_simp; with_reducible rfl)
      simp only [Act.put, List.setIfInBounds_toArray, List.set_cons_zero, List.set_cons_succ]
      refine wpAnyH_take (i := 3) (oi := ⟨_, _, _, _, _, _⟩) (v := ?_) rfl (by kernel_rfl) (by kernel_rfl) (by kernel_rfl) (fun _ _ _ h => h) (Or.inl ⟨by rfl, ?_⟩) (by assumption) ?_
      rotate_left
      · intro w hSw
        (try dsimp only at hSw)
        first | (go_simp; done) | (go_simp; with_reducible rfl)
      simp only [Act.put, List.setIfInBounds_toArray, List.set_cons_zero, List.set_cons_succ]
      refine wpAnyH_take (i := 4) (oi := ⟨_, _, _, _, _, _⟩) (v := ?_) rfl (by kernel_rfl) (by kernel_rfl) (by kernel_rfl) (fun _ _ _ h => h) (Or.inl ⟨by rfl, ?_⟩) (by assumption) ?_
      rotate_left
      · intro w hSw
        (try dsimp only at hSw)
        first | (go_simp; done) | (go_simp; with_reducible rfl)
      simp only [Act.put, List.setIfInBounds_toArray, List.set_cons_zero, List.set_cons_succ]
      refine wpAnyH_take (i := 5) (oi := ⟨_, _, _, _, _, _⟩) (v := ?_) rfl (by kernel_rfl) (by kernel_rfl) (by kernel_rfl) (fun _ _ _ h => h) (Or.inl ⟨by rfl, ?_⟩) (by assumption) ?_
      rotate_left
      · intro w hSw
        (try dsimp only at hSw)
        first | (go_simp; done) | (go_simp; with_reducible rfl)
      simp only [Act.put, List.setIfInBounds_toArray, List.set_cons_zero, List.set_cons_succ]
      refine wpAnyH_ready (rs := [6]) (by kernel_rfl) (by simp) ?_
      refine AllReadyH.cons (o := ⟨_, _, _, _, _, _⟩) rfl (fun K hK => ?_) AllReadyH.nil
      refine step_delete _ rfl _ _ _ _ rfl (.map (some mb)) (.string x.key) (by simp [Act.eval, Act.put]) (by simp [Act.eval, Act.put]) w2 hrun2 ?_
      refine hK.out _ _ ?_ (fun hS2 => ?_)
      · show _ ∧ _; exact ⟨grown_get hgrow2 (fun hh => hS.map_ne hS.blk (by cases hh; rfl)) q0, grown_get hgrow2 (fun hh => hmm (by cases hh; rfl)) b3⟩
      clear hK K
      (try simp only [Act.put, List.setIfInBounds_toArray, List.set_cons_zero, List.set_cons_succ])
      refine wpAnyH_done (by kernel_rfl) ?_ _
      go_wp2_with fail
      go_ret
      obtain ⟨at2, lv2, hfin⟩ := hS.drop hk hgrow2 hown2
      refine ⟨rfl, ⟨at2, lv2, D1.del (kl x.key), ?_⟩, hchg.trans ((Chg.refl _ wc).grown hgrow2 (fun k hk => .inl (by cases hk; exact hS.hmb)))⟩
      rw [← hdo, hd, if_pos H4.out]
      exact hfin
    · rw [h4] at b2
      have H4 := Lib.hid h4
      clear h4
      go_wp2_with fail
      go_region
      go_wp2_with fail
      go_ret
      have hcc : celDo c x = { c with sum := wrap64 (c.sum + x.n) } := by unfold celDo; rw [if_neg (by rw [H4.out]; decide), if_pos H4.out, wrap64_i64]
      have hb1 : (wc.setCell ⟨at1 x.key, 3, none⟩ (.int .i64 (wrap64 (c.sum + x.n)))).heap[at1 x.key]? = some (.cells (celCells (celDo c x) (lv1 x.key)).toArray 128 (0, 0)) := by
        rw [hcc]; simpa [celCells] using set_blk hcblk (i := 3) (.int .i64 (wrap64 (c.sum + x.n)))
      have hne := own_ne hcrow hcblk (by decide)
      have hch : Chg (fun k => k = at1 x.key ∨ (lv1 x.key).ownBlock = some k) wc (wc.setCell ⟨at1 x.key, 3, none⟩ (.int .i64 (wrap64 (c.sum + x.n)))).drew :=
        ((Chg.refl _ wc).set (a := ⟨at1 x.key, 3, none⟩) (.inl (.inl rfl)) _).drew
      obtain ⟨at2, lv2, hfin⟩ := hS.put hs (c' := celDo c x) (lv' := lv1 x.key) (by rw [hcc]; exact hck) hch hb1 (by rw [hcc]; exact own_set hcrow hne _) (fun g hg => .inr hg)
      refine ⟨rfl, ⟨at2, lv2, D1, ?_⟩, hchg.trans (hch.mono fun k _ hT => hS.put_base hs k hT)⟩
      rw [← hdo, hd, if_neg (by rw [H4.out]; decide)]
      exact hfin
    · rw [h4] at b2
      have H4 := Lib.hid h4
      have hxn : 0 ≤ x.n ∧ x.n ≤ 1000 := by
        unfold wRight at hx
        rw [h4] at hx
        by_cases hb : x.n < 0 ∨ 1000 < x.n
        · simp [hb] at hx
          repeat' split at hx
          all_goals first | cases hx | omega
        · omega
      clear h4 hx
      go_wp2_with fail
      obtain ⟨la, lc, hlv, hlc, hlrow, hlnil, hlb⟩ := own_row hcrow
      rw [hlv] at c4
      obtain ⟨m, hxm⟩ : ∃ m : Nat, x.n = (m : Int) := ⟨x.n.toNat, by omega⟩
      have hm1 : m ≤ 1000 := by omega
      rw [hxm] at b5
      have hxmt : x.n.toNat = m := by omega
      have hcc : celDo c x = { c with list := insStr c.list (min m c.list.length) x.val } := by unfold celDo; rw [if_neg (by rw [H4.out]; decide), if_neg (by rw [H4.out]; decide), if_pos H4.out, hxmt]
      have HC := Lib.hid hcc
      have HD := Lib.hid hd
      clear hcc hd hxm hxmt hxn
      have hcb2 := lt_blk hcblk
      have hnv : (Value.slice la c.list.length lc).ownBlock ≠ some (at1 x.key) := by rw [← hlv]; exact own_ne hcrow hcblk (by decide)
      rw [hlv] at hcrow
      have hwt : w.heap.size < wc.heap.size := lt_of_cell b2
      have hnv3 : (Value.slice la c.list.length lc).ownBlock ≠ some w.heap.size := own_ne hcrow hwb (by decide)
      have hnvn : (Value.slice la c.list.length lc).ownBlock ≠ some wc.heap.size := fun hh => by have := own_lt hcrow _ hh; omega
      have hE : Ext wc (wc.drew.alloc (.cells #[.string x.val] 9)) := (Ext.refl wc).drew.alloc _
      have hbs : base ≤ (wc.drew.alloc (.cells #[.string x.val] 9)).heap.size := by have := hE.size; omega
      obtain ⟨I, hI, hI1, hI2⟩ : ∃ I, I = min m c.list.length ∧ I ≤ c.list.length ∧ (I = c.list.length ∨ I = m) := ⟨_, rfl, by omega, by omega⟩
      have hins := InsT_any base I (.slice la c.list.length lc) c.list x.val wc.heap.size _ hbs (own_ext hcrow hE) (by omega) hI1 (blk_new _ _ _ rfl) hnvn
      have hfin : ∀ (v2 : Value) (w2 : World), w2.ownsRow base 9 1 v2 (c.list.length + 1) (strs (insStr c.list I x.val)) → Chg (fun k => (Value.slice la c.list.length lc).ownBlock = some k) (wc.drew.alloc (.cells #[.string x.val] 9)) w2 →
          (∀ k, v2.ownBlock = some k → (Value.slice la c.list.length lc).ownBlock = some k ∨ (wc.drew.alloc (.cells #[.string x.val] 9)).heap.size ≤ k) → DoPost base sb mb n s x w (.returned .nilIface) (w2.setCell ⟨at1 x.key, 4, none⟩ v2) := by
        intro v2 w2 hown2 hch2 hnew2
        have hb2 : w2.heap[at1 x.key]? = some (.cells (celCells c (.slice la c.list.length lc)).toArray 128 (0, 0)) := by
          rw [hch2.block _ (Nat.lt_of_lt_of_le hcb2 hE.size) hnv, hE.block _ hcb2, ← hlv]; exact hcblk
        have hb3 : (w2.setCell ⟨at1 x.key, 4, none⟩ v2).heap[at1 x.key]? = some (.cells (celCells (celDo c x) v2).toArray 128 (0, 0)) := by
          rw [HC.out]; simpa [celCells] using set_blk hb2 (i := 4) v2
        have hch : Chg (fun k => k = at1 x.key ∨ (lv1 x.key).ownBlock = some k) wc (w2.setCell ⟨at1 x.key, 4, none⟩ v2) :=
          ((hE.chg _).trans (hch2.mono fun k _ hk => .inr (by rw [hlv]; exact hk))).set (a := ⟨at1 x.key, 4, none⟩) (.inl (.inl rfl)) _
        have hil := insStr_length c.list I x.val hI1
        obtain ⟨at2, lv2, hfin⟩ := hS.put hs (c' := celDo c x) (lv' := v2) (by rw [HC.out]; exact hck) hch hb3 (by rw [HC.out, ← hI]; rw [← hil] at hown2; exact own_set hown2 (own_ne hown2 hb2 (by decide)) _)
          (fun g hg => (hnew2 g hg).symm.imp (fun hh => by have := hE.size; omega) (fun hh => by rw [hlv]; exact hh))
        refine ⟨rfl, ⟨at2, lv2, D1, ?_⟩, hchg.trans (hch.mono fun k _ hT => hS.put_base hs k hT)⟩
        rw [← hdo, HD.out, if_neg (by rw [H4.out]; decide)]
        exact hfin
      have hfr : ∀ (v2 : Value) w2, Chg (fun k => (Value.slice la c.list.length lc).ownBlock = some k) (wc.drew.alloc (.cells #[.string x.val] 9)) w2 → w2.cell? ⟨at1 x.key, 4, none⟩ = some (.slice la c.list.length lc) ∧ w2.frozen? ⟨at1 x.key, 4, none⟩ = false ∧ w2.cell? ⟨w.heap.size, 4, none⟩ = some (.string x.val) ∧ w2.cell? ⟨w.heap.size, 5, none⟩ = some (.int .i64 m) := by
        intro v2 w2 hch2
        have hb2 : w2.heap[at1 x.key]? = some (.cells (celCells c (.slice la c.list.length lc)).toArray 128 (0, 0)) := by
          rw [hch2.block _ (Nat.lt_of_lt_of_le hcb2 hE.size) hnv, hE.block _ hcb2, ← hlv]; exact hcblk
        exact ⟨cell_blk hb2 rfl, free_blk hb2, hch2.get (p := ⟨w.heap.size, 4, none⟩) hnv3 (hE.get b4), hch2.get (p := ⟨w.heap.size, 5, none⟩) hnv3 (hE.get b5)⟩
      have HFIN := Lib.hid hfin
      have HFR := Lib.hid hfr
      have HINS := Lib.hid hins
      clear hfin hfr hins hS hdo
      by_cases hlt : c.list.length < m
      · have hlt' : (c.list.length : Int) < (m : Int) := by omega
        obtain rfl : I = c.list.length := by omega
        clear hI hI1 hI2
        refine wp_regionU (S := fun w' => w'.cell? ⟨at1 x.key, 4, none⟩ = some (.slice la c.list.length lc) ∧ w'.cell? ⟨w.heap.size, 4, none⟩ = some (.string x.val) ∧ w'.cell? ⟨w.heap.size, 5, none⟩ = some (.int .i64 m)) (k := 19) (by kernel_rfl) ⟨c4, b4, b5⟩ (fun hS0 => ?_)
        refine wpU_take (i := 0) (oi := ⟨_, _, _, _, _, _⟩) (v := ?_) rfl (by kernel_rfl) (by kernel_rfl) (by kernel_rfl) (by kernel_rfl) (fun _ _ _ h => h) (Or.inl ⟨by rfl, ?_⟩) (by assumption) ?_
        rotate_left
        · intro w hSw
          (try dsimp only at hSw)
          first | (go_simp; done) | (go_simp; with_reducible rfl)
        simp only [Act.put, List.setIfInBounds_toArray, List.set_cons_zero, List.set_cons_succ]
        refine wpU_take (i := 1) (oi := ⟨_, _, _, _, _, _⟩) (v := ?_) rfl (by kernel_rfl) (by kernel_rfl) (by kernel_rfl) (by kernel_rfl) (fun _ _ _ h => h) (Or.inl ⟨by rfl, ?_⟩) (by assumption) ?_
        rotate_left
        · intro w hSw
          (try dsimp only at hSw)
          first | (go_simp; done) | (go_simp; with_reducible rfl)
        simp only [Act.put, List.setIfInBounds_toArray, List.set_cons_zero, List.set_cons_succ]
        refine wpU_take (i := 2) (oi := ⟨_, _, _, _, _, _⟩) (v := ?_) rfl (by kernel_rfl) (by kernel_rfl) (by kernel_rfl) (by kernel_rfl) (fun _ _ _ h => h) (Or.inl ⟨by rfl, ?_⟩) (by assumption) ?_
        rotate_left
        · intro w hSw
          (try dsimp only at hSw)
          first | (go_simp; done) | (go_simp; with_reducible rfl)
        simp only [Act.put, List.setIfInBounds_toArray, List.set_cons_zero, List.set_cons_succ]
        refine wpU_take (i := 3) (oi := ⟨_, _, _, _, _, _⟩) (v := ?_) rfl (by kernel_rfl) (by kernel_rfl) (by kernel_rfl) (by kernel_rfl) (fun _ _ _ h => h) (Or.inl ⟨by rfl, ?_⟩) (by assumption) ?_
        rotate_left
        · intro w hSw
          (try dsimp only at hSw)
          first | (go_simp; done) | (go_simp; with_reducible rfl)
        simp only [Act.put, List.setIfInBounds_toArray, List.set_cons_zero, List.set_cons_succ]
        refine wpU_take (i := 4) (oi := ⟨_, _, _, _, _, _⟩) (v := ?_) rfl (by kernel_rfl) (by kernel_rfl) (by kernel_rfl) (by kernel_rfl) (fun _ _ _ h => h) (Or.inl ⟨by rfl, ?_⟩) (by assumption) ?_
        rotate_left
        · intro w hSw
          (try dsimp only at hSw)
          first | (go_simp; done) | (go_simp; with_reducible rfl)
        simp only [Act.put, List.setIfInBounds_toArray, List.set_cons_zero, List.set_cons_succ]
        refine wpU_take (i := 5) (oi := ⟨_, _, _, _, _, _⟩) (v := ?_) rfl (by kernel_rfl) (by kernel_rfl) (by kernel_rfl) (by kernel_rfl) (fun _ _ _ h => h) (Or.inl ⟨by rfl, ?_⟩) (by assumption) ?_
        rotate_left
        · intro w hSw
          (try dsimp only at hSw)
          first | (go_simp; done) | (go_simp; with_reducible rfl)
        simp only [Act.put, List.setIfInBounds_toArray, List.set_cons_zero, List.set_cons_succ]
        refine wpU_take (i := 6) (oi := ⟨_, _, _, _, _, _⟩) (v := ?_) rfl (by kernel_rfl) (by kernel_rfl) (by kernel_rfl) (by kernel_rfl) (fun _ _ _ h => h) (Or.inl ⟨by rfl, ?_⟩) (by assumption) ?_
        rotate_left
        · intro w hSw
          (try dsimp only at hSw)
          first | (go_simp; done) | (go_simp; with_reducible rfl)
        simp only [Act.put, List.setIfInBounds_toArray, List.set_cons_zero, List.set_cons_succ]
        refine wpU_take (i := 7) (oi := ⟨_, _, _, _, _, _⟩) (v := ?_) rfl (by kernel_rfl) (by kernel_rfl) (by kernel_rfl) (by kernel_rfl) (fun _ _ _ h => h) (Or.inl ⟨by rfl, ?_⟩) (by assumption) ?_
        rotate_left
        · intro w hSw
          (try dsimp only at hSw)
          first | (go_simp; done) | (go_simp; with_reducible rfl)
        simp only [Act.put, List.setIfInBounds_toArray, List.set_cons_zero, List.set_cons_succ]
        refine wpU_take (i := 8) (oi := ⟨_, _, _, _, _, _⟩) (v := ?_) rfl (by kernel_rfl) (by kernel_rfl) (by kernel_rfl) (by kernel_rfl) (fun _ _ _ h => h) (Or.inl ⟨by rfl, ?_⟩) (by assumption) ?_
        rotate_left
        · intro w hSw
          (try dsimp only at hSw)
          first | (go_simp; done) | (go_simp; with_reducible rfl)
        simp only [Act.put, List.setIfInBounds_toArray, List.set_cons_zero, List.set_cons_succ]
        refine wpU_take (i := 9) (oi := ⟨_, _, _, _, _, _⟩) (v := ?_) rfl (by kernel_rfl) (by kernel_rfl) (by kernel_rfl) (by kernel_rfl) (fun _ _ _ h => h) (Or.inl ⟨by rfl, ?_⟩) (by assumption) ?_
        rotate_left
        · intro w hSw
          (try dsimp only at hSw)
          first | (go_simp; done) | (go_simp; with_reducible rfl)
        simp only [Act.put, List.setIfInBounds_toArray, List.set_cons_zero, List.set_cons_succ]
        refine wpU_take (i := 10) (oi := ⟨_, _, _, _, _, _⟩) (v := ?_) rfl (by kernel_rfl) (by kernel_rfl) (by kernel_rfl) (by kernel_rfl) (fun _ _ _ h => h) (Or.inl ⟨by rfl, ?_⟩) (by assumption) ?_
        rotate_left
        · intro w hSw
          (try dsimp only at hSw)
          first | (go_simp; done) | (go_simp; with_reducible rfl)
        simp only [Act.put, List.setIfInBounds_toArray, List.set_cons_zero, List.set_cons_succ]
        refine wpU_take (i := 11) (oi := ⟨_, _, _, _, _, _⟩) (v := ?_) rfl (by kernel_rfl) (by kernel_rfl) (by kernel_rfl) (by kernel_rfl) (fun _ _ _ h => h) (Or.inl ⟨by rfl, ?_⟩) (by assumption) ?_
        rotate_left
        · intro w hSw
          (try dsimp only at hSw)
          first | (go_simp; done) | (go_simp; with_reducible rfl)
        simp only [Act.put, List.setIfInBounds_toArray, List.set_cons_zero, List.set_cons_succ]
        refine wpU_take (i := 12) (oi := ⟨_, _, _, _, _, _⟩) (v := ?_) rfl (by kernel_rfl) (by kernel_rfl) (by kernel_rfl) (by kernel_rfl) (fun _ _ _ h => h) (Or.inl ⟨by rfl, ?_⟩) (by assumption) ?_
        rotate_left
        · intro w hSw
          (try dsimp only at hSw)
          first | (go_simp; done) | (go_simp; with_reducible rfl)
        simp only [Act.put, List.setIfInBounds_toArray, List.set_cons_zero, List.set_cons_succ]
        refine wpU_take (i := 13) (oi := ⟨_, _, _, _, _, _⟩) (v := ?_) rfl (by kernel_rfl) (by kernel_rfl) (by kernel_rfl) (by kernel_rfl) (fun _ _ _ h => h) (Or.inl ⟨by rfl, ?_⟩) (by assumption) ?_
        rotate_left
        · intro w hSw
          (try dsimp only at hSw)
          first | (go_simp; done) | (go_simp; with_reducible rfl)
        simp only [Act.put, List.setIfInBounds_toArray, List.set_cons_zero, List.set_cons_succ]
        refine wpU_take (i := 14) (oi := ⟨_, _, _, _, _, _⟩) (v := ?_) rfl (by kernel_rfl) (by kernel_rfl) (by kernel_rfl) (by kernel_rfl) (fun _ _ _ h => h) (Or.inl ⟨by rfl, ?_⟩) (by assumption) ?_
        rotate_left
        · intro w hSw
          (try dsimp only at hSw)
          first | (go_simp; done) | (go_simp; with_reducible rfl)
        simp only [Act.put, List.setIfInBounds_toArray, List.set_cons_zero, List.set_cons_succ]
        refine wpU_next (i := 15) (o := ⟨_, _, _, _, _, _⟩) (by kernel_rfl) rfl (fun K hK => ?_)
        go_simp
        refine hK.out _ _ (fun _ => ?_) (fun hS2 => ?_)
        · exact ⟨(Ext.alloc (Ext.refl wc.drew) _).get hS0.1, (Ext.alloc (Ext.refl wc.drew) _).get hS0.2.1, (Ext.alloc (Ext.refl wc.drew) _).get hS0.2.2⟩
        have hS3 := hS2 (by decide)
        clear hK K hS2
        (try simp only [Act.put, List.setIfInBounds_toArray, List.set_cons_zero, List.set_cons_succ])
        refine wpU_next (i := 16) (o := ⟨_, _, _, _, _, _⟩) (by kernel_rfl) rfl (fun K hK => ?_)
        go_simp
        refine HINS.out.mono ?_
        rintro e w2 ⟨v2, rfl, hown2, hch2, hnew2⟩
        obtain ⟨z1, z2, z3, z4⟩ := HFR.out v2 w2 hch2
        obtain ⟨a2, cc2, rfl, -, -, -, -⟩ := own_row hown2
        refine hK.out _ _ (fun _ => ?_) (fun hS2 => ?_)
        · exact ⟨z1, z3, z4⟩
        have hS3 := hS2 (by decide)
        clear hK K hS2
        (try simp only [Act.put, List.setIfInBounds_toArray, List.set_cons_zero, List.set_cons_succ])
        refine wpU_next (i := 17) (o := ⟨_, _, _, _, _, _⟩) (by kernel_rfl) rfl (fun K hK => ?_)
        go_simp
        refine hK.out _ _ (fun _ => ?_) (fun hS2 => ?_)
        · exact hS3
        have hS3 := hS2 (by decide)
        clear hK K hS2
        (try simp only [Act.put, List.setIfInBounds_toArray, List.set_cons_zero, List.set_cons_succ])
        refine wpU_next (i := 18) (o := ⟨_, _, _, _, _, _⟩) (by kernel_rfl) rfl (fun K hK => ?_)
        go_simp
        refine hK.out _ _ (fun _ => ?_) (fun hS2 => ?_)
        · exact hS3
        have hS3 := hS2 (by decide)
        clear hK K hS2
        (try simp only [Act.put, List.setIfInBounds_toArray, List.set_cons_zero, List.set_cons_succ])
        refine wpU_next (i := 19) (o := ⟨_, _, _, _, _, _⟩) (by kernel_rfl) rfl (fun K hK => ?_)
        go_simp
        refine hK.out _ _ (fun hh => absurd rfl hh) (fun _ => ?_)
        clear hK K
        (try simp only [Act.put, List.setIfInBounds_toArray, List.set_cons_zero, List.set_cons_succ])
        refine wpU_done (by kernel_rfl) ?_ _
        go_wp2_with fail
        go_ret
        exact HFIN.out _ _ hown2 hch2 hnew2
      · have hlt' : ¬ (c.list.length : Int) < (m : Int) := by omega
        obtain rfl : m = I := by omega
        clear hI hI1 hI2
        refine wp_regionU (S := fun w' => w'.cell? ⟨at1 x.key, 4, none⟩ = some (.slice la c.list.length lc) ∧ w'.cell? ⟨w.heap.size, 4, none⟩ = some (.string x.val) ∧ w'.cell? ⟨w.heap.size, 5, none⟩ = some (.int .i64 m)) (k := 19) (by kernel_rfl) ⟨c4, b4, b5⟩ (fun hS0 => ?_)
        refine wpU_take (i := 0) (oi := ⟨_, _, _, _, _, _⟩) (v := ?_) rfl (by kernel_rfl) (by kernel_rfl) (by kernel_rfl) (by kernel_rfl) (fun _ _ _ h => h) (Or.inl ⟨by rfl, ?_⟩) (by assumption) ?_
        rotate_left
        · intro w hSw
          (try dsimp only at hSw)
          first | (go_simp; done) | (go_simp; with_reducible rfl)
        simp only [Act.put, List.setIfInBounds_toArray, List.set_cons_zero, List.set_cons_succ]
        refine wpU_take (i := 1) (oi := ⟨_, _, _, _, _, _⟩) (v := ?_) rfl (by kernel_rfl) (by kernel_rfl) (by kernel_rfl) (by kernel_rfl) (fun _ _ _ h => h) (Or.inl ⟨by rfl, ?_⟩) (by assumption) ?_
        rotate_left
        · intro w hSw
          (try dsimp only at hSw)
          first | (go_simp; done) | (go_simp; with_reducible rfl)
        simp only [Act.put, List.setIfInBounds_toArray, List.set_cons_zero, List.set_cons_succ]
        refine wpU_take (i := 2) (oi := ⟨_, _, _, _, _, _⟩) (v := ?_) rfl (by kernel_rfl) (by kernel_rfl) (by kernel_rfl) (by kernel_rfl) (fun _ _ _ h => h) (Or.inl ⟨by rfl, ?_⟩) (by assumption) ?_
        rotate_left
        · intro w hSw
          (try dsimp only at hSw)
          first | (go_simp; done) | (go_simp; with_reducible rfl)
        simp only [Act.put, List.setIfInBounds_toArray, List.set_cons_zero, List.set_cons_succ]
        refine wpU_take (i := 3) (oi := ⟨_, _, _, _, _, _⟩) (v := ?_) rfl (by kernel_rfl) (by kernel_rfl) (by kernel_rfl) (by kernel_rfl) (fun _ _ _ h => h) (Or.inl ⟨by rfl, ?_⟩) (by assumption) ?_
        rotate_left
        · intro w hSw
          (try dsimp only at hSw)
          first | (go_simp; done) | (go_simp; with_reducible rfl)
        simp only [Act.put, List.setIfInBounds_toArray, List.set_cons_zero, List.set_cons_succ]
        refine wpU_take (i := 4) (oi := ⟨_, _, _, _, _, _⟩) (v := ?_) rfl (by kernel_rfl) (by kernel_rfl) (by kernel_rfl) (by kernel_rfl) (fun _ _ _ h => h) (Or.inl ⟨by rfl, ?_⟩) (by assumption) ?_
        rotate_left
        · intro w hSw
          (try dsimp only at hSw)
          first | (go_simp; done) | (go_simp; with_reducible rfl)
        simp only [Act.put, List.setIfInBounds_toArray, List.set_cons_zero, List.set_cons_succ]
        refine wpU_take (i := 5) (oi := ⟨_, _, _, _, _, _⟩) (v := ?_) rfl (by kernel_rfl) (by kernel_rfl) (by kernel_rfl) (by kernel_rfl) (fun _ _ _ h => h) (Or.inl ⟨by rfl, ?_⟩) (by assumption) ?_
        rotate_left
        · intro w hSw
          (try dsimp only at hSw)
          first | (go_simp; done) | (go_simp; with_reducible rfl)
        simp only [Act.put, List.setIfInBounds_toArray, List.set_cons_zero, List.set_cons_succ]
        refine wpU_take (i := 6) (oi := ⟨_, _, _, _, _, _⟩) (v := ?_) rfl (by kernel_rfl) (by kernel_rfl) (by kernel_rfl) (by kernel_rfl) (fun _ _ _ h => h) (Or.inl ⟨by rfl, ?_⟩) (by assumption) ?_
        rotate_left
        · intro w hSw
          (try dsimp only at hSw)
          first | (go_simp; done) | (go_simp; with_reducible rfl)
        simp only [Act.put, List.setIfInBounds_toArray, List.set_cons_zero, List.set_cons_succ]
        refine wpU_take (i := 7) (oi := ⟨_, _, _, _, _, _⟩) (v := ?_) rfl (by kernel_rfl) (by kernel_rfl) (by kernel_rfl) (by kernel_rfl) (fun _ _ _ h => h) (Or.inl ⟨by rfl, ?_⟩) (by assumption) ?_
        rotate_left
        · intro w hSw
          (try dsimp only at hSw)
          first | (go_simp; done) | (go_simp; with_reducible rfl)
        simp only [Act.put, List.setIfInBounds_toArray, List.set_cons_zero, List.set_cons_succ]
        refine wpU_take (i := 8) (oi := ⟨_, _, _, _, _, _⟩) (v := ?_) rfl (by kernel_rfl) (by kernel_rfl) (by kernel_rfl) (by kernel_rfl) (fun _ _ _ h => h) (Or.inl ⟨by rfl, ?_⟩) (by assumption) ?_
        rotate_left
        · intro w hSw
          (try dsimp only at hSw)
          first | (go_simp; done) | (go_simp; with_reducible rfl)
        simp only [Act.put, List.setIfInBounds_toArray, List.set_cons_zero, List.set_cons_succ]
        refine wpU_take (i := 9) (oi := ⟨_, _, _, _, _, _⟩) (v := ?_) rfl (by kernel_rfl) (by kernel_rfl) (by kernel_rfl) (by kernel_rfl) (fun _ _ _ h => h) (Or.inl ⟨by rfl, ?_⟩) (by assumption) ?_
        rotate_left
        · intro w hSw
          (try dsimp only at hSw)
          first | (go_simp; done) | (go_simp; with_reducible rfl)
        simp only [Act.put, List.setIfInBounds_toArray, List.set_cons_zero, List.set_cons_succ]
        refine wpU_take (i := 10) (oi := ⟨_, _, _, _, _, _⟩) (v := ?_) rfl (by kernel_rfl) (by kernel_rfl) (by kernel_rfl) (by kernel_rfl) (fun _ _ _ h => h) (Or.inl ⟨by rfl, ?_⟩) (by assumption) ?_
        rotate_left
        · intro w hSw
          (try dsimp only at hSw)
          first | (go_simp; done) | (go_simp; with_reducible rfl)
        simp only [Act.put, List.setIfInBounds_toArray, List.set_cons_zero, List.set_cons_succ]
        refine wpU_take (i := 11) (oi := ⟨_, _, _, _, _, _⟩) (v := ?_) rfl (by kernel_rfl) (by kernel_rfl) (by kernel_rfl) (by kernel_rfl) (fun _ _ _ h => h) (Or.inl ⟨by rfl, ?_⟩) (by assumption) ?_
        rotate_left
        · intro w hSw
          (try dsimp only at hSw)
          first | (go_simp; done) | (go_simp; with_reducible rfl)
        simp only [Act.put, List.setIfInBounds_toArray, List.set_cons_zero, List.set_cons_succ]
        refine wpU_take (i := 12) (oi := ⟨_, _, _, _, _, _⟩) (v := ?_) rfl (by kernel_rfl) (by kernel_rfl) (by kernel_rfl) (by kernel_rfl) (fun _ _ _ h => h) (Or.inl ⟨by rfl, ?_⟩) (by assumption) ?_
        rotate_left
        · intro w hSw
          (try dsimp only at hSw)
          first | (go_simp; done) | (go_simp; with_reducible rfl)
        simp only [Act.put, List.setIfInBounds_toArray, List.set_cons_zero, List.set_cons_succ]
        refine wpU_take (i := 13) (oi := ⟨_, _, _, _, _, _⟩) (v := ?_) rfl (by kernel_rfl) (by kernel_rfl) (by kernel_rfl) (by kernel_rfl) (fun _ _ _ h => h) (Or.inl ⟨by rfl, ?_⟩) (by assumption) ?_
        rotate_left
        · intro w hSw
          (try dsimp only at hSw)
          first | (go_simp; done) | (go_simp; with_reducible rfl)
        simp only [Act.put, List.setIfInBounds_toArray, List.set_cons_zero, List.set_cons_succ]
        refine wpU_take (i := 14) (oi := ⟨_, _, _, _, _, _⟩) (v := ?_) rfl (by kernel_rfl) (by kernel_rfl) (by kernel_rfl) (by kernel_rfl) (fun _ _ _ h => h) (Or.inl ⟨by rfl, ?_⟩) (by assumption) ?_
        rotate_left
        · intro w hSw
          (try dsimp only at hSw)
          first | (go_simp; done) | (go_simp; with_reducible rfl)
        simp only [Act.put, List.setIfInBounds_toArray, List.set_cons_zero, List.set_cons_succ]
        refine wpU_next (i := 15) (o := ⟨_, _, _, _, _, _⟩) (by kernel_rfl) rfl (fun K hK => ?_)
        go_simp
        refine hK.out _ _ (fun _ => ?_) (fun hS2 => ?_)
        · exact ⟨(Ext.alloc (Ext.refl wc.drew) _).get hS0.1, (Ext.alloc (Ext.refl wc.drew) _).get hS0.2.1, (Ext.alloc (Ext.refl wc.drew) _).get hS0.2.2⟩
        have hS3 := hS2 (by decide)
        clear hK K hS2
        (try simp only [Act.put, List.setIfInBounds_toArray, List.set_cons_zero, List.set_cons_succ])
        refine wpU_next (i := 16) (o := ⟨_, _, _, _, _, _⟩) (by kernel_rfl) rfl (fun K hK => ?_)
        go_simp
        refine HINS.out.mono ?_
        rintro e w2 ⟨v2, rfl, hown2, hch2, hnew2⟩
        obtain ⟨z1, z2, z3, z4⟩ := HFR.out v2 w2 hch2
        obtain ⟨a2, cc2, rfl, -, -, -, -⟩ := own_row hown2
        refine hK.out _ _ (fun _ => ?_) (fun hS2 => ?_)
        · exact ⟨z1, z3, z4⟩
        have hS3 := hS2 (by decide)
        clear hK K hS2
        (try simp only [Act.put, List.setIfInBounds_toArray, List.set_cons_zero, List.set_cons_succ])
        refine wpU_next (i := 17) (o := ⟨_, _, _, _, _, _⟩) (by kernel_rfl) rfl (fun K hK => ?_)
        go_simp
        refine hK.out _ _ (fun _ => ?_) (fun hS2 => ?_)
        · exact hS3
        have hS3 := hS2 (by decide)
        clear hK K hS2
        (try simp only [Act.put, List.setIfInBounds_toArray, List.set_cons_zero, List.set_cons_succ])
        refine wpU_next (i := 18) (o := ⟨_, _, _, _, _, _⟩) (by kernel_rfl) rfl (fun K hK => ?_)
        go_simp
        refine hK.out _ _ (fun _ => ?_) (fun hS2 => ?_)
        · exact hS3
        have hS3 := hS2 (by decide)
        clear hK K hS2
        (try simp only [Act.put, List.setIfInBounds_toArray, List.set_cons_zero, List.set_cons_succ])
        refine wpU_next (i := 19) (o := ⟨_, _, _, _, _, _⟩) (by kernel_rfl) rfl (fun K hK => ?_)
        go_simp
        refine hK.out _ _ (fun hh => absurd rfl hh) (fun _ => ?_)
        clear hK K
        (try simp only [Act.put, List.setIfInBounds_toArray, List.set_cons_zero, List.set_cons_succ])
        refine wpU_done (by kernel_rfl) ?_ _
        go_wp2_with fail
        go_ret
        exact HFIN.out _ _ hown2 hch2 hnew2

end Go.Proofs.YtbahalckcenfmaaGreatDoor
