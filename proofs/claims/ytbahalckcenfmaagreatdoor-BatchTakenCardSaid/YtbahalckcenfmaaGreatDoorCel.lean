/-
  The contract of (*store.Store).Cells.
-/
import Derived.Test.YtbahalckcenfmaaGreatDoorCelS
import Derived.Test.YtbahalckcenfmaaGreatDoorDo
import Derived.Test.YtbahalckcenfmaaGreatDoorShelf
import Derived.Maps.RangeWalk
import Derived.Deep.CutRange
namespace Go.Proofs.YtbahalckcenfmaaGreatDoor
open Go.RowKit Go.Maps Go.Sort
set_option linter.unusedSimpArgs false
set_option linter.unusedVariables false

theorem key_inv {key : Value} {l : Lit} (h : keyOf Tryz.prog 9 key = some l) : ∃ k : ByteArray, key = .string k ∧ l = kl k ∧ k.size ≤ maxLen := by
  have hk : Tryz.prog.underlying 9 = some .string := Tryz.underlying9
  cases key <;> simp [keyOf, hk, mapKey] at h
  obtain ⟨h1, rfl⟩ := h
  exact ⟨_, rfl, rfl, h1⟩

/-- A step of the range over a store's map. -/
theorem wpList_next_store {w0 w : World} {ops : Array Oper} {rest : List Oper} {o : Oper} {a : Act} {Q : Exit → Act → World → Prop} {base sb mb n r cnt : Nat} {s : St} {at_ : ByteArray → Nat} {lv : ByteArray → Value} {D : DataW Unit} {left : Lit → Bool}
    (hg : o.guard = none) (it : Operand) (hop : o.op = Op.next it false) (hit : a.eval it = .pointer (some ⟨r, 0, none⟩)) (h : w.ranges Tryz.prog 9 ptrR mb r n D left cnt) (hS : StAt w0 base sb mb n s at_ lv D) (hlf : ∀ l, left l = true → Maps.has D l = true)
    (hDone : (∀ l, left l = false) → wpList Tryz.prog ops Q rest (a.put o.dst (.tuple #[.bool false])) w)
    (hMore : ∀ (k : ByteArray) (c : Cel) (w' : World) (cnt' : Nat), s k = some c → left (kl k) = true → w'.ranges Tryz.prog 9 ptrR mb r n D (fun z => left z && !z.sameKey (kl k)) cnt' → cnt' < cnt → w.grownBy w' (some r) → w'.heap.size = w.heap.size →
      (Instr.entry (.pointer (some ⟨r, 0, none⟩))).run Tryz.prog w' = .ok (.tuple #[.string k, .pointer (some ⟨at_ k, 0, none⟩)]) w' → wpList Tryz.prog ops Q rest (a.put o.dst (.tuple #[.bool true, .string k, .pointer (some ⟨at_ k, 0, none⟩)])) w') :
    wpList Tryz.prog ops Q (o :: rest) a w := by
  refine wpList_plain hg fun K' hK' => ?_
  unfold Oper.wp
  rcases h.next law o.type with ⟨h0, hl, hrun⟩ | ⟨key, v, kl0, y, w', cnt', hkey, hlk, hv, hat, hrun, hrg, hlt, hgr, hsz, hen⟩
  · simp [execOp, hop, hit, hrun, Result.andThen]
    exact hK' _ _ (hDone hl)
  · obtain ⟨k, rfl, rfl, hks⟩ := key_inv hkey
    have hh := hlf _ hlk
    rw [hS.has k hks] at hh
    obtain ⟨c, hc⟩ := Option.isSome_iff_exists.1 hh
    have hy := hat (.lit (.bool false))
    rw [hS.look k c hc] at hy
    obtain ⟨y1, y2⟩ := y
    obtain rfl : y1 = _ := hy.symm
    obtain rfl := ptrR_at hv
    simp [execOp, hop, hit, hrun, Result.andThen]
    exact hK' _ _ (hMore k c w' cnt' hc hlk hrg hlt hgr hsz hen)

theorem RowAt.ext {w w' : World} {a : Option Addr} {cs : List Value} (h : RowAt w a cs) (hx : Ext w w') : RowAt w' a cs := by
  rcases h with h | ⟨b, off, rfl, hb, hc⟩
  · exact .inl h
  · exact .inr ⟨b, off, rfl, Nat.lt_of_lt_of_le hb hx.size, fun j u hj => hx.get (hc j u hj)⟩
theorem own_not_iter {w : World} {base : Nat} {e : TypeId} {size : Nat} {v : Value} {n' : Nat} {xs : List Value} {mb r n cnt : Nat} {D : DataW Unit} {left : Lit → Bool} (h : w.ownsRow base e size v n' xs) (hr : w.ranges Tryz.prog 9 ptrR mb r n D left cnt) : ∀ k, v.ownBlock = some k → some k ≠ some r := by
  intro k hk e1
  have e2 : k = r := by cases e1; rfl
  obtain ⟨es, clock, since, seen, c0, _, _, _, _, hr, _⟩ := hr
  rcases h.2 with ⟨hv, _⟩ | ⟨g, cap, cur, hv, _, hg, _⟩
  · rw [hv] at hk; cases hk
  · rw [hv] at hk
    have e3 : g = k := by simpa [Value.ownBlock] using hk
    rw [e3, e2, hr] at hg; cases hg
theorem own_not_map {w : World} {base : Nat} {e : TypeId} {size : Nat} {v : Value} {n' : Nat} {xs : List Value} {mb n : Nat} {D : DataW Unit} (h : w.ownsRow base e size v n' xs) (hm : w.ownsMap Tryz.prog 9 ptrR mb n D) : v.ownBlock ≠ some mb := by
  intro hk
  obtain ⟨es, clock, hm, _⟩ := hm
  rcases h.2 with ⟨hv, _⟩ | ⟨g, cap, cur, hv, _, hg, _⟩
  · rw [hv] at hk; cases hk
  · rw [hv] at hk
    have e3 : g = mb := by simpa [Value.ownBlock] using hk
    rw [e3, hm] at hg; cases hg
theorem Ext.grownBy {w w' : World} (h : Ext w w') (row : Option Nat) : w.grownBy w' row := ⟨h.os, h.tape, h.output, h.size, fun i hi _ => h.block i hi⟩
theorem CelsAt.iter {w w' : World} {base : Nat} {v : Value} {ps : List CV} {mb r n cnt : Nat} {D : DataW Unit} {left : Lit → Bool} (h : CelsAt w base v ps) (hr : w.ranges Tryz.prog 9 ptrR mb r n D left cnt) (hg : w.grownBy w' (some r)) : CelsAt w' base v ps :=
  ⟨own_grown hg h.own (own_not_iter h.own hr), fun p hp => own_grown hg (h.rows p hp) (own_not_iter (h.rows p hp) hr)⟩
/-- One cell more. -/
theorem CelsAt.add {w w' : World} {base g cap : Nat} {v : Value} {ps : List CV} (h : CelsAt w base v ps) {c : Cel} {x : SlV} (hx : w.ownsRow base 9 1 x.val c.list.length (strs c.list))
    (ho : w'.ownsRow base 128 5 (.slice (some ⟨g, 0, none⟩) (ps.length + 1) cap) (ps.length + 1) (fl encC ps ++ celCells c x.val)) (hg : w.grownBy w' v.ownBlock) : CelsAt w' base (.slice (some ⟨g, 0, none⟩) (ps.length + 1) cap) (ps ++ [(c, x)]) := by
  have hne : ∀ {y : Value} {m : Nat} {ys : List Value}, w.ownsRow base 9 1 y m ys → ∀ k, y.ownBlock = some k → some k ≠ v.ownBlock := fun hy k hk e => own_two hy h.own (by decide) k hk e.symm
  refine ⟨by simpa [fl, encC] using ho, fun p hp => ?_⟩
  rcases List.mem_append.1 hp with hp | hp
  · exact own_grown hg (h.rows p hp) (hne (h.rows p hp))
  · obtain rfl : p = (c, x) := by simpa using hp
    exact own_grown hg hx (hne hx)

/-- The closure that Cells sorts by. -/
theorem closC (p q : CV) (W : World) : Calls Tryz.prog 60 #[.agg (encC p).toArray, .agg (encC q).toArray] W fun e w' => e = .returned (.int .i64 (cmpC p q)) ∧ ∃ q os', w' = grow (W.drewN q) os' := by
  obtain ⟨⟨k, h, t, s, l⟩, v⟩ := p
  obtain ⟨⟨k', h', t', s', l'⟩, v'⟩ := q
  have hcon := fun W' => Any.strings_Compare Tryz.lays106 k k' W'
  change ∀ W', Calls Tryz.prog 61 _ _ _ at hcon
  show Calls Tryz.prog _ #[.agg #[.string k, .bool h, .string t, .int .i64 s, v.val], .agg #[.string k', .bool h', .string t', .int .i64 s', v'.val]] W _
  go_enter Tryz.func60, Tryz.ntmps60
  go_wp2_with (go_at_call 61; refine (hcon _).mono ?_; rintro e w' ⟨rfl, rfl⟩)
  go_ret
  exact ⟨rfl, 0, _, by rw [alloc_eq_grow, alloc_eq_grow, grow_grow]; rfl⟩

def CellsPost (s : St) (w : World) (e : Ending) (w' : World) : Prop :=
  ∃ v ps, e = .returned v ∧ CelsAt w' w.heap.size v ps ∧ CelsOf s (ps.map Prod.fst) ∧ Ext w w'

theorem info_Cel : (Tryz.prog.info? 128).map (fun i => (i.zero, i.size, i.bytes)) = some (some (.agg #[.string ⟨#[]⟩, .bool false, .string ⟨#[]⟩, .int .i64 0, .slice none 0 0]), 5, 72) := by kernel_rfl

set_option maxRecDepth 100000 in
set_option maxHeartbeats 4000000 in
theorem Cells_any (w : World) (base sb mb n : Nat) (s : St) (at_ : ByteArray → Nat) (lv : ByteArray → Value) (D : DataW Unit) (h : StAt w base sb mb n s at_ lv D) (hn : n < 1000000)
    (hl : ∀ k c, s k = some c → c.list.length < 50000) :
    Calls Tryz.prog 51 #[.pointer (some ⟨sb, 0, none⟩)] w (CellsPost s w) := by
  have q0 : w.cell? ⟨sb, 0, none⟩ = some (.map (some mb)) := cell_blk h.blk rfl
  obtain ⟨i0, hi0, hi1, hi2, hi3⟩ := info_parts info_Cel
  go_enter Tryz.func51, Tryz.ntmps51
  go_wp2_with (first | (at_range; refine wpList_range_own _ rfl _ 122 rfl 9 125 law Tryz.underlying122 ptrR mb n D rfl h.own ?_; intro w0 hrg0 hg0 hs0) | go_in)
  go_frame
  have hx0 : Ext w w0 := ⟨hg0.os, hg0.tape, hg0.output, hg0.size, fun k hk => hg0.block k hk (by simp)⟩
  go_loopw [3, 5, 6] (fun vo s5 s6 wr => ∃ left cnt ps, wr.ranges Tryz.prog 9 ptrR mb w.heap.size n D left cnt ∧ Ext w wr ∧ CelsAt wr w.heap.size vo ps ∧ Hid (Picked s left ps) ∧ Hid (∀ l, left l = true → Maps.has D l = true) ∧ ps.length + cnt ≤ n ∧ w0.heap.size ≤ wr.heap.size) (fun _ _ _ wr => wr.rangeLeft mb w.heap.size)
  case atStart =>
    refine ⟨_, _, [], hrg0, hx0, ⟨World.ownsRow_nil _ _ _ _, fun p hp => by cases hp⟩, Lib.hid ⟨fun c => ⟨fun hc => by simp at hc, fun ⟨h1, _, h3⟩ => ?_⟩, by simp⟩, Lib.hid fun l hl => hl, by have := hrg0.owns.size_le; simpa using this, Nat.le_refl _⟩
    have h4 := h.small _ _ h1
    rw [h.has _ (by unfold maxLen; omega), h1] at h3
    cases h3
  case round =>
    obtain ⟨left, cnt, ps, hrg, hxr, hcs, hpk, hlf, hcnt, hsz⟩ := hrel
    have hP := hpk.out
    have hrb : w.heap.size ≠ mb := by have := h.own.lt; omega
    go_wp2_with (first | (at_next; refine wpList_next_store rfl _ rfl rfl hrg h hlf.out ?_ ?_) | go_in)
    · intro hl0
      go_wp2_with fail
      have hmem : ∀ c, c ∈ ps.map Prod.fst ↔ (s c.key = some c ∧ c.some_ = true) := fun c => by rw [hP.mem c]; simp [hl0]
      have hnd := hP.nd
      rcases hcs.own.2 with ⟨hv, h0⟩ | ⟨g, cap, cur, hv, hbg, hgg, _⟩
      · have hps : ps = [] := List.eq_nil_of_length_eq_zero h0
        subst hps
        subst hv
        refine (AnyF.slices_SortFunc_none Tryz.sortCel none 0 _ wr).mono ?_
        rintro e w' ⟨rfl, rfl⟩
        go_wp2_with fail
        go_ret
        exact ⟨_, [], rfl, hcs, ⟨hmem, List.Pairwise.nil⟩, hxr⟩
      · subst hv
        have hgl := lt_blk hgg
        have hcon := AnyQ.slices_SortFunc Tryz.sortCel 5 Tryz.isAgg128 Tryz.sizeOf128 encC encC_len encC_one cmpC swoC 60 #[] g 0 cap ps.toArray wr
          (enters_of Tryz.func60 (by kernel_rfl) rfl) (fun _ _ _ _ p q => closC p q _) (own_holdsK encC_len hcs.own) hgl (by simp; omega)
        change Calls Tryz.prog 59 _ _ _ at hcon
        rw [show ps.toArray.size = ps.length from by simp] at hcon
        refine hcon.mono ?_
        rintro e w' ⟨rfl, d', q, os, hp, hs, rfl⟩
        have hsz' : d'.size = ps.length := by have := hp.1; simpa using this
        obtain ⟨hperm, hks⟩ := sorted_keys (d := ps.toArray) (by simpa using hp) (by simpa using hs) (by simpa using hnd)
        have hperm' : d'.toList.Perm ps := by simpa using hperm
        have hch := chg_sort (enc := encC) (k := 5) wr g q d' os
        have hrow := own_sort encC_len hcs.own q d' os hsz'
        have hxf : Ext w (sortWorldK encC 5 wr g 0 q d' os) := Chg.ext hxr hch (fun i hi => by have := hbg; omega)
        go_wp2_with fail
        go_ret
        refine ⟨_, d'.toList, rfl, ⟨by simpa [hsz'] using hrow, fun p hp => own_chg (hcs.rows p (hperm'.mem_iff.1 hp)) hch (fun k hk e => ?_)⟩, ⟨fun c => ?_, hks⟩, hxf⟩
        · exact own_two (hcs.rows p (hperm'.mem_iff.1 hp)) hcs.own (by decide) k hk (by rw [e]; rfl)
        · rw [← hmem c]; exact (hperm'.map Prod.fst).mem_iff
    · intro k c w1 cnt1 hsk hlk hrg1 hlt hg1 hs1 hen
      have hx1 : Ext w w1 := ⟨hg1.os.trans hxr.os, hg1.tape.trans hxr.tape, hg1.output.trans hxr.output, Nat.le_trans hxr.size hg1.size, fun i hi => (hg1.block i (Nat.lt_of_lt_of_le hi hxr.size) (by intro hh; cases hh; omega)).trans (hxr.block i hi)⟩
      obtain ⟨hck, hcb, hcblk, hcrow⟩ := h.cell _ _ hsk
      have hb1 : w1.heap[at_ k]? = some (.cells (celCells c (lv k)).toArray 128 (0, 0)) := by rw [hx1.block _ (lt_blk hcblk)]; exact hcblk
      obtain ⟨la, lc, hlv, hlc, hlrow, hlnil, hlb⟩ := own_row hcrow
      rw [hlv] at hb1
      have c0 : w1.cell? ⟨at_ k, 0, none⟩ = some (.string c.key) := cell_blk hb1 rfl
      have c1 : w1.cell? ⟨at_ k, 1, none⟩ = some (.bool c.has) := cell_blk hb1 rfl
      have c2 : w1.cell? ⟨at_ k, 2, none⟩ = some (.string c.text) := cell_blk hb1 rfl
      have c3 : w1.cell? ⟨at_ k, 3, none⟩ = some (.int .i64 c.sum) := cell_blk hb1 rfl
      have c4 : w1.cell? ⟨at_ k, 4, none⟩ = some (.slice la c.list.length lc) := cell_blk hb1 rfl
      go_upto_region 5 with (fail)
      go_cut [34] from 12 to 47 (fun s34 wc => s34 = .bool c.some_ ∧ w1 = wc)
      case first =>
        have hsome : c.some_ = (c.has || (c.sum != 0 || decide (0 < c.list.length))) := rfl
        rcases hh : c.has with _ | _
        · rw [hh] at c1 hsome
          by_cases hsum : c.sum = 0
          · have hsum2 : (c.sum != 0) = false := by simp [hsum]
            have HS := Lib.hid hsome
            clear hsome
            go_wp2_with fail
            go_meet
            case rel => exact ⟨by rw [HS.out, hsum2]; simp, rfl⟩
          · have hsum2 : (c.sum != 0) = true := by simp [hsum]
            have HS := Lib.hid hsome
            clear hsome
            go_wp2_with fail
            go_meet
            case rel => exact ⟨by rw [HS.out, hsum2]; simp, rfl⟩
        · rw [hh] at c1 hsome
          have HS := Lib.hid hsome
          clear hsome
          go_wp2_with fail
          go_meet
          case rel => exact ⟨by rw [HS.out]; simp, rfl⟩
      case rest =>
        obtain ⟨rfl, rfl⟩ := hcut
        have hks : k.size ≤ maxLen := by have := h.small _ _ hsk; unfold maxLen; omega
        have hlf1 : ∀ l, (left l && !l.sameKey (kl k)) = true → Maps.has D l = true := fun l hl => hlf.out l (by simp at hl; exact hl.1)
        have hcs1 := hcs.iter hrg hg1
        rcases hso : c.some_ with _ | _
        · have hpk1 := hP.skip hks hsk hso
          have HP := Lib.hid hpk1
          have HL := Lib.hid hlf1
          clear hpk1 hlf1 hP hpk hlf
          go_wp2_with fail
          refine ⟨⟨_, cnt1, ps, hrg1, hx1, hcs1, HP, HL, by omega, by omega⟩, by rw [hrg1.left_eq, hrg.left_eq]; exact hlt⟩
        · have HP := Lib.hid (fun v => hP.add hks hsk hck hso hlk v)
          have HL := Lib.hid hlf1
          have HK := Lib.hid hck
          have HS1 := Lib.hid hs1
          have HLV := Lib.hid hlv
          clear hlf1 hP hpk hlf hck hs1 hlv
          have c4' : ∀ o, (w1.alloc o).cell? ⟨at_ k, 4, none⟩ = some (.slice la c.list.length lc) := fun o => ((Ext.refl w1).alloc o).get c4
          go_wp2_with fail
          refine (CloneT_any c.list la lc _ (by have := hl _ _ hsk; omega) hlc ((hlrow.ext hx1).ext ((Ext.refl w1).alloc _)) (fun ha => slice_cap (by rw [← HLV.out]; exact hlnil ha))).mono ?_
          rintro e w3 ⟨x, rfl, hxo, hxn, hx3⟩
          obtain ⟨xa, xc, rfl, -, -, -, -⟩ := own_row hxo
          have hX3 : w3.heap[w1.heap.size]? = some (.cells (celCells c (.slice la c.list.length lc)).toArray 128 (0, 0)) := by rw [hx3.block _ (by simp)]; exact heap_alloc_new _ _
          have e0 : w3.cell? ⟨w1.heap.size, 0, none⟩ = some (.string c.key) := cell_blk hX3 rfl
          have e1 : w3.cell? ⟨w1.heap.size, 1, none⟩ = some (.bool c.has) := cell_blk hX3 rfl
          have e2 : w3.cell? ⟨w1.heap.size, 2, none⟩ = some (.string c.text) := cell_blk hX3 rfl
          have e3 : w3.cell? ⟨w1.heap.size, 3, none⟩ = some (.int .i64 c.sum) := cell_blk hX3 rfl
          have e4 : w3.cell? ⟨w1.heap.size, 4, none⟩ = some (.slice la c.list.length lc) := cell_blk hX3 rfl
          have f4 : w3.frozen? ⟨w1.heap.size, 4, none⟩ = false := free_blk hX3
          obtain ⟨oa, oc, rfl, -, -, -, -⟩ := own_row hcs1.own
          have hx13 : Ext w1 w3 := Ext.trans ((Ext.refl _).alloc _) hx3
          have hE : Ext w1 ((w3.setCell ⟨w1.heap.size, 4, none⟩ (.slice xa c.list.length xc)).alloc (.cells (celCells c (.slice xa c.list.length xc)).toArray 128)) :=
            (hx13.set (Nat.le_refl _) _).alloc _
          have hsz3 : (w3.setCell ⟨w1.heap.size, 4, none⟩ (.slice xa c.list.length xc)).heap.size = w3.heap.size := by simp [World.setCell]
          have hB : ((w3.setCell ⟨w1.heap.size, 4, none⟩ (.slice xa c.list.length xc)).alloc (.cells (celCells c (.slice xa c.list.length xc)).toArray 128)).heap[w3.heap.size]? = some (.cells (celCells c (.slice xa c.list.length xc)).toArray 128 (0, 0)) := blk_new _ _ _ hsz3.symm
          have hcs3 := hcs1.ext hE
          have hxo3 : ((w3.setCell ⟨w1.heap.size, 4, none⟩ (.slice xa c.list.length xc)).alloc (.cells (celCells c (.slice xa c.list.length xc)).toArray 128)).ownsRow w.heap.size 9 1 (.slice xa c.list.length xc) c.list.length (strs c.list) :=
            own_base (own_alloc (own_set hxo (own_ne hxo hX3 (by decide)) _) _) (by simp; have := hx1.size; omega)
          go_wp2_with (at_builtin; refine wpList_append_lies _ rfl _ _ _ rfl w.heap.size 128 i0 _ 5 72 Tryz.underlying57 hi0 hi1 hi2 hi3 rfl (by omega) (.slice oa ps.length oc) ps.length (fl encC ps) rfl hcs3.own ⟨w3.heap.size, 0, none⟩ 1 1 (celCells c (.slice xa c.list.length xc)) rfl rfl (World.news_of_block hB) (by simp [celCells, Value.oneCell']) (by omega) (by unfold maxLen; omega) (by omega) (Nat.le_trans hx1.size hE.size) _ rfl ?_; intro g cap w9 hown9 hgrow hat hlt9)
          have hrgW := hrg1.kept (hE.grownBy none) (by simp) (by simp)
          have hrg9 := hrgW.kept hgrow (fun e => own_not_map hcs3.own hrgW.owns e.symm) (fun e => own_not_iter hcs3.own hrgW _ e.symm rfl)
          refine ⟨⟨_, cnt1, _, hrg9, (hx1.trans hE).grown hgrow (fun k hk => own_ge hcs3.own k hk), hcs3.add (x := ⟨xa, c.list.length, xc⟩) hxo3 hown9 hgrow, Lib.hid (HP.out _), HL, by simp; omega, Nat.le_trans hsz (Nat.le_trans (Nat.le_of_eq HS1.out.symm) (Nat.le_trans hE.size hgrow.size))⟩, by rw [hrg9.left_eq, hrg.left_eq]; exact hlt⟩

end Go.Proofs.YtbahalckcenfmaaGreatDoor
