/-
  Several logs in memory, apart from each other; Local and Accept on one of them.
-/
import Derived.Test.YtbahalckcenfmaaGreatDoorLPl
import Derived.Test.YtbahalckcenfmaaGreatDoorOf
namespace Go.Proofs.YtbahalckcenfmaaGreatDoor
open Go.RowKit
set_option linter.unusedVariables false

/-- A log, and where it lies. -/
structure Lg where
  b : Nat
  hv : Value
  wv : Value
  L : LogS
def Lg.At (w : World) (g : Lg) : Prop := LogAt w g.b g.hv g.wv g.L
/-- Its blocks. -/
def Lg.own (g : Lg) (k : Nat) : Prop := k = g.b ∨ g.hv.ownBlock = some k ∨ g.wv.ownBlock = some k
theorem Lg.At.lt {w : World} {g : Lg} (h : g.At w) {k : Nat} (hk : g.own k) : k < w.heap.size := by
  rcases hk with rfl | hk | hk
  · exact lt_blk h.blk
  · exact own_lt h.hown k hk
  · exact own_lt h.wown k hk
theorem own_type {w : World} {base : Nat} {e : TypeId} {size : Nat} {v : Value} {n : Nat} {xs : List Value} (h : w.ownsRow base e size v n xs) {k : Nat} (hk : v.ownBlock = some k) : ∃ cs fr, w.heap[k]? = some (.cells cs e fr) := by
  rcases h.2 with ⟨hv, _⟩ | ⟨g, cap, cur, hv, _, hg, _⟩
  · rw [hv] at hk; cases hk
  · rw [hv] at hk
    obtain rfl : g = k := by simpa [Value.ownBlock] using hk
    exact ⟨_, _, hg⟩
theorem Lg.At.typ {w : World} {g : Lg} (h : g.At w) {k : Nat} (hk : g.own k) : ∃ cs e fr, w.heap[k]? = some (.cells cs e fr) ∧ (e = 68 ∨ e = 45 ∨ e = 33) := by
  rcases hk with rfl | hk | hk
  · exact ⟨_, _, _, h.blk, .inl rfl⟩
  · obtain ⟨cs, fr, hb⟩ := own_type h.hown hk
    exact ⟨_, _, _, hb, .inr (.inl rfl)⟩
  · obtain ⟨cs, fr, hb⟩ := own_type h.wown hk
    exact ⟨_, _, _, hb, .inr (.inr rfl)⟩
/-- A block of another type is none of a log's. -/
theorem Lg.At.far {w : World} {g : Lg} (h : g.At w) {k : Nat} {cs : Array Value} {e : TypeId} {fr : Nat × Nat} (hb : w.heap[k]? = some (.cells cs e fr)) (h1 : e ≠ 68) (h2 : e ≠ 45) (h3 : e ≠ 33) : ¬ g.own k := by
  intro hk
  obtain ⟨cs', e', fr', hb', he⟩ := h.typ hk
  rw [hb] at hb'
  simp at hb'
  obtain ⟨_, rfl, _⟩ := hb'
  rcases he with he | he | he
  · exact h1 he
  · exact h2 he
  · exact h3 he
theorem Lg.At.chg {S : Nat → Prop} {w w' : World} {g : Lg} (h : g.At w) (hx : Chg S w w') (hs : ∀ k, g.own k → ¬ S k) : g.At w' :=
  LogAt.chg h hx (hs _ (.inl rfl)) (fun k hk => hs k (.inr (.inl hk))) (fun k hk => hs k (.inr (.inr hk)))
theorem Lg.At.ext {w w' : World} {g : Lg} (h : g.At w) (hx : Ext w w') : g.At w' := LogAt.ext h hx

structure Lgs (w : World) (base : Nat) (gs : List Lg) : Prop where
  at_ : ∀ g ∈ gs, g.At w
  ge : ∀ g ∈ gs, ∀ k, g.own k → base ≤ k
  apart : gs.Pairwise fun g g' => ∀ k, g.own k → ¬ g'.own k
  ok : ∀ g ∈ gs, LOk g.L
theorem Lgs.nil (w : World) (base : Nat) : Lgs w base [] := ⟨fun g h => (by cases h), fun g h => (by cases h), List.Pairwise.nil, fun g h => (by cases h)⟩
theorem Lgs.ext {w w' : World} {base : Nat} {gs : List Lg} (h : Lgs w base gs) (hx : Ext w w') : Lgs w' base gs := ⟨fun g hg => (h.at_ g hg).ext hx, h.ge, h.apart, h.ok⟩
theorem Lgs.add {w w' : World} {base : Nat} {gs : List Lg} (h : Lgs w base gs) (hx : Ext w w') (hb : base ≤ w.heap.size) {g : Lg} (hg : g.At w') (hn : ∀ k, g.own k → w.heap.size ≤ k) (ho : LOk g.L) : Lgs w' base (gs ++ [g]) := by
  refine ⟨fun x hx' => ?_, fun x hx' k hk => ?_, List.pairwise_append.2 ⟨h.apart, by simp, fun a ha b hb' k hk hk' => ?_⟩, fun x hx' => ?_⟩
  · rcases List.mem_append.1 hx' with hx' | hx'
    · exact (h.at_ x hx').ext hx
    · obtain rfl : x = g := by simpa using hx'
      exact hg
  · rcases List.mem_append.1 hx' with hx' | hx'
    · exact h.ge x hx' k hk
    · obtain rfl : x = g := by simpa using hx'
      exact Nat.le_trans hb (hn k hk)
  · obtain rfl : b = g := by simpa using hb'
    have h1 := (h.at_ a ha).lt hk
    have h2 := hn k hk'
    omega
  · rcases List.mem_append.1 hx' with hx' | hx'
    · exact h.ok x hx'
    · obtain rfl : x = g := by simpa using hx'
      exact ho
theorem Lgs.apart_get {w : World} {base : Nat} {gs : List Lg} (h : Lgs w base gs) {i j : Nat} {g g' : Lg} (hi : gs[i]? = some g) (hj : gs[j]? = some g') (hne : i ≠ j) : ∀ k, g.own k → ¬ g'.own k := by
  obtain ⟨hi1, hi2⟩ := List.getElem?_eq_some_iff.1 hi
  obtain ⟨hj1, hj2⟩ := List.getElem?_eq_some_iff.1 hj
  have hp := List.pairwise_iff_getElem.1 h.apart
  rcases Nat.lt_or_gt_of_ne hne with hl | hl
  · have := hp i j hi1 hj1 hl
    rw [hi2, hj2] at this; exact this
  · have := hp j i hj1 hi1 hl
    rw [hi2, hj2] at this
    exact fun k hk hk' => this k hk' hk
/-- One log turned. -/
theorem Lgs.turn {w w' : World} {base : Nat} {gs : List Lg} (h : Lgs w base gs) {i : Nat} {g g' : Lg} (hi : gs[i]? = some g) (hx : Chg (fun k => g.own k) w w') (hg : g'.At w') (hn : ∀ k, g'.own k → g.own k ∨ w.heap.size ≤ k) (ho : LOk g'.L) :
    Lgs w' base (gs.set i g') := by
  have hmem : g ∈ gs := List.mem_of_getElem? hi
  have hb : base ≤ w.heap.size := Nat.le_trans (h.ge g hmem g.b (.inl rfl)) (Nat.le_of_lt ((h.at_ g hmem).lt (.inl rfl)))
  have hset : ∀ x ∈ gs.set i g', x = g' ∨ ∃ j, j ≠ i ∧ gs[j]? = some x := fun x hx' => by
    obtain ⟨j, hj⟩ := List.getElem?_of_mem hx'
    by_cases hji : j = i
    · subst hji
      rw [List.getElem?_set_self (by have := (List.getElem?_eq_some_iff.1 hi).1; omega)] at hj
      exact .inl (by cases hj; rfl)
    · rw [List.getElem?_set_ne (Ne.symm hji)] at hj
      exact .inr ⟨j, hji, hj⟩
  have hfar : ∀ j x, j ≠ i → gs[j]? = some x → ∀ k, g'.own k → ¬ x.own k := fun j x hji hj k hk hk' => by
    rcases hn k hk with h1 | h1
    · exact h.apart_get hi hj (Ne.symm hji) k h1 hk'
    · have := (h.at_ x (List.mem_of_getElem? hj)).lt hk'
      omega
  refine ⟨fun x hx' => ?_, fun x hx' k hk => ?_, List.pairwise_iff_getElem.2 fun a b ha hb' hab => ?_, fun x hx' => ?_⟩
  · rcases hset x hx' with rfl | ⟨j, hji, hj⟩
    · exact hg
    · exact (h.at_ x (List.mem_of_getElem? hj)).chg hx (fun k hk hk' => h.apart_get hi hj (Ne.symm hji) k hk' hk)
  · rcases hset x hx' with rfl | ⟨j, hji, hj⟩
    · rcases hn k hk with h1 | h1
      · exact h.ge g hmem k h1
      · omega
    · exact h.ge x (List.mem_of_getElem? hj) k hk
  · rw [List.length_set] at ha hb'
    rw [List.getElem_set, List.getElem_set]
    by_cases hai : i = a
    · rw [if_pos hai, if_neg (by omega)]
      exact hfar b _ (by omega) (List.getElem?_eq_getElem hb')
    · rw [if_neg hai]
      by_cases hbi : i = b
      · rw [if_pos hbi]
        exact fun k hk hk' => hfar a _ (by omega) (List.getElem?_eq_getElem ha) k hk' hk
      · rw [if_neg hbi]
        exact List.pairwise_iff_getElem.1 h.apart a b ha hb' hab
  · rcases hset x hx' with rfl | ⟨j, hji, hj⟩
    · exact ho
    · exact h.ok x (List.mem_of_getElem? hj)

/-- What Local does to one of several logs. -/
def LocalLPost (base : Nat) (gs : List Lg) (i : Nat) (g : Lg) (x : Wr) (w : World) (e : Ending) (w' : World) : Prop :=
  (∀ er, logLocal g.L x = .inl er → er ≠ .nil ∧ Ext w w' ∧ ∃ v, e = .returned (.tuple #[.agg #[.int .i64 0, .int .i64 0], v]) ∧ IsEr w' v er) ∧
  (∀ L', logLocal g.L x = .inr L' → e = .returned (.tuple #[.agg #[.int .i64 (lMax g.L.hav + 1), .int .i64 g.L.rep], .nilIface]) ∧ Chg (fun k => g.own k) w w' ∧
    ∃ g', g'.b = g.b ∧ g'.L = L' ∧ Lgs w' base (gs.set i g'))
theorem Local_lgs {w : World} {base : Nat} {gs : List Lg} (h : Lgs w base gs) {i : Nat} {g : Lg} (hi : gs[i]? = some g) (hg : Good w) (x : Wr) (hf : wFits x) :
    Calls Tryz.prog 22 #[.pointer (some ⟨g.b, 0, none⟩), wVal x] w (LocalLPost base gs i g x w) := by
  have hm := List.mem_of_getElem? hi
  have ho := h.ok g hm
  have hat := h.at_ g hm
  refine (Local_any g.b g.hv g.wv g.L x w hg hat (by have := ho.hlen; omega) (by have := ho.len; omega) hf ho.rep0 ho.rep1 ho.times).mono ?_
  rintro e w' ⟨h1, h2⟩
  refine ⟨h1, fun L' hL' => ?_⟩
  obtain ⟨he, hc, hv', wv', hat', hn1, hn2⟩ := h2 L' hL'
  have hc' : Chg (fun k => g.own k) w w' := hc.mono fun k _ hk => by
    rcases hk with hk | hk
    · exact .inl hk
    · exact .inr (.inr hk)
  refine ⟨he, hc', ⟨g.b, hv', wv', L'⟩, rfl, rfl, h.turn hi hc' hat' (fun k hk => ?_) (ho.local hL')⟩
  rcases hk with hk | hk | hk
  · exact .inl (.inl hk)
  · exact .inr (hn1 k hk)
  · exact (hn2 k hk).imp (fun hk => .inr (.inr hk)) id

/-- What Accept does to one of several logs. -/
def AccLPost (base : Nat) (gs : List Lg) (i : Nat) (g : Lg) (f hh : List Ent) (ws : List Wr) (w : World) (e : Ending) (w' : World) : Prop :=
  (∀ er, logAccept g.L f hh ws = .inl er → er ≠ .nil ∧ Ext w w' ∧ ∃ v, e = .returned (.tuple #[.int .i64 0, v]) ∧ IsEr w' v er) ∧
  (∀ m L', logAccept g.L f hh ws = .inr (m, L') → e = .returned (.tuple #[.int .i64 m, .nilIface]) ∧ Chg (fun k => g.own k) w w' ∧
    ∃ g', g'.b = g.b ∧ g'.L = L' ∧ Lgs w' base (gs.set i g'))
theorem Accept_lgs {w : World} {base : Nat} {gs : List Lg} (h : Lgs w base gs) {i : Nat} {g : Lg} (hi : gs[i]? = some g) (hg : Good w) (f hh : List Ent) (ws : List Wr) (af ah aw : Option Addr) (cf ch cw : Nat)
    (hf : f.length < 9223372036854775808) (hhl : hh.length < 9223372036854775808) (hw : ws.length < 9223372036854775808) (hcf : f.length ≤ cf) (hch : hh.length ≤ ch)
    (hsf : EntsAt w af f) (hsh : EntsAt w ah hh) (hsw : WrsAt w aw ws) (hfit : ∀ x ∈ ws, wFits x) :
    Calls Tryz.prog 13 #[.pointer (some ⟨g.b, 0, none⟩), .agg #[.slice af f.length cf, .slice ah hh.length ch, .slice aw ws.length cw]] w (AccLPost base gs i g f hh ws w) := by
  have hm := List.mem_of_getElem? hi
  have ho := h.ok g hm
  have hat := h.at_ g hm
  refine (Accept_any g.b g.hv g.wv g.L f hh ws af ah aw cf ch cw w hg hat (by have := ho.hlen; omega) (by have := ho.len; omega) ho.srt hf hhl hw hcf hch hsf hsh hsw hfit).mono ?_
  rintro e w' ⟨h1, h2⟩
  refine ⟨h1, fun m L' hL' => ?_⟩
  obtain ⟨he, hc, hv', wv', hat', hn1, hn2⟩ := h2 m L' hL'
  have hc' : Chg (fun k => g.own k) w w' := hc.mono fun k _ hk => .inl hk
  refine ⟨he, hc', ⟨g.b, hv', wv', L'⟩, rfl, rfl, h.turn hi hc' hat' (fun k hk => ?_) (ho.accept hL')⟩
  rcases hk with hk | hk | hk
  · exact .inl (.inl hk)
  · exact .inr (hn1 k hk)
  · exact .inr (hn2 k hk)
theorem New_lgs (r : Int) (w : World) (h0 : 0 ≤ r) (h1 : r ≤ 200) {base : Nat} {gs : List Lg} (h : Lgs w base gs) (hb : base ≤ w.heap.size) :
    Calls Tryz.prog 12 #[.int .i64 r] w fun e w' => e = .returned (.tuple #[.pointer (some ⟨w.heap.size, 0, none⟩), .nilIface]) ∧ Ext w w' ∧ Lgs w' base (gs ++ [⟨w.heap.size, .slice none 0 0, .slice none 0 0, ⟨r, [], []⟩⟩]) := by
  refine (New_any r w h0 h1).mono ?_
  rintro e w' ⟨he, hat, hx⟩
  refine ⟨he, hx, h.add hx hb hat (fun k hk => ?_) (LOk.new h0 h1)⟩
  rcases hk with rfl | hk | hk
  · exact Nat.le_refl _
  · cases hk
  · cases hk
theorem Lg.Chg_good {w w' : World} {g : Lg} {base : Nat} (hx : Chg (fun k => g.own k) w w') (hg : Good w) (hge : ∀ k, g.own k → base ≤ k) (hb : 0 < base) : Good w' :=
  hx.good hg fun hk => by have := hge _ hk; omega

end Go.Proofs.YtbahalckcenfmaaGreatDoor
