/-
  The words in which this seat's contracts speak: entries, writes, errors; how a slice of them reads in memory.
-/
import Derived.Test.YtbahalckcenfmaaGreatDoorProg
import Derived.WalkKit
import Derived.WalkSpells
import Derived.WalkLawsBesides
import Derived.Deep.QuietTactic
import Derived.BigQuiet
import Derived.Lib.Hide
import Derived.Deep.LoopGhost
import Derived.Deep.Cut
namespace Go.Proofs.YtbahalckcenfmaaGreatDoor
open Go.RowKit

/-- An entry of a vector. -/
structure Ent where
  r : Int
  t : Int
deriving DecidableEq

/-- A write. -/
structure Wr where
  t : Int
  r : Int
  kind : Int
  key : ByteArray
  val : ByteArray
  n : Int
deriving DecidableEq

/-- An error: none, a bare number, or a number with its place. -/
inductive Er where
  | nil
  | no (k : Int)
  | plc (k p : Int)
deriving DecidableEq

def Er.tell : Er → Int
  | .nil => 0
  | .no k => k
  | .plc k _ => k

/-- The value v is that error in w. -/
def IsEr (w : World) (v : Value) : Er → Prop
  | .nil => v = .nilIface
  | .no k => v = .iface 50 (.int .i64 k)
  | .plc k p => ∃ b, v = .iface 73 (.pointer (some ⟨b, 0, none⟩)) ∧ b < w.heap.size ∧ w.cell? ⟨b, 0, none⟩ = some (.int .i64 k) ∧ w.cell? ⟨b, 1, none⟩ = some (.int .i64 p)

/-- The library's variable errors.errorType holds the handle of the type 'error'. -/
def Good (w : World) : Prop := w.cell? ⟨0, 0, none⟩ = some (.iface 109 (.agg #[.pointer (some ⟨2, 37, none⟩)]))

theorem lt_of_cell {w : World} {a : Addr} {v : Value} (h : w.cell? a = some v) : a.block < w.heap.size := by
  rcases Nat.lt_or_ge a.block w.heap.size with h' | h'
  · exact h'
  · simp [World.cell?, Array.getElem?_eq_none h'] at h

theorem Good.below {w w' : World} (h : Good w) (hb : Below w.heap.size w w') : Good w' := by
  unfold Good at *
  rw [hb.cell (p := ⟨0, 0, none⟩) (lt_of_cell h)]; exact h

theorem IsEr.below {w w' : World} {v : Value} {e : Er} (h : IsEr w v e) (hb : Below w.heap.size w w') : IsEr w' v e := by
  cases e with
  | nil => exact h
  | no k => exact h
  | plc k p =>
    obtain ⟨b, rfl, hlt, h0, h1⟩ := h
    exact ⟨b, rfl, Nat.lt_of_lt_of_le hlt hb.size, (hb.cell (p := ⟨b, 0, none⟩) hlt).trans h0, (hb.cell (p := ⟨b, 1, none⟩) hlt).trans h1⟩

theorem IsEr.iface {w : World} {v : Value} {e : Er} (h : IsEr w v e) (hn : e ≠ .nil) : ∃ t x, v = .iface t x := by
  cases e with
  | nil => exact absurd rfl hn
  | no k => exact ⟨_, _, h⟩
  | plc k p => obtain ⟨b, rfl, _⟩ := h; exact ⟨_, _, rfl⟩

theorem ret_v {v v' : Value} (h : v = v') : Ending.returned v = .returned v' := by rw [h]
theorem ret_int {k : IntKind} {a b : Int} (h : a = b) : Ending.returned (.int k a) = .returned (.int k b) := by rw [h]
theorem ret_bool {a b : Bool} (h : a = b) : Ending.returned (.bool a) = .returned (.bool b) := by rw [h]

/-- The slice at a reads as these entries. -/
def EntsAt (w : World) (a : Option Addr) (l : List Ent) : Prop :=
  l = [] ∨ ∃ b off, a = some ⟨b, off, none⟩ ∧ b < w.heap.size ∧ ∀ k (h : k < l.length), w.cell? ⟨b, off + k * 2, none⟩ = some (.int .i64 (l[k].r)) ∧ w.cell? ⟨b, off + k * 2 + 1, none⟩ = some (.int .i64 (l[k].t))

theorem EntsAt.below {w w' : World} {a : Option Addr} {l : List Ent} (h : EntsAt w a l) (hb : Below w.heap.size w w') : EntsAt w' a l := by
  rcases h with h | ⟨b, off, rfl, hlt, hc⟩
  · exact .inl h
  · exact .inr ⟨b, off, rfl, Nat.lt_of_lt_of_le hlt hb.size, fun k hk => ⟨(hb.cell (p := ⟨b, off + k * 2, none⟩) hlt).trans (hc k hk).1, (hb.cell (p := ⟨b, off + k * 2 + 1, none⟩) hlt).trans (hc k hk).2⟩⟩

/-- Nothing that was there has changed. -/
def Ext (w w' : World) : Prop := Below w.heap.size w w'
theorem Ext.refl (w : World) : Ext w w := Below.refl _ _
theorem Ext.below {w w' : World} (h : Ext w w') : Below w.heap.size w w' := h
theorem Ext.size {w w' : World} (h : Ext w w') : w.heap.size ≤ w'.heap.size := Below.size h
theorem Ext.trans {a b c : World} (h : Ext a b) (k : Ext b c) : Ext a c := Below.trans h (Below.mono k h.size)
theorem Ext.alloc {a w : World} (h : Ext a w) (o : Obj) : Ext a (w.alloc o) := Below.alloc h h.size o
theorem Ext.drew {a w : World} (h : Ext a w) : Ext a w.drew := Below.drew h
theorem Ext.drewN {a w : World} (h : Ext a w) (n : Nat) : Ext a (w.drewN n) := ⟨h.os, h.tape, h.output, h.size, h.block⟩
theorem Ext.set {a w : World} (h : Ext a w) {p : Addr} (hp : a.heap.size ≤ p.block) (u : Value) : Ext a (w.setCell p u) := Below.setCell h hp u
theorem Ext.cell {w w' : World} (h : Ext w w') {p : Addr} (hp : p.block < w.heap.size) : w'.cell? p = w.cell? p := Below.cell h hp
theorem Ext.frozen {w w' : World} (h : Ext w w') {p : Addr} (hp : p.block < w.heap.size) : w'.frozen? p = w.frozen? p := Below.frozen h hp
theorem Good.ext {w w' : World} (h : Good w) (hb : Ext w w') : Good w' := h.below hb
theorem IsEr.ext {w w' : World} {v : Value} {e : Er} (h : IsEr w v e) (hb : Ext w w') : IsEr w' v e := h.below hb
theorem EntsAt.ext {w w' : World} {a : Option Addr} {l : List Ent} (h : EntsAt w a l) (hb : Ext w w') : EntsAt w' a l := h.below hb

/-- A new error with a place. -/
theorem er_new (W : World) (k p : Int) (b : Nat) (hb : b = W.heap.size) : IsEr (W.alloc (.cells #[.int .i64 k, .int .i64 p] 75)) (.iface 73 (.pointer (some ⟨b, 0, none⟩))) (.plc k p) := by
  subst hb; exact ⟨_, rfl, by simp, by simp, by simp⟩

theorem info_Ent : (Tryz.prog.info? 45).map (fun i => (i.zero, i.size, i.bytes)) = some (some (.agg #[.int .i64 0, .int .i64 0]), 2, 16) := by kernel_rfl
theorem info_Wr : (Tryz.prog.info? 33).map (fun i => (i.zero, i.size, i.bytes)) = some (some (.agg #[.int .i64 0, .int .i64 0, .int .i64 0, .string ⟨#[]⟩, .string ⟨#[]⟩, .int .i64 0]), 6, 64) := by kernel_rfl

/-- A cell of the newest block. -/
theorem cell_new (w : World) (cs : Array Value) (t : TypeId) (n i : Nat) (v : Value) (h : n = w.heap.size) (hv : cs[i]? = some v) : (w.alloc (.cells cs t)).cell? ⟨n, i, none⟩ = some v := by
  rw [World.cell?_alloc_at _ _ _ _ (by simpa using h)]; exact hv
theorem cell_new_drew (w : World) (cs : Array Value) (t : TypeId) (n i : Nat) (v : Value) (h : n = w.heap.size) (hv : cs[i]? = some v) : (w.alloc (.cells cs t)).drew.cell? ⟨n, i, none⟩ = some v :=
  cell_new w cs t n i v h hv

/-- A cell that was there holds what it held. -/
theorem Ext.get {w w' : World} (h : Ext w w') {p : Addr} {v : Value} (hc : w.cell? p = some v) : w'.cell? p = some v := (h.cell (lt_of_cell hc)).trans hc

theorem Ext.free {w w' : World} (h : Ext w w') {p : Addr} {v : Value} (hc : w.cell? p = some v) (hf : w.frozen? p = false) : w'.frozen? p = false := (h.frozen (lt_of_cell hc)).trans hf

theorem blk_new (W : World) (o : Obj) (n : Nat) (h : n = W.heap.size) : (W.alloc o).heap[n]? = some o := by
  subst h; exact heap_alloc_new _ _
theorem blk_new_drew (W : World) (o : Obj) (n : Nat) (h : n = W.heap.size) : (W.alloc o).drew.heap[n]? = some o := blk_new W o n h

end Go.Proofs.YtbahalckcenfmaaGreatDoor
