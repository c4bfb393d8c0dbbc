/- Lemmas on memory: what a call leaves as it was ('Kp fs w w'': all blocks of w but those named in fs are as they were), rows of cells, owned rows. No condition beyond the hypotheses. -/
import Derived.WalkKit
import Derived.Deep.QuietTactic
import Derived.Below
import Derived.Laws.AppendOwn
import Derived.Laws.OwnMore
import Derived.OneCell
namespace Go.Proofs.Ytkooogllajmkeaa
open Go.RowKit

/-- All blocks of w but those in fs are as they were in w'. -/
structure Kp (fs : List Nat) (w w' : World) : Prop where
  os : w'.os = w.os
  tape : w'.tape = w.tape
  output : w'.output = w.output
  size : w.heap.size ≤ w'.heap.size
  block : ∀ k, k < w.heap.size → k ∉ fs → w'.heap[k]? = w.heap[k]?

theorem Kp.refl (fs : List Nat) (w : World) : Kp fs w w := ⟨rfl, rfl, rfl, Nat.le_refl _, fun _ _ _ => rfl⟩
theorem Kp.of_below {w w' : World} (h : Below w.heap.size w w') (fs : List Nat) : Kp fs w w' := ⟨h.os, h.tape, h.output, h.size, fun k hk _ => h.block k hk⟩
theorem Kp.below {w w' : World} (h : Kp [] w w') : Below w.heap.size w w' := ⟨h.os, h.tape, h.output, h.size, fun k hk => h.block k hk (by simp)⟩
theorem Kp.mono {fs gs : List Nat} {w w' : World} (h : Kp fs w w') (hs : ∀ x ∈ fs, x ∈ gs) : Kp gs w w' :=
  ⟨h.os, h.tape, h.output, h.size, fun k hk hn => h.block k hk (fun e => hn (hs k e))⟩
theorem Kp.trans {fs gs : List Nat} {a b c : World} (h : Kp fs a b) (k : Kp gs b c) (hs : ∀ x ∈ gs, x ∈ fs ∨ a.heap.size ≤ x) : Kp fs a c :=
  ⟨k.os.trans h.os, k.tape.trans h.tape, k.output.trans h.output, Nat.le_trans h.size k.size, fun i hi hn =>
    (k.block i (Nat.lt_of_lt_of_le hi h.size) (fun e => (hs i e).elim hn (fun q => by omega))).trans (h.block i hi hn)⟩
theorem Kp.trans' {fs : List Nat} {a b c : World} (h : Kp fs a b) (k : Kp fs b c) : Kp fs a c := h.trans k (fun _ hx => .inl hx)
theorem Kp.drew {fs : List Nat} {a w : World} (h : Kp fs a w) : Kp fs a w.drew := ⟨h.os, h.tape, h.output, h.size, h.block⟩
theorem Kp.alloc {fs : List Nat} {a w : World} (h : Kp fs a w) (o : Obj) : Kp fs a (w.alloc o) :=
  ⟨h.os, h.tape, h.output, by have := h.size; simp; omega, fun k hk hn => by
    rw [Below.heap_alloc _ _ _ (Nat.lt_of_lt_of_le hk h.size)]; exact h.block k hk hn⟩
theorem Kp.setCell {fs : List Nat} {a w : World} (h : Kp fs a w) {p : Addr} (hp : p.block ∈ fs ∨ a.heap.size ≤ p.block) (u : Value) : Kp fs a (w.setCell p u) :=
  ⟨h.os, h.tape, h.output, by have := h.size; simpa [World.setCell] using this, fun k hk hn => by
    rw [Below.heap_setCell _ _ _ _ (by rintro rfl; exact hp.elim hn (by omega))]; exact h.block k hk hn⟩
theorem Kp.grown {fs : List Nat} {a w w' : World} {row : Option Nat} (h : Kp fs a w) (hg : w.grownBy w' row) (hr : ∀ k, row = some k → k ∈ fs ∨ a.heap.size ≤ k) : Kp fs a w' :=
  ⟨hg.os.trans h.os, hg.tape.trans h.tape, hg.output.trans h.output, Nat.le_trans h.size hg.size, fun k hk hn =>
    (hg.block k (Nat.lt_of_lt_of_le hk h.size) (fun e => (hr k e.symm).elim hn (by omega))).trans (h.block k hk hn)⟩
theorem Kp.setRow {fs : List Nat} {a w : World} (h : Kp fs a w) {g : Nat} (cs : Array Value) (hp : g ∈ fs ∨ a.heap.size ≤ g) : Kp fs a (w.setRow g cs) :=
  ⟨h.os, h.tape, h.output, by have := h.size; simpa [World.setRow] using this, fun k hk hn => by
    rw [setRow_other w g k cs (by rintro rfl; exact hp.elim hn (by omega))]; exact h.block k hk hn⟩
theorem Kp.at {fs : List Nat} {w w' : World} (h : Kp fs w w') {b : Nat} {o : Obj} (ho : w.heap[b]? = some o) (hn : b ∉ fs) : w'.heap[b]? = some o :=
  (h.block b (Array.getElem?_eq_some_iff.1 ho).1 hn).trans ho
theorem Kp.row {fs : List Nat} {w w' : World} (h : Kp fs w w') {base : Nat} {e : TypeId} {size : Nat} {v : Value} {n : Nat} {xs : List Value} (ho : w.ownsRow base e size v n xs)
    (hn : ∀ g, v.ownBlock = some g → g ∉ fs) : w'.ownsRow base e size v n xs := by
  refine ⟨ho.1, ?_⟩
  rcases ho.2 with q | ⟨g, cap, cur, rfl, hb, hg, rest⟩
  · exact .inl q
  · exact .inr ⟨g, cap, cur, rfl, hb, h.at hg (hn g rfl), rest⟩

/-- hide a fact from the walk -/
theorem Hid.mk {p : Prop} (h : p) : Hid p := h

theorem below_at {B : Nat} {w w' : World} (h : Below B w w') {b : Nat} {o : Obj} (ho : w.heap[b]? = some o) (hb : b < B) : w'.heap[b]? = some o := (h.block b hb).trans ho
theorem lt_of_heap {w : World} {b : Nat} {o : Obj} (h : w.heap[b]? = some o) : b < w.heap.size := (Array.getElem?_eq_some_iff.1 h).1

/-- A row's cell. -/
theorem row_cell {w : World} {base : Nat} {e : TypeId} {size : Nat} {g n cap : Nat} {xs : List Value} (h : w.ownsRow base e size (.slice (some ⟨g, 0, none⟩) n cap) n xs) {j : Nat} {v : Value} (hv : xs[j]? = some v) : w.cell? ⟨g, j, none⟩ = some v := by
  have hj : j < n * size := by rw [← h.1]; exact (List.getElem?_eq_some_iff.1 hv).1
  rw [h.cellAt j hj, hv]
theorem row_free {w : World} {base : Nat} {e : TypeId} {size : Nat} {g n cap : Nat} {xs : List Value} (h : w.ownsRow base e size (.slice (some ⟨g, 0, none⟩) n cap) n xs) (j : Nat) : w.frozen? ⟨g, j, none⟩ = false := h.frozenAt j

theorem cell_alloc {w : World} {o : Obj} {a : Addr} (h : a.block < w.heap.size) : (w.alloc o).cell? a = w.cell? a := World.cell?_of_block (w := w) (Below.heap_alloc _ _ _ h)
theorem add_block (a : Addr) (j : Nat) : (a.add j).block = a.block := by unfold Addr.add; split <;> rfl
theorem row_shape {w : World} {base : Nat} {e : TypeId} {size : Nat} {v : Value} {n : Nat} {xs : List Value} (h : w.ownsRow base e size v n xs) (h1 : 1 ≤ n) : ∃ g c, v = .slice (some ⟨g, 0, none⟩) n c := by
  rcases h.2 with ⟨_, q⟩ | ⟨g, c, _, q, _⟩
  · omega
  · exact ⟨g, c, q⟩
theorem below_drewN {B : Nat} {a w : World} (h : Below B a w) (n : Nat) : Below B a (w.drewN n) := ⟨h.os, h.tape, h.output, h.size, h.block⟩
theorem Kp.drewN {fs : List Nat} {a w : World} (h : Kp fs a w) (n : Nat) : Kp fs a (w.drewN n) := ⟨h.os, h.tape, h.output, h.size, h.block⟩
/-- what was made behind w is no concern of w -/
theorem below_of_alloc {w w' : World} {o : Obj} (h : Below (w.heap.size + 1) (w.alloc o) w') : Below w.heap.size w w' := ((Below.refl _ _).alloc (Nat.le_refl _) _).trans (h.mono (by omega))
end Go.Proofs.Ytkooogllajmkeaa
