/- The laws' operations: a slice of structs of six numbers, as it comes in. -/
import Derived.Test.YtkooogllajmkeaaSa
import Derived.Deep.Slices
import Derived.OpenShut
import Derived.ProofKit
namespace Go.Proofs.Ytkooogllajmkeaa
open Go.ChangeShapes Go.WideShapes Go.RowKit Go.Deep
theorem Try.cells31 : Try.prog.cellsOf 31 = 6 := by kernel_rfl
theorem Try.cells29 : Try.prog.cellsOf 29 = 2 := by kernel_rfl
theorem Try.cells3 : Try.prog.cellsOf 3 = 1 := by kernel_rfl
theorem Try.cells2 : Try.prog.cellsOf 2 = 1 := by kernel_rfl

/-- one operation -/
structure Opr where
  k : Int
  n : Int
  a : Int
  b : Int
  t : Int
  v : Int
def In64 (x : Int) : Prop := -9223372036854775808 ≤ x ∧ x ≤ 9223372036854775807
def OprOk (o : Opr) : Prop := In64 o.k ∧ In64 o.n ∧ In64 o.a ∧ In64 o.b ∧ In64 o.t ∧ In64 o.v
def Opr0 : Opr := ⟨0, 0, 0, 0, 0, 0⟩
instance : Inhabited Opr := ⟨Opr0⟩
def OprAt (w : World) (b o : Nat) (x : Opr) : Prop :=
  w.cell? ⟨b, o, none⟩ = some (.int .i64 x.k) ∧ w.cell? ⟨b, o + 1, none⟩ = some (.int .i64 x.n) ∧ w.cell? ⟨b, o + 2, none⟩ = some (.int .i64 x.a) ∧
    w.cell? ⟨b, o + 3, none⟩ = some (.int .i64 x.b) ∧ w.cell? ⟨b, o + 4, none⟩ = some (.int .i64 x.t) ∧ w.cell? ⟨b, o + 5, none⟩ = some (.int .i64 x.v)
/-- a slice of operations reads as os -/
def OpsAt (w : World) (v : Value) (os : List Opr) : Prop :=
  (∃ ao c, v = .slice ao os.length c) ∧ os.length ≤ maxLen ∧ (∀ x ∈ os, OprOk x) ∧ (0 < os.length → ∃ b o c, v = .slice (some ⟨b, o, none⟩) os.length c ∧ b < w.heap.size ∧
    ∀ i (hi : i < os.length), OprAt w b (o + i * 6) os[i])
theorem OprAt.below {w w' : World} {b o : Nat} {x : Opr} (h : OprAt w b o x) (k : Below w.heap.size w w') (hb : b < w.heap.size) : OprAt w' b o x := by
  obtain ⟨h0, h1, h2, h3, h4, h5⟩ := h
  exact ⟨(k.cell (p := ⟨b, _, none⟩) hb).trans h0, (k.cell (p := ⟨b, _, none⟩) hb).trans h1, (k.cell (p := ⟨b, _, none⟩) hb).trans h2, (k.cell (p := ⟨b, _, none⟩) hb).trans h3, (k.cell (p := ⟨b, _, none⟩) hb).trans h4, (k.cell (p := ⟨b, _, none⟩) hb).trans h5⟩
theorem OpsAt.below {w w' : World} {v : Value} {os : List Opr} (h : OpsAt w v os) (k : Below w.heap.size w w') : OpsAt w' v os := by
  obtain ⟨h1, h0, h2, h3⟩ := h
  refine ⟨h1, h0, h2, fun hp => ?_⟩
  obtain ⟨b, o, c, e, hb, hc⟩ := h3 hp
  exact ⟨b, o, c, e, Nat.lt_of_lt_of_le hb k.size, fun i hi => (hc i hi).below k hb⟩
theorem cell_lt {w : World} {a : Addr} {v : Value} (h : w.cell? a = some v) : a.block < w.heap.size := by
  unfold World.cell? at h
  rcases Nat.lt_or_ge a.block w.heap.size with h' | h'
  · exact h'
  · rw [Array.getElem?_eq_none h'] at h
    cases h
theorem in64_of_wf {n : Int} (h : (Lit.int .i64 n).wf = true) : In64 n := bounds_i64 h

set_option maxRecDepth 100000 in
theorem open_op {H : Type} {enc : TypeId × Value → H} {w : World} {base fuel : Nat} {spare : Nat → Bool} {held : Bool} {cs : List Value} {x : DataW H × List MemPlace}
    (h : DataW.trod enc Try.prog w base spare held fuel 31 cs = some x) (hl : cs.length = 6) :
    ∃ y : Opr, OprOk y ∧ cs = [.int .i64 y.k, .int .i64 y.n, .int .i64 y.a, .int .i64 y.b, .int .i64 y.t, .int .i64 y.v] := by
  obtain ⟨xs, n, _, _, _, hlen, hf⟩ := DataW.trod_struct Try.underlying31 h
  match cs, hl with
  | [v0, v1, v2, v3, v4, v5], _ =>
  match xs, hlen with
  | [y0, y1, y2, y3, y4], _ =>
  have f0 : DataW.trod enc Try.prog w base spare held n 3 (([v0, v1, v2, v3, v4, v5].drop 0).take (Try.prog.cellsOf 3)) = some y0 := hf 0 _ rfl
  have f1 : DataW.trod enc Try.prog w base spare held n 3 (([v0, v1, v2, v3, v4, v5].drop 1).take (Try.prog.cellsOf 3)) = some y1 := hf 1 _ rfl
  have f2 : DataW.trod enc Try.prog w base spare held n 2 (([v0, v1, v2, v3, v4, v5].drop 2).take (Try.prog.cellsOf 2)) = some y2 := hf 2 _ rfl
  have f3 : DataW.trod enc Try.prog w base spare held n 2 (([v0, v1, v2, v3, v4, v5].drop 3).take (Try.prog.cellsOf 2)) = some y3 := hf 3 _ rfl
  have f4 : DataW.trod enc Try.prog w base spare held n 29 (([v0, v1, v2, v3, v4, v5].drop 4).take (Try.prog.cellsOf 29)) = some y4 := hf 4 _ rfl
  rw [Try.cells3] at f0 f1
  rw [Try.cells2] at f2 f3
  rw [Try.cells29] at f4
  simp only [List.drop, List.take] at f0 f1 f2 f3 f4
  obtain ⟨k, e0, _, b0⟩ := DataW.trod_int Try.underlying3 f0
  obtain ⟨m, e1, _, b1⟩ := DataW.trod_int Try.underlying3 f1
  obtain ⟨a, e2, _, b2⟩ := DataW.trod_int Try.underlying2 f2
  obtain ⟨b, e3, _, b3⟩ := DataW.trod_int Try.underlying2 f3
  obtain ⟨zs, n', _, _, _, hlen', hf'⟩ := DataW.trod_struct Try.underlying29 f4
  match zs, hlen' with
  | [z0, z1], _ =>
  have g0 : DataW.trod enc Try.prog w base spare held n' 3 (([v4, v5].drop 0).take (Try.prog.cellsOf 3)) = some z0 := hf' 0 _ rfl
  have g1 : DataW.trod enc Try.prog w base spare held n' 2 (([v4, v5].drop 1).take (Try.prog.cellsOf 2)) = some z1 := hf' 1 _ rfl
  rw [Try.cells3] at g0
  rw [Try.cells2] at g1
  simp only [List.drop, List.take] at g0 g1
  obtain ⟨t, e4, _, b4⟩ := DataW.trod_int Try.underlying3 g0
  obtain ⟨v, e5, _, b5⟩ := DataW.trod_int Try.underlying2 g1
  simp only [List.cons.injEq, and_true] at e0 e1 e2 e3 e4 e5
  subst e0 e1 e2 e3 e4 e5
  exact ⟨⟨k, m, a, b, t, v⟩, ⟨in64_of_wf b0, in64_of_wf b1, in64_of_wf b2, in64_of_wf b3, in64_of_wf b4, in64_of_wf b5⟩, rfl⟩

set_option maxRecDepth 100000 in
theorem open_ops {H : Type} {enc : TypeId × Value → H} {w : World} {base : Nat} {spare : Nat → Bool} {held : Bool} {v : Value} {d : DataW H} {ps : List MemPlace} {r : Reach} {b0 : Nat}
    (hval : Value.okWide Try.prog w r b0 22 v) (h : DataW.Trod enc Try.prog w base spare held 22 v d ps) : ∃ os, OpsAt w v os := by
  obtain ⟨a0, l0, c0, rfl⟩ := okWide_slice Try.underlying22 hval
  obtain ⟨fuel, h⟩ := h
  rcases open_slice Try.underlying22 h with ⟨hcs, _⟩ | ⟨a, len, cap, m, n, D, Pl, hcs, hb, hl, hm, hmm, _, hx⟩
  · simp [Value.cells] at hcs
    obtain ⟨rfl, rfl, rfl⟩ := hcs
    exact ⟨[], ⟨none, 0, rfl⟩, by simp, by simp, by simp⟩
  · simp [Value.cells] at hcs
    obtain ⟨rfl, rfl, rfl⟩ := hcs
    have hlm : l0 ≤ m := by rw [hmm]; split <;> omega
    rcases Nat.eq_zero_or_pos l0 with h0 | h0
    · subst h0
      exact ⟨[], ⟨_, _, rfl⟩, by simp, by simp, by simp⟩
    obtain ⟨ab, ao, sq⟩ := a
    have hs : sq = none := by
      obtain ⟨cs, h1, h2⟩ := hx 0 (by omega)
      rw [Try.cells31] at h1
      obtain ⟨_, hlen, hcell⟩ := World.cells?_some h1
      obtain ⟨y, hy, rfl⟩ := open_op h2 hlen
      have c := hcell 0 (by omega)
      have := World.cell?_spot c
      simpa [Addr.add] using this
    subst hs
    have each : ∀ i, i < l0 → ∃ y : Opr, OprOk y ∧ OprAt w ab (ao + i * 6) y := by
      intro i hi
      obtain ⟨cs, h1, h2⟩ := hx i (by omega)
      rw [Try.cells31] at h1
      obtain ⟨_, hlen, hcell⟩ := World.cells?_some h1
      obtain ⟨y, hy, rfl⟩ := open_op h2 hlen
      have c0 := hcell 0 (by omega)
      have c1 := hcell 1 (by omega)
      have c2 := hcell 2 (by omega)
      have c3 := hcell 3 (by omega)
      have c4 := hcell 4 (by omega)
      have c5 := hcell 5 (by omega)
      rw [add_add, add_plain] at c0 c1 c2 c3 c4 c5
      exact ⟨y, hy, by simpa using c0, by simpa [Nat.add_assoc] using c1, by simpa [Nat.add_assoc] using c2, by simpa [Nat.add_assoc] using c3, by simpa [Nat.add_assoc] using c4, by simpa [Nat.add_assoc] using c5⟩
    obtain ⟨f, hf⟩ := choose_lt each
    refine ⟨(List.range l0).map f, ⟨some ⟨ab, ao, none⟩, c0, by simp⟩, by simp; omega, ?_, fun hp => ?_⟩
    · intro x hx
      obtain ⟨i, hi, rfl⟩ := List.mem_map.1 hx
      exact (hf i (List.mem_range.1 hi)).1
    · refine ⟨ab, ao, c0, by simp, cell_lt (hf 0 h0).2.1, fun i hi => ?_⟩
      have := (hf i (by simpa using hi)).2
      simpa using this
end Go.Proofs.Ytkooogllajmkeaa
