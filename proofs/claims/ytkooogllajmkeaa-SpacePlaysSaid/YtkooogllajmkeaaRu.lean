/- The document's Let: the plain part. -/
import Derived.Test.YtkooogllajmkeaaRt
import Derived.Maps.AppendAt
namespace Go.Proofs.Ytkooogllajmkeaa
open Go.RowKit
section
variable {w : World} {p : Nat} {last : Int} {rv wv : Value} {ls : List LReg}
theorem let_at {S : Sp} (hr : S.regs = ls.map LReg.reg) {a : Int} {i : Nat} (hi : i < ls.length) (ha : ls[i].base = a) (hno : ∀ j (hj : j < ls.length), j < i → ls[j].base ≠ a) : S.let_ a = (0, { S with regs := (ls.eraseIdx i).map LReg.reg }) := by
  have hf : S.regs.findIdx? (fun r => r.base == a) = some i := by
    rw [hr, List.findIdx?_eq_some_iff_getElem]
    refine ⟨by simpa using hi, by simpa [LReg.reg] using ha, fun j hj => ?_⟩
    simpa [LReg.reg] using hno j (by omega) hj
  unfold Sp.let_
  rw [hf]
  simp only [hr, map_erase]
theorem let_none {S : Sp} (hr : S.regs = ls.map LReg.reg) {a : Int} (hno : ∀ j (hj : j < ls.length), ls[j].base ≠ a) : S.let_ a = (211, S) := by
  have hf : S.regs.findIdx? (fun r => r.base == a) = none := by
    rw [hr, List.findIdx?_eq_none_iff]
    intro x hx
    obtain ⟨y, hy, rfl⟩ := List.mem_map.1 hx
    obtain ⟨j, hj, rfl⟩ := List.getElem_of_mem hy
    simpa [LReg.reg] using hno j hj
  unfold Sp.let_
  rw [hf]
theorem gcells_app (l1 l2 : List LReg) : gcells (l1 ++ l2) = gcells l1 ++ gcells l2 := by simp [gcells]
theorem gcells_erase (i : Nat) : gcells (ls.eraseIdx i) = gcells (ls.take i) ++ gcells (ls.drop (i + 1)) := by rw [List.eraseIdx_eq_take_drop_succ, gcells_app]
theorem sl_erase (i : Nat) : (ls.eraseIdx i).map LReg.sl = (ls.take i).map LReg.sl ++ (ls.drop (i + 1)).map LReg.sl := by rw [List.eraseIdx_eq_take_drop_succ, List.map_append]
theorem words_erase (hw : Words ls) (i : Nat) : Words (ls.eraseIdx i) := fun r hr v hv => hw r (List.mem_of_mem_eraseIdx hr) v hv
theorem gcells_one : ∀ v ∈ gcells ls, v.oneCell' = true := by
  intro v hv
  simp only [gcells, gcell, List.mem_flatMap, List.mem_cons, List.not_mem_nil, or_false] at hv
  obtain ⟨r, _, rfl | rfl⟩ := hv <;> rfl
theorem sl_one : ∀ v ∈ ls.map LReg.sl, v.oneCell' = true := by
  intro v hv
  obtain ⟨r, _, rfl⟩ := List.mem_map.1 hv
  rfl
/-- the row of regions: its block, its room, its cells -/
theorem RAt.rrow (h : RAt w p last rv wv ls) (hn : 0 < ls.length) : ∃ B c, rv = .slice (some ⟨B, 0, none⟩) ls.length c ∧ ls.length ≤ c ∧ B < w.heap.size ∧ ∀ j u, (gcells ls)[j]? = some u → w.cell? ⟨B, j, none⟩ = some u := by
  have hr := h.row
  rcases h.row.2 with ⟨rfl, h0⟩ | ⟨B, cap, cur, rfl, _, hg, hc, _⟩
  · omega
  · exact ⟨B, cap, rfl, hc, lt_of_heap hg, fun j u hu => row_cell hr hu⟩
theorem RAt.trow (h : RAt w p last rv wv ls) (hn : 0 < ls.length) : ∃ B c, wv = .slice (some ⟨B, 0, none⟩) ls.length c ∧ ls.length ≤ c ∧ B < w.heap.size ∧ ∀ j u, (ls.map LReg.sl)[j]? = some u → w.cell? ⟨B, j, none⟩ = some u := by
  have hr := h.tab
  rcases h.tab.2 with ⟨rfl, h0⟩ | ⟨B, cap, cur, rfl, _, hg, hc, _⟩
  · omega
  · exact ⟨B, cap, rfl, hc, lt_of_heap hg, fun j u hu => row_cell hr hu⟩
theorem gcells_take_at {i j : Nat} {u : Value} (h : (gcells (ls.take i))[j]? = some u) : (gcells ls)[j]? = some u := by
  have e : gcells ls = gcells (ls.take i) ++ gcells (ls.drop i) := by rw [← gcells_app, List.take_append_drop]
  rw [e, List.getElem?_append_left (List.getElem?_eq_some_iff.1 h).1]
  exact h
theorem gcells_drop_at {i j : Nat} {u : Value} (hi : i ≤ ls.length) (h : (gcells (ls.drop i))[j]? = some u) : (gcells ls)[i * 2 + j]? = some u := by
  have e : gcells ls = gcells (ls.take i) ++ gcells (ls.drop i) := by rw [← gcells_app, List.take_append_drop]
  have hl : (gcells (ls.take i)).length = i * 2 := by rw [gcells_len, List.length_take, Nat.min_eq_left hi]
  rw [e, List.getElem?_append_right (by omega), hl, show i * 2 + j - i * 2 = j by omega]
  exact h
end
end Go.Proofs.Ytkooogllajmkeaa
