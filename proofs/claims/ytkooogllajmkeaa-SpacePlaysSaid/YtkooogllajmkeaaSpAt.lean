/- How a space lies in memory: its two words, its row of regions, each region's row of words, all in blocks of their own. -/
import Derived.Test.YtkooogllajmkeaaMem
namespace Go.Proofs.Ytkooogllajmkeaa
open Go.RowKit

theorem flat2_get {α : Type} (f : α → List Value) (hf : ∀ a, (f a).length = 2) : ∀ (l : List α) (i j : Nat), j < 2 → (l.flatMap f)[i * 2 + j]? = (l[i]?).bind (fun a => (f a)[j]?)
  | [], i, j, _ => by simp
  | a :: l, 0, j, hj => by
    rw [List.flatMap_cons, List.getElem?_append_left (by rw [hf]; omega)]; simp
  | a :: l, i + 1, j, hj => by
    rw [List.flatMap_cons, List.getElem?_append_right (by rw [hf]; omega), hf, show (i + 1) * 2 + j - 2 = i * 2 + j by omega, flat2_get f hf l i j hj]; simp
theorem flat2_len {α : Type} (f : α → List Value) (hf : ∀ a, (f a).length = 2) (l : List α) : (l.flatMap f).length = l.length * 2 := by
  induction l with
  | nil => rfl
  | cons a l ih => rw [List.flatMap_cons, List.length_append, ih, hf, List.length_cons]; omega

/-- words as cells -/
def wcell (v : Int × Int) : List Value := [.int .i64 v.1, .int .i64 v.2]
def wcells (l : List (Int × Int)) : List Value := l.flatMap wcell
theorem wcells_len (l : List (Int × Int)) : (wcells l).length = l.length * 2 := flat2_len _ (fun _ => rfl) l
theorem wcells_fst {l : List (Int × Int)} {i : Nat} (h : i < l.length) : (wcells l)[i * 2]? = some (.int .i64 l[i].1) := by
  have := flat2_get wcell (fun _ => rfl) l i 0 (by omega); simpa [wcells, wcell, h] using this
theorem wcells_snd {l : List (Int × Int)} {i : Nat} (h : i < l.length) : (wcells l)[i * 2 + 1]? = some (.int .i64 l[i].2) := by
  have := flat2_get wcell (fun _ => rfl) l i 1 (by omega); simpa [wcells, wcell, h] using this

/-- a region in memory: its base, the block of its words, the row's capacity, the words -/
structure LReg where
  base : Int
  wb : Nat
  cap : Nat
  words : List (Int × Int)
  deriving Inhabited
def LReg.cells (r : LReg) : List Value := [.int .i64 r.base, .slice (some ⟨r.wb, 0, none⟩) r.words.length r.cap]
structure Reg where
  base : Int
  words : List (Int × Int)
def LReg.reg (r : LReg) : Reg := ⟨r.base, r.words⟩
def rcells (ls : List LReg) : List Value := ls.flatMap LReg.cells
theorem rcells_len (l : List LReg) : (rcells l).length = l.length * 2 := flat2_len _ (fun _ => rfl) l
theorem rcells_fst {l : List LReg} {i : Nat} (h : i < l.length) : (rcells l)[i * 2]? = some (.int .i64 l[i].base) := by
  have := flat2_get LReg.cells (fun _ => rfl) l i 0 (by omega); simpa [rcells, LReg.cells, h] using this
theorem rcells_snd {l : List LReg} {i : Nat} (h : i < l.length) : (rcells l)[i * 2 + 1]? = some (.slice (some ⟨l[i].wb, 0, none⟩) l[i].words.length l[i].cap) := by
  have := flat2_get LReg.cells (fun _ => rfl) l i 1 (by omega); simpa [rcells, LReg.cells, h] using this

def foot (p : Nat) (sl : Value) (ls : List LReg) : List Nat := p :: (sl.ownBlock.toList ++ ls.map (·.wb))

/-- a space at block p -/
structure SpAt (w : World) (p : Nat) (last : Int) (sl : Value) (ls : List LReg) : Prop where
  head : w.heap[p]? = some (.cells #[sl, .int .i64 last] 27 (0, 0))
  row : w.ownsRow 0 100 2 sl ls.length (rcells ls)
  words : ∀ r ∈ ls, w.ownsRow 0 29 2 (.slice (some ⟨r.wb, 0, none⟩) r.words.length r.cap) r.words.length (wcells r.words)
  nodup : (foot p sl ls).Nodup

/-- what a space of regions is: each has words, none overlap, none lies beyond the last address -/
structure RegsOk (last : Int) (ls : List LReg) : Prop where
  lo : ∀ r ∈ ls, 1 ≤ r.base ∧ 1 ≤ r.words.length ∧ r.words.length ≤ 1048576 ∧ r.base + (r.words.length : Int) ≤ last + 1
  sep : ls.Pairwise (fun a b => a.base + (a.words.length : Int) < b.base)
  last0 : 0 ≤ last
  last1 : last ≤ 2305843009213693952
  live : (ls.map (·.words.length)).sum ≤ 4194304

theorem SpAt.lt {w : World} {p : Nat} {last : Int} {sl : Value} {ls : List LReg} (h : SpAt w p last sl ls) : ∀ b ∈ foot p sl ls, b < w.heap.size := by
  intro b hb
  simp only [foot, List.mem_cons, List.mem_append, Option.mem_toList, List.mem_map] at hb
  rcases hb with rfl | hb | ⟨r, hr, rfl⟩
  · exact lt_of_heap h.head
  · exact (h.row.lt b hb).2
  · exact ((h.words r hr).lt r.wb rfl).2

/-- what turns no block of a space leaves it -/
theorem SpAt.kp {w w' : World} {p : Nat} {last : Int} {sl : Value} {ls : List LReg} {fs : List Nat} (h : SpAt w p last sl ls) (k : Kp fs w w') (hd : ∀ b ∈ foot p sl ls, b ∉ fs) : SpAt w' p last sl ls := by
  refine ⟨k.at h.head (hd p (by simp [foot])), k.row h.row (fun g hg => hd g ?_), fun r hr => k.row (h.words r hr) (fun g hg => ?_), h.nodup⟩
  · simp [foot, hg]
  · simp [Value.ownBlock] at hg; subst hg
    exact hd _ (by simp [foot]; exact .inr (.inr ⟨r, hr, rfl⟩))
theorem SpAt.below {w w' : World} {p : Nat} {last : Int} {sl : Value} {ls : List LReg} (h : SpAt w p last sl ls) (k : Below w.heap.size w w') : SpAt w' p last sl ls := h.kp (Kp.of_below k []) (by simp)

/-- the row of regions, once there is one, is a slice with a block -/
theorem SpAt.shape {w : World} {p : Nat} {last : Int} {sl : Value} {ls : List LReg} (h : SpAt w p last sl ls) : (sl = .slice none 0 0 ∧ ls = []) ∨ ∃ B cap, sl = .slice (some ⟨B, 0, none⟩) ls.length cap ∧ ls.length ≤ cap := by
  rcases h.row.2 with ⟨rfl, h0⟩ | ⟨B, cap, cur, rfl, _, _, hc, _⟩
  · exact .inl ⟨rfl, List.eq_nil_of_length_eq_zero h0⟩
  · exact .inr ⟨B, cap, rfl, hc⟩
theorem SpAt.cell0 {w : World} {p : Nat} {last : Int} {sl : Value} {ls : List LReg} (h : SpAt w p last sl ls) : w.cell? ⟨p, 0, none⟩ = some sl := by
  rw [cell_of_row w p 0 _ _ _ h.head]; rfl
theorem SpAt.cell1 {w : World} {p : Nat} {last : Int} {sl : Value} {ls : List LReg} (h : SpAt w p last sl ls) : w.cell? ⟨p, 1, none⟩ = some (.int .i64 last) := by
  rw [cell_of_row w p 1 _ _ _ h.head]; rfl
theorem SpAt.free {w : World} {p : Nat} {last : Int} {sl : Value} {ls : List LReg} (h : SpAt w p last sl ls) (o : Nat) : w.frozen? ⟨p, o, none⟩ = false := frozen_of_row w p o _ _ h.head
theorem SpAt.base {w : World} {p B cap : Nat} {last : Int} {ls : List LReg} (h : SpAt w p last (.slice (some ⟨B, 0, none⟩) ls.length cap) ls) {i : Nat} (hi : i < ls.length) : w.cell? ⟨B, i * 2, none⟩ = some (.int .i64 ls[i].base) := row_cell h.row (rcells_fst hi)
theorem SpAt.wslice {w : World} {p B cap : Nat} {last : Int} {ls : List LReg} (h : SpAt w p last (.slice (some ⟨B, 0, none⟩) ls.length cap) ls) {i : Nat} (hi : i < ls.length) : w.cell? ⟨B, i * 2 + 1, none⟩ = some (.slice (some ⟨ls[i].wb, 0, none⟩) ls[i].words.length ls[i].cap) := row_cell h.row (rcells_snd hi)
theorem SpAt.type {w : World} {p : Nat} {last : Int} {sl : Value} {ls : List LReg} (h : SpAt w p last sl ls) {i : Nat} (hi : i < ls.length) {k : Nat} (hk : k < ls[i].words.length) : w.cell? ⟨ls[i].wb, k * 2, none⟩ = some (.int .i64 ls[i].words[k].1) := row_cell (h.words _ (List.getElem_mem hi)) (wcells_fst hk)
theorem SpAt.num {w : World} {p : Nat} {last : Int} {sl : Value} {ls : List LReg} (h : SpAt w p last sl ls) {i : Nat} (hi : i < ls.length) {k : Nat} (hk : k < ls[i].words.length) : w.cell? ⟨ls[i].wb, k * 2 + 1, none⟩ = some (.int .i64 ls[i].words[k].2) := row_cell (h.words _ (List.getElem_mem hi)) (wcells_snd hk)

theorem RegsOk.count {last : Int} {ls : List LReg} (h : RegsOk last ls) : ls.length ≤ 4194304 := by
  have h1 : ∀ r ∈ ls, 1 ≤ r.words.length := fun r hr => (h.lo r hr).2.1
  refine Nat.le_trans ?_ h.live
  clear h
  induction ls with
  | nil => simp
  | cons a l ih =>
    have := ih (fun r hr => h1 r (by simp [hr])); have := h1 a (by simp)
    simp only [List.length_cons, List.map_cons, List.sum_cons]; omega
theorem RegsOk.mono {last : Int} {ls : List LReg} (h : RegsOk last ls) : ∀ i j (hij : i < j) (hj : j < ls.length), ls[i].base + (ls[i].words.length : Int) < ls[j].base :=
  fun i j hij hj => List.pairwise_iff_getElem.1 h.sep i j (by omega) hj hij
end Go.Proofs.Ytkooogllajmkeaa
