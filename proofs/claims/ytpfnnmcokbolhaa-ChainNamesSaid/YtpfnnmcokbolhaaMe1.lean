/- Parts Mem Lf SpAt Bs Fd Sm Cn Cl Rn Gt Bl, put together. -/
import Derived.WalkKit
import Derived.Deep.QuietTactic
import Derived.Below
import Derived.Laws.AppendOwn
import Derived.Laws.OwnMore
import Derived.OneCell
import Derived.Test.YtpfnnmcokbolhaaProg
import Derived.LoopTactic
import Derived.Laws.StructEq
import Derived.BigQuiet
import Derived.WalkSpells
import Derived.StillTailTactics
import Derived.Laws.CopyOwn
/- Lemmas on memory: what a call leaves as it was ('Kp fs w w'': all blocks of w but those named in fs are as they were), rows of cells, owned rows. No condition beyond the hypotheses. -/
namespace Go.Proofs.Ytpfnnmcokbolhaa
open Go.RowKit

/-- All blocks of w but those in fs are as they were in w'. -/
structure Kp (fs : List Nat) (w w' : World) : Prop where
  os : w'.os = w.os
  tape : w'.tape = w.tape
  output : w'.output = w.output
  size : w.heap.size ≤ w'.heap.size
  block : ∀ k, k < w.heap.size → k ∉ fs → w'.heap[k]? = w.heap[k]?

theorem Kp.refl (fs : List Nat) (w : World) : Kp fs w w := ⟨rfl, rfl, rfl, Nat.le_refl _, fun _ _ _ => rfl⟩
theorem Kp.of_below {w w' : World} (h : Below w.heap.size w w') (fs : List Nat) : Kp fs w w' := ⟨h.os, h.tape, h.output, h.size, fun k hk _ => h.block k hk⟩
theorem Kp.below {w w' : World} (h : Kp [] w w') : Below w.heap.size w w' := ⟨h.os, h.tape, h.output, h.size, fun k hk => h.block k hk (by simp)⟩
theorem Kp.mono {fs gs : List Nat} {w w' : World} (h : Kp fs w w') (hs : ∀ x ∈ fs, x ∈ gs) : Kp gs w w' :=
  ⟨h.os, h.tape, h.output, h.size, fun k hk hn => h.block k hk (fun e => hn (hs k e))⟩
theorem Kp.trans {fs gs : List Nat} {a b c : World} (h : Kp fs a b) (k : Kp gs b c) (hs : ∀ x ∈ gs, x ∈ fs ∨ a.heap.size ≤ x) : Kp fs a c :=
  ⟨k.os.trans h.os, k.tape.trans h.tape, k.output.trans h.output, Nat.le_trans h.size k.size, fun i hi hn =>
    (k.block i (Nat.lt_of_lt_of_le hi h.size) (fun e => (hs i e).elim hn (fun q => by omega))).trans (h.block i hi hn)⟩
theorem Kp.drew {fs : List Nat} {a w : World} (h : Kp fs a w) : Kp fs a w.drew := ⟨h.os, h.tape, h.output, h.size, h.block⟩
theorem Kp.alloc {fs : List Nat} {a w : World} (h : Kp fs a w) (o : Obj) : Kp fs a (w.alloc o) :=
  ⟨h.os, h.tape, h.output, by have := h.size; simp; omega, fun k hk hn => by
    rw [Below.heap_alloc _ _ _ (Nat.lt_of_lt_of_le hk h.size)]; exact h.block k hk hn⟩
theorem Kp.setCell {fs : List Nat} {a w : World} (h : Kp fs a w) {p : Addr} (hp : p.block ∈ fs ∨ a.heap.size ≤ p.block) (u : Value) : Kp fs a (w.setCell p u) :=
  ⟨h.os, h.tape, h.output, by have := h.size; simpa [World.setCell] using this, fun k hk hn => by
    rw [Below.heap_setCell _ _ _ _ (by rintro rfl; exact hp.elim hn (by omega))]; exact h.block k hk hn⟩
theorem Kp.grown {fs : List Nat} {a w w' : World} {row : Option Nat} (h : Kp fs a w) (hg : w.grownBy w' row) (hr : ∀ k, row = some k → k ∈ fs ∨ a.heap.size ≤ k) : Kp fs a w' :=
  ⟨hg.os.trans h.os, hg.tape.trans h.tape, hg.output.trans h.output, Nat.le_trans h.size hg.size, fun k hk hn =>
    (hg.block k (Nat.lt_of_lt_of_le hk h.size) (fun e => (hr k e.symm).elim hn (by omega))).trans (h.block k hk hn)⟩
theorem Kp.setRow {fs : List Nat} {a w : World} (h : Kp fs a w) {g : Nat} (cs : Array Value) (hp : g ∈ fs ∨ a.heap.size ≤ g) : Kp fs a (w.setRow g cs) :=
  ⟨h.os, h.tape, h.output, by have := h.size; simpa [World.setRow] using this, fun k hk hn => by
    rw [setRow_other w g k cs (by rintro rfl; exact hp.elim hn (by omega))]; exact h.block k hk hn⟩
theorem Kp.at {fs : List Nat} {w w' : World} (h : Kp fs w w') {b : Nat} {o : Obj} (ho : w.heap[b]? = some o) (hn : b ∉ fs) : w'.heap[b]? = some o :=
  (h.block b (Array.getElem?_eq_some_iff.1 ho).1 hn).trans ho
theorem Kp.row {fs : List Nat} {w w' : World} (h : Kp fs w w') {base : Nat} {e : TypeId} {size : Nat} {v : Value} {n : Nat} {xs : List Value} (ho : w.ownsRow base e size v n xs)
    (hn : ∀ g, v.ownBlock = some g → g ∉ fs) : w'.ownsRow base e size v n xs := by
  refine ⟨ho.1, ?_⟩
  rcases ho.2 with q | ⟨g, cap, cur, rfl, hb, hg, rest⟩
  · exact .inl q
  · exact .inr ⟨g, cap, cur, rfl, hb, h.at hg (hn g rfl), rest⟩

/-- hide a fact from the walk -/
theorem Hid.mk {p : Prop} (h : p) : Hid p := h

theorem below_at {B : Nat} {w w' : World} (h : Below B w w') {b : Nat} {o : Obj} (ho : w.heap[b]? = some o) (hb : b < B) : w'.heap[b]? = some o := (h.block b hb).trans ho
theorem lt_of_heap {w : World} {b : Nat} {o : Obj} (h : w.heap[b]? = some o) : b < w.heap.size := (Array.getElem?_eq_some_iff.1 h).1

/-- A row's cell. -/
theorem row_cell {w : World} {base : Nat} {e : TypeId} {size : Nat} {g n cap : Nat} {xs : List Value} (h : w.ownsRow base e size (.slice (some ⟨g, 0, none⟩) n cap) n xs) {j : Nat} {v : Value} (hv : xs[j]? = some v) : w.cell? ⟨g, j, none⟩ = some v := by
  have hj : j < n * size := by rw [← h.1]; exact (List.getElem?_eq_some_iff.1 hv).1
  rw [h.cellAt j hj, hv]
theorem row_free {w : World} {base : Nat} {e : TypeId} {size : Nat} {g n cap : Nat} {xs : List Value} (h : w.ownsRow base e size (.slice (some ⟨g, 0, none⟩) n cap) n xs) (j : Nat) : w.frozen? ⟨g, j, none⟩ = false := h.frozenAt j

theorem cell_alloc {w : World} {o : Obj} {a : Addr} (h : a.block < w.heap.size) : (w.alloc o).cell? a = w.cell? a := World.cell?_of_block (w := w) (Below.heap_alloc _ _ _ h)
theorem add_block (a : Addr) (j : Nat) : (a.add j).block = a.block := by unfold Addr.add; split <;> rfl
theorem row_shape {w : World} {base : Nat} {e : TypeId} {size : Nat} {v : Value} {n : Nat} {xs : List Value} (h : w.ownsRow base e size v n xs) (h1 : 1 ≤ n) : ∃ g c, v = .slice (some ⟨g, 0, none⟩) n c := by
  rcases h.2 with ⟨_, q⟩ | ⟨g, c, _, q, _⟩
  · omega
  · exact ⟨g, c, q⟩
theorem below_drewN {B : Nat} {a w : World} (h : Below B a w) (n : Nat) : Below B a (w.drewN n) := ⟨h.os, h.tape, h.output, h.size, h.block⟩
theorem Kp.drewN {fs : List Nat} {a w : World} (h : Kp fs a w) (n : Nat) : Kp fs a (w.drewN n) := ⟨h.os, h.tape, h.output, h.size, h.block⟩
/-- what was made behind w is no concern of w -/
theorem below_of_alloc {w w' : World} {o : Obj} (h : Below (w.heap.size + 1) (w.alloc o) w') : Below w.heap.size w w' := ((Below.refl _ _).alloc (Nat.le_refl _) _).trans (h.mono (by omega))
end Go.Proofs.Ytpfnnmcokbolhaa
/- Contracts of small functions that the space leans on: comparing, a region's end, whether it has addresses, values that may be. No condition beyond the hypotheses. -/
namespace Go.Proofs.Ytpfnnmcokbolhaa
open Go.RowKit

theorem isNaN_any (t : Int) (w : World) : Calls Try.prog 107 #[.int .i64 t] w fun e w' => e = .returned (.bool false) ∧ w' = w := by
  go_enter Try.func107, Try.ntmps107
  go_wp2
  go_ret
  exact ⟨by simp, rfl⟩
def cmpI (x y : Int) : Int := if x < y then -1 else if y < x then 1 else 0
theorem compare_any (x y : Int) (w : World) : Calls Try.prog 100 #[.int .i64 x, .int .i64 y] w fun e w' => e = .returned (.int .i64 (cmpI x y)) ∧ w' = w := by
  unfold cmpI
  go_enter Try.func100, Try.ntmps100
  go_wp2_with (go_at_call 107; refine (isNaN_any _ _).mono ?_; rintro e w' ⟨rfl, rfl⟩)
  all_goals go_ret
  all_goals simp_all
  all_goals omega
theorem find1_any (b : Int) (v : Value) (at_ : Int) (w : World) : Calls Try.prog 99 #[.agg #[.int .i64 b, v], .int .i64 at_] w fun e w' => e = .returned (.int .i64 (cmpI b at_)) ∧ w' = w.alloc (.cells #[.int .i64 b, v] 147) := by
  go_enter Try.func99, Try.ntmps99
  go_wp2_with (go_at_call 100; refine (compare_any _ _ _).mono ?_; rintro e w' ⟨rfl, rfl⟩)
  go_ret
  exact ⟨rfl, rfl⟩
theorem end_any (b : Int) (a : Option Addr) (n c : Nat) (w : World) (hb : 0 ≤ b) (hb2 : b ≤ 4611686018427387904) (hn : n ≤ 1048576) : Calls Try.prog 84 #[.agg #[.int .i64 b, .slice a n c]] w fun e w' => e = .returned (.int .i64 (b + n)) ∧ w' = w.alloc (.cells #[.int .i64 b, .slice a n c] 147) := by
  go_enter Try.func84, Try.ntmps84
  go_wp2
  go_ret
  exact ⟨rfl, rfl⟩
def hasB (b : Int) (n : Nat) (at_ m : Int) : Bool := decide (b ≤ at_) && decide (at_ < b + n) && decide (m ≤ b + n - at_)
theorem has_any (b at_ m : Int) (a : Option Addr) (n c : Nat) (w : World) (hb : 0 ≤ b) (hb2 : b ≤ 4611686018427387904) (hn : n ≤ 1048576) : Calls Try.prog 101 #[.agg #[.int .i64 b, .slice a n c], .int .i64 at_, .int .i64 m] w fun e w' => e = .returned (.bool (hasB b n at_ m)) ∧ Below w.heap.size w w' := by
  by_cases h1 : b ≤ at_
  · by_cases h2 : at_ < b + n
    · by_cases h3 : m ≤ b + n - at_
      all_goals
        go_enter Try.func101, Try.ntmps101
        go_wp2_with (go_at_call 84; refine (end_any _ _ _ _ _ hb hb2 hn).mono ?_; rintro e w' ⟨rfl, rfl⟩)
        go_ret
        exact ⟨congrArg (fun b => Ending.returned (Value.bool b)) (by unfold hasB; simp; omega), (((Below.refl _ _).alloc (Nat.le_refl _) _).alloc (by simp) _).alloc (by simp; omega) _⟩
    · go_enter Try.func101, Try.ntmps101
      go_wp2_with (go_at_call 84; refine (end_any _ _ _ _ _ hb hb2 hn).mono ?_; rintro e w' ⟨rfl, rfl⟩)
      go_ret
      exact ⟨congrArg (fun b => Ending.returned (Value.bool b)) (by unfold hasB; simp; omega), ((Below.refl _ _).alloc (Nat.le_refl _) _).alloc (by simp) _⟩
  · go_enter Try.func101, Try.ntmps101
    go_wp2_with (go_at_call 84; refine (end_any _ _ _ _ _ hb hb2 hn).mono ?_; rintro e w' ⟨rfl, rfl⟩)
    go_ret
    exact ⟨congrArg (fun b => Ending.returned (Value.bool b)) (by unfold hasB; simp; omega), (Below.refl _ _).alloc (Nat.le_refl _) _⟩
def knownB (t : Int) : Bool := decide (1 ≤ t) && decide (t < 5)
theorem known_any (t : Int) (w : World) : Calls Try.prog 69 #[.int .i64 t] w fun e w' => e = .returned (.bool (knownB t)) ∧ w' = w := by
  unfold knownB
  go_enter Try.func69, Try.ntmps69
  go_wp2
  all_goals go_ret
  all_goals simp_all
  all_goals omega
/-- a value that may be: its type is one of four, and its number is no less than 0, unless it is a number's -/
def okV (t n : Int) : Bool := knownB t && (decide (t = 1) || decide (0 ≤ n))
def chk (t n : Int) : Int := if okV t n then 0 else 21
theorem chk_ok {t n : Int} (h : okV t n = true) : chk t n = 0 := by simp [chk, h]
theorem chk_no {t n : Int} (h : okV t n = false) : chk t n = 21 := by simp [chk, h]
theorem check_any (t n : Int) (w : World) : Calls Try.prog 46 #[.agg #[.int .i64 t, .int .i64 n]] w fun e w' => e = .returned (.int .i64 (chk t n)) ∧ Below w.heap.size w w' := by
  by_cases hk : knownB t = true
  · by_cases h1 : t = 1
    · subst h1
      go_enter Try.func46, Try.ntmps46
      go_wp2_with (go_at_call 69; refine (known_any _ _).mono ?_; rintro e w' ⟨rfl, rfl⟩)
      go_ret
      exact ⟨by rw [chk_ok (by simp [okV, hk])]; rfl, (Below.refl _ _).alloc (Nat.le_refl _) _⟩
    · have h1' : (t != 1) = true := by simp [h1]
      by_cases h2 : 0 ≤ n
      · go_enter Try.func46, Try.ntmps46
        go_wp2_with (go_at_call 69; refine (known_any _ _).mono ?_; rintro e w' ⟨rfl, rfl⟩)
        go_ret
        exact ⟨by rw [chk_ok (by simp [okV, hk, h2])]; rfl, (Below.refl _ _).alloc (Nat.le_refl _) _⟩
      · go_enter Try.func46, Try.ntmps46
        go_wp2_with (go_at_call 69; refine (known_any _ _).mono ?_; rintro e w' ⟨rfl, rfl⟩)
        go_ret
        exact ⟨by rw [chk_no (by simp [okV, h1]; omega)]; rfl, (Below.refl _ _).alloc (Nat.le_refl _) _⟩
  · have hk' : knownB t = false := by simpa using hk
    clear hk
    go_enter Try.func46, Try.ntmps46
    go_wp2_with (go_at_call 69; refine (known_any _ _).mono ?_; rintro e w' ⟨rfl, rfl⟩)
    go_ret
    exact ⟨by rw [chk_no (by simp [okV, hk'])]; rfl, (Below.refl _ _).alloc (Nat.le_refl _) _⟩
end Go.Proofs.Ytpfnnmcokbolhaa
/- How a space lies in memory: its two words, its row of regions, each region's row of words, all in blocks of their own. -/
namespace Go.Proofs.Ytpfnnmcokbolhaa
open Go.RowKit

theorem flat2_get {α : Type} (f : α → List Value) (hf : ∀ a, (f a).length = 2) : ∀ (l : List α) (i j : Nat), j < 2 → (l.flatMap f)[i * 2 + j]? = (l[i]?).bind (fun a => (f a)[j]?)
  | [], i, j, _ => by simp
  | a :: l, 0, j, hj => by
    rw [List.flatMap_cons, List.getElem?_append_left (by rw [hf]; omega)]; simp
  | a :: l, i + 1, j, hj => by
    rw [List.flatMap_cons, List.getElem?_append_right (by rw [hf]; omega), hf, show (i + 1) * 2 + j - 2 = i * 2 + j by omega, flat2_get f hf l i j hj]; simp
theorem flat2_len {α : Type} (f : α → List Value) (hf : ∀ a, (f a).length = 2) (l : List α) : (l.flatMap f).length = l.length * 2 := by
  induction l with
  | nil => rfl
  | cons a l ih => rw [List.flatMap_cons, List.length_append, ih, hf, List.length_cons]; omega

/-- words as cells -/
def wcell (v : Int × Int) : List Value := [.int .i64 v.1, .int .i64 v.2]
def wcells (l : List (Int × Int)) : List Value := l.flatMap wcell
theorem wcells_len (l : List (Int × Int)) : (wcells l).length = l.length * 2 := flat2_len _ (fun _ => rfl) l
theorem wcells_fst {l : List (Int × Int)} {i : Nat} (h : i < l.length) : (wcells l)[i * 2]? = some (.int .i64 l[i].1) := by
  have := flat2_get wcell (fun _ => rfl) l i 0 (by omega); simpa [wcells, wcell, h] using this
theorem wcells_snd {l : List (Int × Int)} {i : Nat} (h : i < l.length) : (wcells l)[i * 2 + 1]? = some (.int .i64 l[i].2) := by
  have := flat2_get wcell (fun _ => rfl) l i 1 (by omega); simpa [wcells, wcell, h] using this

/-- a region in memory: its base, the block of its words, the row's capacity, the words -/
structure LReg where
  base : Int
  wb : Nat
  cap : Nat
  words : List (Int × Int)
  deriving Inhabited
def LReg.cells (r : LReg) : List Value := [.int .i64 r.base, .slice (some ⟨r.wb, 0, none⟩) r.words.length r.cap]
structure Reg where
  base : Int
  words : List (Int × Int)
def LReg.reg (r : LReg) : Reg := ⟨r.base, r.words⟩
def rcells (ls : List LReg) : List Value := ls.flatMap LReg.cells
theorem rcells_fst {l : List LReg} {i : Nat} (h : i < l.length) : (rcells l)[i * 2]? = some (.int .i64 l[i].base) := by
  have := flat2_get LReg.cells (fun _ => rfl) l i 0 (by omega); simpa [rcells, LReg.cells, h] using this
theorem rcells_snd {l : List LReg} {i : Nat} (h : i < l.length) : (rcells l)[i * 2 + 1]? = some (.slice (some ⟨l[i].wb, 0, none⟩) l[i].words.length l[i].cap) := by
  have := flat2_get LReg.cells (fun _ => rfl) l i 1 (by omega); simpa [rcells, LReg.cells, h] using this

def foot (p : Nat) (sl : Value) (ls : List LReg) : List Nat := p :: (sl.ownBlock.toList ++ ls.map (·.wb))

/-- a space at block p -/
structure SpAt (w : World) (p : Nat) (last : Int) (sl : Value) (ls : List LReg) : Prop where
  head : w.heap[p]? = some (.cells #[sl, .int .i64 last] 50 (0, 0))
  row : w.ownsRow 0 147 2 sl ls.length (rcells ls)
  words : ∀ r ∈ ls, w.ownsRow 0 34 2 (.slice (some ⟨r.wb, 0, none⟩) r.words.length r.cap) r.words.length (wcells r.words)
  nodup : (foot p sl ls).Nodup

/-- what a space of regions is: each has words, none overlap, none lies beyond the last address -/
structure RegsOk (last : Int) (ls : List LReg) : Prop where
  lo : ∀ r ∈ ls, 1 ≤ r.base ∧ 1 ≤ r.words.length ∧ r.words.length ≤ 1048576 ∧ r.base + (r.words.length : Int) ≤ last + 1
  sep : ls.Pairwise (fun a b => a.base + (a.words.length : Int) < b.base)
  last0 : 0 ≤ last
  last1 : last ≤ 2305843009213693952
  live : (ls.map (·.words.length)).sum ≤ 4194304

theorem SpAt.lt {w : World} {p : Nat} {last : Int} {sl : Value} {ls : List LReg} (h : SpAt w p last sl ls) : ∀ b ∈ foot p sl ls, b < w.heap.size := by
  intro b hb
  simp only [foot, List.mem_cons, List.mem_append, Option.mem_toList, List.mem_map] at hb
  rcases hb with rfl | hb | ⟨r, hr, rfl⟩
  · exact lt_of_heap h.head
  · exact (h.row.lt b hb).2
  · exact ((h.words r hr).lt r.wb rfl).2

/-- what turns no block of a space leaves it -/
theorem SpAt.kp {w w' : World} {p : Nat} {last : Int} {sl : Value} {ls : List LReg} {fs : List Nat} (h : SpAt w p last sl ls) (k : Kp fs w w') (hd : ∀ b ∈ foot p sl ls, b ∉ fs) : SpAt w' p last sl ls := by
  refine ⟨k.at h.head (hd p (by simp [foot])), k.row h.row (fun g hg => hd g ?_), fun r hr => k.row (h.words r hr) (fun g hg => ?_), h.nodup⟩
  · simp [foot, hg]
  · simp [Value.ownBlock] at hg; subst hg
    exact hd _ (by simp [foot]; exact .inr (.inr ⟨r, hr, rfl⟩))
theorem SpAt.below {w w' : World} {p : Nat} {last : Int} {sl : Value} {ls : List LReg} (h : SpAt w p last sl ls) (k : Below w.heap.size w w') : SpAt w' p last sl ls := h.kp (Kp.of_below k []) (by simp)

/-- the row of regions, once there is one, is a slice with a block -/
theorem SpAt.shape {w : World} {p : Nat} {last : Int} {sl : Value} {ls : List LReg} (h : SpAt w p last sl ls) : (sl = .slice none 0 0 ∧ ls = []) ∨ ∃ B cap, sl = .slice (some ⟨B, 0, none⟩) ls.length cap ∧ ls.length ≤ cap := by
  rcases h.row.2 with ⟨rfl, h0⟩ | ⟨B, cap, cur, rfl, _, _, hc, _⟩
  · exact .inl ⟨rfl, List.eq_nil_of_length_eq_zero h0⟩
  · exact .inr ⟨B, cap, rfl, hc⟩
theorem SpAt.cell0 {w : World} {p : Nat} {last : Int} {sl : Value} {ls : List LReg} (h : SpAt w p last sl ls) : w.cell? ⟨p, 0, none⟩ = some sl := by
  rw [cell_of_row w p 0 _ _ _ h.head]; rfl
theorem SpAt.cell1 {w : World} {p : Nat} {last : Int} {sl : Value} {ls : List LReg} (h : SpAt w p last sl ls) : w.cell? ⟨p, 1, none⟩ = some (.int .i64 last) := by
  rw [cell_of_row w p 1 _ _ _ h.head]; rfl
theorem SpAt.free {w : World} {p : Nat} {last : Int} {sl : Value} {ls : List LReg} (h : SpAt w p last sl ls) (o : Nat) : w.frozen? ⟨p, o, none⟩ = false := frozen_of_row w p o _ _ h.head
theorem SpAt.base {w : World} {p B cap : Nat} {last : Int} {ls : List LReg} (h : SpAt w p last (.slice (some ⟨B, 0, none⟩) ls.length cap) ls) {i : Nat} (hi : i < ls.length) : w.cell? ⟨B, i * 2, none⟩ = some (.int .i64 ls[i].base) := row_cell h.row (rcells_fst hi)
theorem SpAt.wslice {w : World} {p B cap : Nat} {last : Int} {ls : List LReg} (h : SpAt w p last (.slice (some ⟨B, 0, none⟩) ls.length cap) ls) {i : Nat} (hi : i < ls.length) : w.cell? ⟨B, i * 2 + 1, none⟩ = some (.slice (some ⟨ls[i].wb, 0, none⟩) ls[i].words.length ls[i].cap) := row_cell h.row (rcells_snd hi)
theorem SpAt.type {w : World} {p : Nat} {last : Int} {sl : Value} {ls : List LReg} (h : SpAt w p last sl ls) {i : Nat} (hi : i < ls.length) {k : Nat} (hk : k < ls[i].words.length) : w.cell? ⟨ls[i].wb, k * 2, none⟩ = some (.int .i64 ls[i].words[k].1) := row_cell (h.words _ (List.getElem_mem hi)) (wcells_fst hk)
theorem SpAt.num {w : World} {p : Nat} {last : Int} {sl : Value} {ls : List LReg} (h : SpAt w p last sl ls) {i : Nat} (hi : i < ls.length) {k : Nat} (hk : k < ls[i].words.length) : w.cell? ⟨ls[i].wb, k * 2 + 1, none⟩ = some (.int .i64 ls[i].words[k].2) := row_cell (h.words _ (List.getElem_mem hi)) (wcells_snd hk)

theorem RegsOk.count {last : Int} {ls : List LReg} (h : RegsOk last ls) : ls.length ≤ 4194304 := by
  have h1 : ∀ r ∈ ls, 1 ≤ r.words.length := fun r hr => (h.lo r hr).2.1
  refine Nat.le_trans ?_ h.live
  clear h
  induction ls with
  | nil => simp
  | cons a l ih =>
    have := ih (fun r hr => h1 r (by simp [hr])); have := h1 a (by simp)
    simp only [List.length_cons, List.map_cons, List.sum_cons]; omega
theorem RegsOk.mono {last : Int} {ls : List LReg} (h : RegsOk last ls) : ∀ i j (hij : i < j) (hj : j < ls.length), ls[i].base + (ls[i].words.length : Int) < ls[j].base :=
  fun i j hij hj => List.pairwise_iff_getElem.1 h.sep i j (by omega) hj hij
end Go.Proofs.Ytpfnnmcokbolhaa
/- The search for the region of an address: contracts of slices.BinarySearchFunc at regions and of find. -/
namespace Go.Proofs.Ytpfnnmcokbolhaa
open Go.RowKit
/-- what the search comes to: the first place whose base is no less, and whether it is that one -/
def LB (base : Nat → Int) (n : Nat) (at_ : Int) (w : World) (e : Ending) (w' : World) : Prop :=
  ∃ l : Nat, l ≤ n ∧ (∀ k, k < l → base k < at_) ∧ (∀ k, l ≤ k → k < n → at_ ≤ base k) ∧ Below w.heap.size w w' ∧
    e = .returned (.tuple #[.int .i64 l, .bool (decide (l < n ∧ base l = at_))])
theorem bs_low {base : Nat → Int} {n m : Nat} {a : Int} (hs : ∀ i j, i < j → j < n → base i < base j) (hm : m < n) (h : base m < a) : ∀ k, k < m + 1 → base k < a := by
  intro k hk
  rcases Nat.lt_or_ge k m with q | q
  · exact Int.lt_trans (hs k m q hm) h
  · obtain rfl : k = m := by omega
    exact h
theorem bs_high {base : Nat → Int} {n m : Nat} {a : Int} (hs : ∀ i j, i < j → j < n → base i < base j) (h : ¬ base m < a) : ∀ k, m ≤ k → k < n → a ≤ base k := by
  intro k hk hn
  rcases Nat.lt_or_ge m k with q | q
  · have := hs m k q hn; omega
  · obtain rfl : k = m := by omega
    omega
theorem cmp_ne {a b : Int} (h : a ≠ b) : (cmpI a b == 0) = false := by unfold cmpI; split <;> (try split) <;> simp <;> omega
theorem bsearch_any (B n cap : Nat) (at_ : Int) (base : Nat → Int) (vs : Nat → Value) (w : World) (hn : n ≤ 4194304) (hB : B < w.heap.size)
   (hs : ∀ i j, i < j → j < n → base i < base j)
   (h0 : ∀ i, i < n → w.cell? ⟨B, i * 2, none⟩ = some (.int .i64 (base i))) (h1 : ∀ i, i < n → w.cell? ⟨B, i * 2 + 1, none⟩ = some (vs i)) :
   Calls Try.prog 98 #[.slice (some ⟨B, 0, none⟩) n cap, .int .i64 at_, .func (.func 99) #[] #[]] w (LB base n at_ w) := by
  go_enter Try.func98, Try.ntmps98
  go_wp2
  go_loopw [9, 10] (fun i j wr => ∃ l h : Nat, i = .int .i64 l ∧ j = .int .i64 h ∧ l ≤ h ∧ h ≤ n ∧ (∀ k, k < l → base k < at_) ∧ (∀ k, h ≤ k → k < n → at_ ≤ base k) ∧ Below w.heap.size w wr) (fun i j _ => (intOf j - intOf i).toNat)
  case atStart => exact ⟨0, n, rfl, rfl, by omega, by omega, by omega, by omega, Below.refl _ _⟩
  case round =>
    obtain ⟨l, h, rfl, rfl, hlh, hhn, hl, hh, hb⟩ := hrel
    by_cases hlt : l < h
    · have hm : (l + h) / 2 < n := by omega
      have c0 := (hb.cell (p := ⟨B, (l+h)/2*2, none⟩) hB).trans (h0 _ hm)
      have c1 := (hb.cell (p := ⟨B, (l+h)/2*2+1, none⟩) hB).trans (h1 _ hm)
      by_cases hc : base ((l+h)/2) < at_
      · have hc' : cmpI (base ((l+h)/2)) at_ < 0 := by unfold cmpI; rw [if_pos hc]; omega
        have H := Hid.mk (bs_low hs hm hc)
        clear hc
        go_wp2_with (go_at_call 99; refine (find1_any _ _ _ _).mono ?_; rintro e w' ⟨rfl, rfl⟩)
        exact ⟨⟨(l + h) / 2 + 1, h, by go_num, rfl, by omega, by omega, H.out, hh, hb.alloc hb.size _⟩, by simp [intOf]; omega⟩
      · have hc' : ¬ cmpI (base ((l+h)/2)) at_ < 0 := by unfold cmpI; rw [if_neg hc]; split <;> omega
        have H := Hid.mk (bs_high hs hc)
        clear hc
        go_wp2_with (go_at_call 99; refine (find1_any _ _ _ _).mono ?_; rintro e w' ⟨rfl, rfl⟩)
        exact ⟨⟨l, (l + h) / 2, rfl, by go_num, by omega, by omega, hl, H.out, hb.alloc hb.size _⟩, by simp [intOf]; omega⟩
    · obtain rfl : l = h := by omega
      by_cases hln : l < n
      · have c0 := (hb.cell (p := ⟨B, l*2, none⟩) hB).trans (h0 _ hln)
        have c1 := (hb.cell (p := ⟨B, l*2+1, none⟩) hB).trans (h1 _ hln)
        by_cases hc : base l = at_
        · have hc' : (cmpI (base l) at_ == 0) = true := by rw [hc]; unfold cmpI; simp
          have H := Hid.mk hc
          clear hc
          go_wp2_with (go_at_call 99; refine (find1_any _ _ _ _).mono ?_; rintro e w' ⟨rfl, rfl⟩)
          go_ret2
          exact ⟨l, hhn, hl, hh, hb.alloc hb.size _, by simp [H.out, hln]⟩
        · have hc' := cmp_ne hc
          have H := Hid.mk hc
          clear hc
          go_wp2_with (go_at_call 99; refine (find1_any _ _ _ _).mono ?_; rintro e w' ⟨rfl, rfl⟩)
          go_ret2
          exact ⟨l, hhn, hl, hh, hb.alloc hb.size _, by simp [H.out]⟩
      · go_wp2
        go_ret2
        exact ⟨l, hhn, hl, hh, hb, by simp [hln]⟩
theorem bsearch_zero (ao : Option Addr) (cap : Nat) (at_ : Int) (v : Value) (w : World) : Calls Try.prog 98 #[.slice ao 0 cap, .int .i64 at_, v] w fun e w' => e = .returned (.tuple #[.int .i64 0, .bool false]) ∧ w' = w := by
  go_enter Try.func98, Try.ntmps98
  go_wp2
  refine wp_loop_rounds 1 ?_; rw [rounds_succ]
  go_wp2
  go_ret2
  exact ⟨rfl, rfl⟩
end Go.Proofs.Ytpfnnmcokbolhaa
/- The contract of find: the region that has so many addresses from one on, or none. Condition: a space in memory whose regions are as a space's are. -/
namespace Go.Proofs.Ytpfnnmcokbolhaa
open Go.RowKit

theorem hasB_iff {b : Int} {n : Nat} {a m : Int} : hasB b n a m = true ↔ b ≤ a ∧ a < b + n ∧ m ≤ b + n - a := by unfold hasB; simp [and_assoc]
theorem hasB_no {b : Int} {n : Nat} {a m : Int} (h : ¬ (b ≤ a ∧ a < b + n)) : hasB b n a m = false := by
  cases e : hasB b n a m with
  | false => rfl
  | true => exact absurd ⟨(hasB_iff.1 e).1, (hasB_iff.1 e).2.1⟩ h

/-- the i-th region has m addresses from a on (m no less than 0); or none has -/
def FindPost (ls : List LReg) (a m : Int) (w : World) (e : Ending) (w' : World) : Prop :=
  Below w.heap.size w w' ∧
  ((∃ (i : Nat) (hi : i < ls.length), hasB ls[i].base ls[i].words.length a m = true ∧ 0 ≤ m ∧ e = .returned (.tuple #[.int .i64 i, .bool true])) ∨
   ((∀ (i : Nat) (hi : i < ls.length), 0 ≤ m → hasB ls[i].base ls[i].words.length a m = false) ∧ e = .returned (.tuple #[.int .i64 0, .bool false])))

theorem only_last {last : Int} {ls : List LReg} (h : RegsOk last ls) {l : Nat} {a m : Int} (hl : l < ls.length) (ha : ls[l].base ≤ a) (hn : ∀ k (hk : k < ls.length), l < k → a < ls[k].base) (i : Nat) (hi : i < ls.length) (hne : i ≠ l) : hasB ls[i].base ls[i].words.length a m = false := by
  refine hasB_no ?_
  rintro ⟨h1, h2⟩
  rcases Nat.lt_or_ge i l with q | q
  · have := h.mono i l q hl; omega
  · have := hn i hi (by omega); omega

set_option maxHeartbeats 400000 in
theorem find_any {w : World} {p : Nat} {last : Int} {sl : Value} {ls : List LReg} (h : SpAt w p last sl ls) (ok : RegsOk last ls) (a m : Int) :
    Calls Try.prog 86 #[.pointer (some ⟨p, 0, none⟩), .int .i64 a, .int .i64 m] w (FindPost ls a m w) := by
  have hc0 := h.cell0
  rcases h.shape with ⟨rfl, rfl⟩ | ⟨B, cap, rfl, hcap⟩
  · go_enter Try.func86, Try.ntmps86
    go_wp2_with (go_at_call 98; refine (bsearch_zero _ _ _ _ _).mono ?_; rintro e w' ⟨rfl, rfl⟩)
    go_ret2
    exact ⟨Below.refl _ _, .inr ⟨fun i hi => absurd hi (by simp), rfl⟩⟩
  · have hn := ok.count
    have hB : B < w.heap.size := (h.row.lt B rfl).2
    rcases Nat.eq_zero_or_pos ls.length with h0 | h0
    · rw [h0] at hc0
      go_enter Try.func86, Try.ntmps86
      go_wp2_with (go_at_call 98; refine (bsearch_zero _ _ _ _ _).mono ?_; rintro e w' ⟨rfl, rfl⟩)
      go_ret2
      exact ⟨Below.refl _ _, .inr ⟨fun i hi => absurd hi (by omega), rfl⟩⟩
    · have HB := Hid.mk (bsearch_any B ls.length cap a (fun i => ((ls[i]?).getD default).base) (fun i => .slice (some ⟨((ls[i]?).getD default).wb, 0, none⟩) ((ls[i]?).getD default).words.length ((ls[i]?).getD default).cap) w hn hB
        (fun i j hij hj => by have := ok.mono i j hij hj; simp [hj, show i < ls.length by omega]; omega)
        (fun i hi => by rw [h.base hi]; simp [hi]) (fun i hi => by rw [h.wslice hi]; simp [hi]))
      go_enter Try.func86, Try.ntmps86
      go_wp2_with fail
      refine HB.out.mono ?_
      clear HB
      rintro e w1 ⟨l, hln, hlo, hhi, hb, rfl⟩
      have h1 := h.below hb
      have hc1 := h1.cell0
      by_cases hf : l < ls.length ∧ ((ls[l]?).getD default).base = a
      · obtain ⟨hl, hf⟩ := hf
        have hba : ls[l].base = a := by simpa [hl] using hf
        have hd : decide (l < ls.length ∧ ((ls[l]?).getD default).base = a) = true := by simp [hl, hba]
        have hx := h1.base hl
        have hy := h1.wslice hl
        have hlo := ok.lo _ (List.getElem_mem hl)
        have hl1 := ok.last1
        rw [hd]
        have hup : ∀ k (hk : k < ls.length), l < k → a < ls[k].base := fun k hk hlk => by have := ok.mono l k hlk hk; omega
        have honly := fun i hi hne => only_last (m := m) ok hl (by omega) hup i hi hne
        by_cases hm : 0 ≤ m
        · cases hh : hasB ls[l].base ls[l].words.length a m
          all_goals
            have H := Hid.mk honly
            have HH := Hid.mk hh
            have HC := Hid.mk hhi
            have HF := Hid.mk hf
            have HBA := Hid.mk hba
            clear honly hup hhi hf hba hh hd
            go_wp2_with (go_at_call 101; refine (has_any _ _ _ _ _ _ _ (by omega) (by omega) (by omega)).mono ?_; rw [HH.out]; rintro e w' ⟨rfl, hb2⟩)
            go_ret2
          · exact ⟨hb.trans (hb2.mono hb.size), .inr ⟨fun i hi _ => (by by_cases q : i = l; (subst q; exact HH.out); exact H.out i hi q), rfl⟩⟩
          · exact ⟨hb.trans (hb2.mono hb.size), .inl ⟨l, hl, HH.out, hm, rfl⟩⟩
        · clear honly hup hhi hf hba hd
          go_wp2
          go_ret2
          exact ⟨hb, .inr ⟨fun i hi q => absurd q (by omega), rfl⟩⟩
      · have hd : decide (l < ls.length ∧ ((ls[l]?).getD default).base = a) = false := by simp only [hf, decide_false]
        rw [hd]
        have hup : ∀ k (hk : k < ls.length), l ≤ k → a < ls[k].base := by
          intro k hk hlk
          have q1 := hhi k hlk hk
          simp only [hk, List.getElem?_eq_getElem, Option.getD_some] at q1
          rcases Nat.lt_or_ge l k with q | q
          · have hl : l < ls.length := by omega
            have q2 := hhi l (Nat.le_refl _) hl
            simp only [hl, List.getElem?_eq_getElem, Option.getD_some] at q2
            have := ok.mono l k q hk; omega
          · obtain rfl : l = k := by omega
            have : ls[l].base ≠ a := fun q => hf ⟨hk, by simp [hk, q]⟩
            omega
        rcases Nat.eq_zero_or_pos l with hl0 | hl0
        · subst hl0
          clear hf hd hlo hhi
          go_wp2
          go_ret2
          exact ⟨hb, .inr ⟨fun i hi _ => hasB_no (fun q => by have := hup i hi (Nat.zero_le _); omega), rfl⟩⟩
        · obtain ⟨k, rfl⟩ : ∃ k, l = k + 1 := ⟨l - 1, by omega⟩
          have hl : k < ls.length := by omega
          have hba : ls[k].base < a := by have := hlo k (by omega); simpa [hl] using this
          have hx := h1.base hl
          have hy := h1.wslice hl
          have hlo := ok.lo _ (List.getElem_mem hl)
          have hl1 := ok.last1
          have honly := fun i hi hne => only_last (m := m) ok hl (by omega) (fun j hj hkj => hup j hj (by omega)) i hi hne
          by_cases hm : 0 ≤ m
          · cases hh : hasB ls[k].base ls[k].words.length a m
            all_goals
              have H := Hid.mk honly
              have HH := Hid.mk hh
              clear honly hup hhi hf hh hd
              go_wp2_with (go_at_call 101; refine (has_any _ _ _ _ _ _ _ (by omega) (by omega) (by omega)).mono ?_; rw [HH.out]; rintro e w' ⟨rfl, hb2⟩)
              go_ret2
            · exact ⟨hb.trans (hb2.mono hb.size), .inr ⟨fun i hi _ => (by by_cases q : i = k; (subst q; exact HH.out); exact H.out i hi q), rfl⟩⟩
            · exact ⟨hb.trans (hb2.mono hb.size), .inl ⟨k, hl, HH.out, hm, rfl⟩⟩
          · clear honly hup hhi hf hd
            go_wp2
            go_ret2
            exact ⟨hb, .inr ⟨fun i hi q => absurd q (by omega), rfl⟩⟩
end Go.Proofs.Ytpfnnmcokbolhaa
/- The contract of some: the words from an address on. Condition: a space in memory whose regions are as a space's are. -/
namespace Go.Proofs.Ytpfnnmcokbolhaa
open Go.RowKit

/-- the words from an address on, that can be written -/
def SomePost (ls : List LReg) (a m : Int) (w : World) (e : Ending) (w' : World) : Prop :=
  Below w.heap.size w w' ∧
  ((m = 0 ∧ e = .returned (.tuple #[.slice none 0 0, .int .i64 0])) ∨
   (∃ (i j k : Nat) (hi : i < ls.length), a = ls[i].base + j ∧ m = k ∧ 1 ≤ k ∧ j + k ≤ ls[i].words.length ∧
      e = .returned (.tuple #[.slice (some ⟨ls[i].wb, j * 2, none⟩) k (ls[i].cap - j), .int .i64 0])) ∨
   (m ≠ 0 ∧ (∀ (i : Nat) (hi : i < ls.length), 0 ≤ m → hasB ls[i].base ls[i].words.length a m = false) ∧ e = .returned (.tuple #[.slice none 0 0, .int .i64 210])))

theorem some_any {w : World} {p : Nat} {last : Int} {sl : Value} {ls : List LReg} (h : SpAt w p last sl ls) (ok : RegsOk last ls) (a m : Int) :
    Calls Try.prog 70 #[.pointer (some ⟨p, 0, none⟩), .int .i64 a, .int .i64 m] w (SomePost ls a m w) := by
  have HF := Hid.mk (find_any h ok a m)
  by_cases hm : m = 0
  · subst hm
    go_enter Try.func70, Try.ntmps70
    go_wp2
    go_ret2
    exact ⟨Below.refl _ _, .inl ⟨rfl, rfl⟩⟩
  · have hm' : (m == 0) = false := by simp [hm]
    go_enter Try.func70, Try.ntmps70
    go_wp2_with fail
    refine HF.out.mono ?_
    clear HF
    rintro e w1 ⟨hb, ⟨i, hi, hh, h0, rfl⟩ | ⟨hno, rfl⟩⟩
    · have h1 := h.below hb
      have hc1 := h1.cell0
      obtain ⟨q1, q2, q3⟩ := hasB_iff.1 hh
      obtain ⟨j, hj⟩ := Int.eq_ofNat_of_zero_le (show 0 ≤ a - ls[i].base by omega)
      obtain ⟨k, hk⟩ := Int.eq_ofNat_of_zero_le h0
      obtain rfl : a = ls[i].base + j := by omega
      subst hk
      rcases h1.shape with ⟨rfl, rfl⟩ | ⟨B, cap, rfl, hcap⟩
      · exact absurd hi (by simp)
      have hx := h1.base hi
      have hy := h1.wslice hi
      have hlo := ok.lo _ (List.getElem_mem hi)
      have hl1 := ok.last1
      have hn := ok.count
      have hcw : ls[i].words.length ≤ ls[i].cap := by
        rcases (h.words _ (List.getElem_mem hi)).2 with ⟨q, _⟩ | ⟨B', cap', cur, q, _, _, hc, _⟩
        · simp at q
        · simp at q; omega
      clear hh
      go_wp2
      go_ret2
      exact ⟨hb, .inr (.inl ⟨i, j, k, hi, rfl, rfl, by omega, by omega, congrArg (fun q => Ending.returned (.tuple #[.slice (some ⟨ls[i].wb, j * 2, none⟩) q (ls[i].cap - j), .int .i64 0])) (Nat.add_sub_cancel_left j k)⟩)⟩
    · go_wp2
      go_ret2
      exact ⟨hb, .inr (.inr ⟨hm, hno, rfl⟩)⟩
end Go.Proofs.Ytpfnnmcokbolhaa
/- Contracts of slices.Index and slices.Contains at values, and of the empty value. -/
namespace Go.Proofs.Ytpfnnmcokbolhaa
open Go.RowKit

/-- whether a value is among values, as a place that is -1 if it isn't -/
def IdxPost (ws : List (Int × Int)) (v : Int × Int) (w : World) (e : Ending) (w' : World) : Prop :=
  Below w.heap.size w w' ∧ ∃ r : Int, e = .returned (.int .i64 r) ∧ ((r = -1 ∧ v ∉ ws) ∨ (0 ≤ r ∧ v ∈ ws))

theorem indexV_any (b o n cap : Nat) (ws : List (Int × Int)) (t m : Int) (w : World) (hb : b < w.heap.size) (hn : ws.length = n) (hn2 : n ≤ 4194304)
    (h0 : ∀ k (hk : k < ws.length), w.cell? ⟨b, o + k * 2, none⟩ = some (.int .i64 ws[k].1)) (h1 : ∀ k (hk : k < ws.length), w.cell? ⟨b, o + k * 2 + 1, none⟩ = some (.int .i64 ws[k].2)) :
    Calls Try.prog 87 #[.slice (some ⟨b, o, none⟩) n cap, .agg #[.int .i64 t, .int .i64 m]] w (IdxPost ws (t, m) w) := by
  have hn' := Hid.mk hn
  clear hn
  go_enter Try.func87, Try.ntmps87
  go_wp2
  go_loopw [5, 8] (fun _ i wr => ∃ k : Nat, i = .int .i64 k ∧ k ≤ n ∧ (∀ j (hj : j < ws.length), j < k → ws[j] ≠ (t, m)) ∧ Below (w.heap.size + 1) (w.alloc (.cells #[.int .i64 t, .int .i64 m] 34)) wr) (fun _ i _ => n - (intOf i).toNat)
  case atStart => exact ⟨0, rfl, by omega, fun _ _ q => absurd q (by omega), Below.refl _ _⟩
  case round =>
    obtain ⟨k, rfl, hk, hno, hbl⟩ := hrel
    by_cases hlt : k < n
    · have hk' : k < ws.length := by have := hn'.out; omega
      have c0 := ((below_of_alloc hbl).cell (p := ⟨b, o + k * 2, none⟩) hb).trans (h0 k hk')
      have c1 := ((below_of_alloc hbl).cell (p := ⟨b, o + k * 2 + 1, none⟩) hb).trans (h1 k hk')
      have d0 : wr.cell? ⟨w.heap.size, 0, none⟩ = some (.int .i64 t) := by rw [hbl.cell (p := ⟨w.heap.size, 0, none⟩) (by simp)]; simp
      have d1 : wr.cell? ⟨w.heap.size, 1, none⟩ = some (.int .i64 m) := by rw [hbl.cell (p := ⟨w.heap.size, 1, none⟩) (by simp)]; simp
      by_cases e : ws[k] = (t, m)
      · have f1 : (t == ws[k].1) = true := by simp [e]
        have f2 : (m == ws[k].2) = true := by simp [e]
        have E := Hid.mk e
        clear e
        go_wp2
        go_quiet (fail)
        go_wp2
        go_ret
        exact ⟨below_of_alloc (below_drewN hbl _), k, rfl, .inr ⟨by omega, by rw [← E.out]; exact List.getElem_mem hk'⟩⟩
      · have E : Hid (∀ j (hj : j < ws.length), j < k + 1 → ws[j] ≠ (t, m)) := by
          intro j hj hjk
          rcases Nat.lt_or_ge j k with q | q
          · exact hno j hj q
          · obtain rfl : j = k := by omega
            exact e
        by_cases e1 : t = ws[k].1
        · have f1 : (t == ws[k].1) = true := by simp [e1]
          have f2 : (m == ws[k].2) = false := by simp; intro e2; exact e (by rw [e1, e2])
          clear e1 e hno
          go_wp2
          go_quiet (fail)
          go_wp2
          exact ⟨⟨k + 1, by go_num, by omega, E.out, below_drewN hbl _⟩, by simp [intOf]; omega⟩
        · have f1 : (t == ws[k].1) = false := by simp [e1]
          clear e1 e hno
          go_wp2
          go_quiet (fail)
          go_wp2
          exact ⟨⟨k + 1, by go_num, by omega, E.out, below_drewN hbl _⟩, by simp [intOf]; omega⟩
    · obtain rfl : k = n := by omega
      go_wp2
      go_ret
      exact ⟨below_of_alloc hbl, -1, rfl, .inl ⟨rfl, fun q => by
        obtain ⟨j, hj, e⟩ := List.getElem_of_mem q
        exact hno j hj (by have := hn'.out; omega) e⟩⟩
theorem indexV_nil (t m : Int) (w : World) : Calls Try.prog 87 #[.slice none 0 0, .agg #[.int .i64 t, .int .i64 m]] w (IdxPost [] (t, m) w) := by
  go_enter Try.func87, Try.ntmps87
  go_wp2
  refine wp_loop_rounds 1 ?_; rw [rounds_succ]
  go_wp2
  go_ret
  exact ⟨(Below.refl _ _).alloc (Nat.le_refl _) _, -1, rfl, .inl ⟨rfl, by simp⟩⟩

def ConPost (ws : List (Int × Int)) (v : Int × Int) (w : World) (e : Ending) (w' : World) : Prop :=
  Below w.heap.size w w' ∧ e = .returned (.bool (decide (v ∈ ws)))
theorem containsV_of (s : Value) (ws : List (Int × Int)) (t m : Int) (w : World) (h : ∀ w1, Below w.heap.size w w1 → Calls Try.prog 87 #[s, .agg #[.int .i64 t, .int .i64 m]] w1 (IdxPost ws (t, m) w1)) :
    Calls Try.prog 71 #[s, .agg #[.int .i64 t, .int .i64 m]] w (ConPost ws (t, m) w) := by
  have HI := Hid.mk (h (w.alloc (.cells #[.int .i64 t, .int .i64 m] 34)) ((Below.refl _ _).alloc (Nat.le_refl _) _))
  clear h
  go_enter Try.func71, Try.ntmps71
  go_wp2_with fail
  refine HI.out.mono ?_
  clear HI
  rintro e w1 ⟨hb, r, rfl, ⟨rfl, hv⟩ | ⟨hr, hv⟩⟩
  · go_wp2
    go_ret
    exact ⟨((Below.refl _ _).alloc (Nat.le_refl _) _).trans (hb.mono (by simp)), by simp [hv]⟩
  · go_wp2
    go_ret
    exact ⟨((Below.refl _ _).alloc (Nat.le_refl _) _).trans (hb.mono (by simp)), by simp [hv]⟩

theorem empty_any (w : World) : Calls Try.prog 72 #[] w fun e w' => e = .returned (.agg #[.int .i64 0, .int .i64 0]) ∧ Below w.heap.size w w' := by
  go_enter Try.func72, Try.ntmps72
  go_wp2
  exact bodyPost_ret (v := .agg #[.int .i64 0, .int .i64 0]) (by simp [results, Try.results72, go_sem]) rfl ⟨rfl, ((Below.refl _ _).alloc (Nat.le_refl _) _).alloc (by simp) _⟩
end Go.Proofs.Ytpfnnmcokbolhaa
/- The contract of slices.Clone at values. -/
namespace Go.Proofs.Ytpfnnmcokbolhaa
open Go.RowKit
theorem infoV : (Try.prog.info? 34).map (fun i => (i.zero, i.size, i.bytes)) = some (some (.agg #[.int .i64 0, .int .i64 0]), 2, 16) := by kernel_rfl
theorem nilV (w : World) (a : Option Addr) (n c n' c' : Nat) : (binOp .eql 32 (.slice a n c) (.slice none n' c')).run Try.prog w = .ok (.bool a.isNone) w := Lib.run_eql_slice_nil w _ _ a n c n' c' Try.underlying32
set_option maxRecDepth 100000 in
theorem cloneV_nil (w : World) : Calls Try.prog 73 #[.slice none 0 0] w fun e w' => e = .returned (.slice none 0 0) ∧ w' = w := by
  have q := nilV
  go_enter Try.func73, Try.ntmps73
  go_wp2
  go_ret
  exact ⟨rfl, rfl⟩
/-- a row of the call's own -/
def RowPost (T n : Nat) (xs : List Value) (w : World) (e : Ending) (w' : World) : Prop :=
  Below w.heap.size w w' ∧ ∃ g c, w'.ownsRow w.heap.size T 2 (.slice (some ⟨g, 0, none⟩) n c) n xs ∧ e = .returned (.slice (some ⟨g, 0, none⟩) n c)
set_option maxRecDepth 100000 in
theorem cloneV_any (b o n cap : Nat) (xs : List Value) (w : World) (hb : b < w.heap.size) (hn : xs.length = n * 2) (h1 : 1 ≤ n) (hn2 : n ≤ 4194304)
    (hc : ∀ j u, xs[j]? = some u → w.cell? ((⟨b, o, none⟩ : Addr).add j) = some u) (hone : ∀ u ∈ xs, u.oneCell' = true) :
    Calls Try.prog 73 #[.slice (some ⟨b, o, none⟩) n cap] w (RowPost 34 n xs w) := by
  obtain ⟨i0, hi, hz0, hz1, hz2⟩ := info_parts infoV
  have q := nilV
  have hn' := Hid.mk hn
  have hc' := Hid.mk hc
  clear hn hc
  go_enter Try.func73, Try.ntmps73
  go_wp2_with (at_builtin; refine wpList_append_own _ rfl (.tmp 5) (.tmp 6) 32 rfl w.heap.size 34 i0 (.agg #[.int .i64 0, .int .i64 0]) 2 16 Try.underlying32 hi hz0 hz1 hz2 rfl (by decide) _ 0 [] rfl (World.ownsRow_lit _ _ _ ?c0 ?c01 ?c02) ⟨b, o, none⟩ n cap xs rfl ?c1 ?c2 ?c3 ?c4 ?c5 ?c6 ?_)
  case c0 => exact Nat.le_refl _
  case c01 => exact Nat.zero_le _
  case c02 => rfl
  case c1 => exact hn'.out
  case c2 => intro j u hu; rw [cell_alloc (by rw [add_block]; exact hb)]; exact hc'.out j u hu
  case c3 => exact hone
  case c4 => unfold maxLen; omega
  case c5 => omega
  case c6 => simp
  intro v' w' hown hgrow hnn
  obtain ⟨g, c, rfl⟩ := row_shape hown h1
  go_wp2
  go_ret
  exact ⟨((Below.refl _ _).alloc (Nat.le_refl _) _).grown hgrow (by simp) (by intro k hk; simp [Value.ownBlock] at hk; omega), g, c, by simpa using hown, rfl⟩
end Go.Proofs.Ytpfnnmcokbolhaa
/- The contract of Run: the values of words. -/
namespace Go.Proofs.Ytpfnnmcokbolhaa
open Go.RowKit

/-- k words from the j-th on -/
def seg (l : List (Int × Int)) (j k : Nat) : List (Int × Int) := (l.drop j).take k
theorem seg_len {l : List (Int × Int)} {j k : Nat} (h : j + k ≤ l.length) : (seg l j k).length = k := by simp [seg]; omega
theorem seg_get {l : List (Int × Int)} {j k i : Nat} (h : j + k ≤ l.length) (hi : i < (seg l j k).length) : (seg l j k)[i] = l[j + i]'(by rw [seg_len h] at hi; omega) := by simp [seg]

theorem row_base {w : World} {b b' : Nat} {e : TypeId} {size : Nat} {v : Value} {n : Nat} {xs : List Value} (h : w.ownsRow b' e size v n xs) (hb : b ≤ b') : w.ownsRow b e size v n xs := by
  refine ⟨h.1, ?_⟩
  rcases h.2 with q | ⟨g, cap, cur, rfl, q, r⟩
  · exact .inl q
  · exact .inr ⟨g, cap, cur, rfl, by omega, r⟩

def RunPost (ls : List LReg) (a m : Int) (w : World) (e : Ending) (w' : World) : Prop :=
  Below w.heap.size w w' ∧
  ((m = 0 ∧ e = .returned (.tuple #[.slice none 0 0, .int .i64 0])) ∨
   (∃ (i j k : Nat) (hi : i < ls.length), a = ls[i].base + j ∧ m = k ∧ 1 ≤ k ∧ j + k ≤ ls[i].words.length ∧
      (((0, 0) ∈ seg ls[i].words j k ∧ e = .returned (.tuple #[.slice none 0 0, .int .i64 212])) ∨
       ((0, 0) ∉ seg ls[i].words j k ∧ ∃ g c, w'.ownsRow w.heap.size 34 2 (.slice (some ⟨g, 0, none⟩) k c) k (wcells (seg ls[i].words j k)) ∧ e = .returned (.tuple #[.slice (some ⟨g, 0, none⟩) k c, .int .i64 0])))) ∨
   (m ≠ 0 ∧ (∀ (i : Nat) (hi : i < ls.length), 0 ≤ m → hasB ls[i].base ls[i].words.length a m = false) ∧ e = .returned (.tuple #[.slice none 0 0, .int .i64 210])))

theorem mem_one (xs : List (Int × Int)) : ∀ u ∈ wcells xs, u.oneCell' = true := by
  intro u hu
  simp only [wcells, List.mem_flatMap, wcell, List.mem_cons, List.not_mem_nil, or_false] at hu
  obtain ⟨v, _, rfl | rfl⟩ := hu <;> rfl

/-- the cells of a piece -/
theorem seg_cells {w : World} {p : Nat} {last : Int} {sl : Value} {ls : List LReg} (h : SpAt w p last sl ls) {i j k : Nat} (hi : i < ls.length) (hjk : j + k ≤ ls[i].words.length) :
    ∀ q u, (wcells (seg ls[i].words j k))[q]? = some u → w.cell? ((⟨ls[i].wb, j * 2, none⟩ : Addr).add q) = some u := by
  intro q u hu
  have hq : q < k * 2 := by have := (List.getElem?_eq_some_iff.1 hu).1; rw [wcells_len, seg_len hjk] at this; exact this
  have hadd : (⟨ls[i].wb, j * 2, none⟩ : Addr).add q = ⟨ls[i].wb, j * 2 + q, none⟩ := by unfold Addr.add; split <;> simp_all
  rw [hadd]
  have hqk : q / 2 < (seg ls[i].words j k).length := by rw [seg_len hjk]; omega
  rcases Nat.mod_two_eq_zero_or_one q with e | e
  · obtain ⟨r, rfl⟩ : ∃ r, q = r * 2 := ⟨q / 2, by omega⟩
    have hr : r < (seg ls[i].words j k).length := by rw [seg_len hjk]; omega
    rw [wcells_fst hr, seg_get hjk hr] at hu
    rw [show j * 2 + r * 2 = (j + r) * 2 by omega, h.type hi (k := j + r) (by rw [seg_len hjk] at hr; omega)]; exact hu
  · obtain ⟨r, rfl⟩ : ∃ r, q = r * 2 + 1 := ⟨q / 2, by omega⟩
    have hr : r < (seg ls[i].words j k).length := by rw [seg_len hjk]; omega
    rw [wcells_snd hr, seg_get hjk hr] at hu
    rw [show j * 2 + (r * 2 + 1) = (j + r) * 2 + 1 by omega, h.num hi (k := j + r) (by rw [seg_len hjk] at hr; omega)]; exact hu

theorem run_any {w : World} {p : Nat} {last : Int} {sl : Value} {ls : List LReg} (h : SpAt w p last sl ls) (ok : RegsOk last ls) (a m : Int) :
    Calls Try.prog 48 #[.pointer (some ⟨p, 0, none⟩), .int .i64 a, .int .i64 m] w (RunPost ls a m w) := by
  have HF := Hid.mk (some_any h ok a m)
  go_enter Try.func48, Try.ntmps48
  go_wp2_with fail
  refine HF.out.mono ?_
  clear HF
  rintro e w1 ⟨hb, ⟨rfl, rfl⟩ | ⟨i, j, k, hi, rfl, rfl, hk, hjk, rfl⟩ | ⟨hm, hno, rfl⟩⟩
  · go_wp2_with fail
    refine (empty_any _).mono ?_
    rintro e w2 ⟨rfl, hb2⟩
    go_wp2_with fail
    refine (containsV_of _ [] 0 0 _ (fun w3 _ => indexV_nil 0 0 w3)).mono ?_
    rintro e w3 ⟨hb3, rfl⟩
    have hd : decide (((0 : Int), (0 : Int)) ∈ ([] : List (Int × Int))) = false := by simp
    rw [hd]
    go_wp2_with fail
    refine (cloneV_nil _).mono ?_
    rintro e w4 ⟨rfl, rfl⟩
    go_wp2
    go_ret2
    exact ⟨(hb.trans (hb2.mono hb.size)).trans (hb3.mono (Nat.le_trans hb.size hb2.size)), .inl ⟨rfl, rfl⟩⟩
  · have hwb : ls[i].wb < w1.heap.size := (h.below hb).lt _ (by simp only [foot, List.mem_cons, List.mem_append, List.mem_map]; exact .inr (.inr ⟨_, List.getElem_mem hi, rfl⟩))
    have hlen := seg_len hjk
    have hlo := ok.lo _ (List.getElem_mem hi)
    go_wp2_with fail
    refine (empty_any _).mono ?_
    rintro e w2 ⟨rfl, hb2⟩
    have hw2 := (h.below hb).below hb2
    go_wp2_with fail
    refine (containsV_of _ (seg ls[i].words j k) 0 0 _ (fun w3 hb3 => ?_)).mono ?_
    · have h3 := hw2.below hb3
      refine indexV_any _ _ _ _ _ _ _ _ (Nat.lt_of_lt_of_le (Nat.lt_of_lt_of_le hwb hb2.size) hb3.size) hlen (by omega) ?_ ?_
      · intro q hq
        rw [hlen] at hq
        rw [show j * 2 + q * 2 = (j + q) * 2 by omega, h3.type hi (k := j + q) (by omega), seg_get hjk]
      · intro q hq
        rw [hlen] at hq
        rw [show j * 2 + q * 2 + 1 = (j + q) * 2 + 1 by omega, h3.num hi (k := j + q) (by omega), seg_get hjk]
    rintro e w3 ⟨hb3, rfl⟩
    have h3 := hw2.below hb3
    have hbb : Below w.heap.size w w3 := (hb.trans (hb2.mono hb.size)).trans (hb3.mono (Nat.le_trans hb.size hb2.size))
    by_cases hz : (0, 0) ∈ seg ls[i].words j k
    · have hd : decide ((0, 0) ∈ seg ls[i].words j k) = true := by simp [hz]
      rw [hd]
      clear hd
      have Z := Hid.mk hz
      clear hz
      go_wp2
      go_ret2
      exact ⟨hbb, .inr (.inl ⟨i, j, k, hi, rfl, rfl, hk, hjk, .inl ⟨Z.out, rfl⟩⟩)⟩
    · have hd : decide ((0, 0) ∈ seg ls[i].words j k) = false := by simp [hz]
      rw [hd]
      clear hd
      have Z := Hid.mk hz
      clear hz
      have hwb3 := Nat.lt_of_lt_of_le (Nat.lt_of_lt_of_le hwb hb2.size) hb3.size
      have HC := Hid.mk (cloneV_any ls[i].wb (j * 2) k (ls[i].cap - j) (wcells (seg ls[i].words j k)) w3 hwb3 (by rw [wcells_len, hlen]) hk (by omega) (seg_cells h3 hi hjk) (mem_one _))
      go_wp2_with fail
      refine HC.out.mono ?_
      rintro e w4 ⟨hb4, g, c, hrow, rfl⟩
      go_wp2
      go_ret2
      refine ⟨hbb.trans (hb4.mono hbb.size), .inr (.inl ⟨i, j, k, hi, rfl, rfl, hk, hjk, .inr ⟨Z.out, g, c, ?_, rfl⟩⟩)⟩
      exact row_base hrow hbb.size
  · go_wp2
    go_ret2
    exact ⟨hb, .inr (.inr ⟨hm, hno, rfl⟩)⟩
end Go.Proofs.Ytpfnnmcokbolhaa
/- Contracts of Get and Of: a word's value, the region of an address. -/
namespace Go.Proofs.Ytpfnnmcokbolhaa
open Go.RowKit

/-- what is known of a block of two cells that was laid ahead of a call -/
theorem box2 {w w1 : World} {u v : Value} {T : TypeId} (hb : Below (w.alloc (.cells #[u, v] T)).heap.size (w.alloc (.cells #[u, v] T)) w1) :
    w1.cell? ⟨w.heap.size, 0, none⟩ = some u ∧ w1.cell? ⟨w.heap.size, 1, none⟩ = some v ∧ (∀ o, w1.frozen? ⟨w.heap.size, o, none⟩ = false) ∧ w.heap.size < w1.heap.size := by
  refine ⟨?_, ?_, fun o => ?_, ?_⟩
  · rw [hb.cell (p := ⟨w.heap.size, 0, none⟩) (by simp)]; simp
  · rw [hb.cell (p := ⟨w.heap.size, 1, none⟩) (by simp)]; simp
  · rw [hb.frozen (p := ⟨w.heap.size, o, none⟩) (by simp)]; simp
  · have := hb.size; simp at this; omega

def GetPost (ls : List LReg) (a : Int) (w : World) (e : Ending) (w' : World) : Prop :=
  Below w.heap.size w w' ∧
  ((∃ (i j : Nat) (hi : i < ls.length) (hj : j < ls[i].words.length), a = ls[i].base + j ∧
      ((ls[i].words[j] = (0, 0) ∧ e = .returned (.tuple #[.agg #[.int .i64 0, .int .i64 0], .int .i64 212])) ∨
       (ls[i].words[j] ≠ (0, 0) ∧ e = .returned (.tuple #[.agg #[.int .i64 ls[i].words[j].1, .int .i64 ls[i].words[j].2], .int .i64 0])))) ∨
   ((∀ (i : Nat) (hi : i < ls.length), hasB ls[i].base ls[i].words.length a 1 = false) ∧ e = .returned (.tuple #[.agg #[.int .i64 0, .int .i64 0], .int .i64 210])))
theorem seg_one {l : List (Int × Int)} {j : Nat} (h : j < l.length) : seg l j 1 = [l[j]] := by
  unfold seg; rw [List.drop_eq_getElem_cons h]; rfl

set_option maxRecDepth 100000 in
theorem get_any {w : World} {p : Nat} {last : Int} {sl : Value} {ls : List LReg} (h : SpAt w p last sl ls) (ok : RegsOk last ls) (a : Int) :
    Calls Try.prog 53 #[.pointer (some ⟨p, 0, none⟩), .int .i64 a] w (GetPost ls a w) := by
  have hb0 : Below w.heap.size w (w.alloc (.cells #[.int .i64 0, .int .i64 0] 34)) := (Below.refl _ _).alloc (Nat.le_refl _) _
  have HF := Hid.mk (run_any (h.below hb0) ok a 1)
  go_enter Try.func53, Try.ntmps53
  go_wp2_with fail
  refine HF.out.mono ?_
  clear HF
  rintro e w1 ⟨hb, ⟨q, _⟩ | ⟨i, j, k, hi, rfl, hk1, hk, hjk, ⟨hz, rfl⟩ | ⟨hz, g, c, hrow, rfl⟩⟩ | ⟨hm, hno, rfl⟩⟩
  · exact absurd q (by omega)
  all_goals
    obtain ⟨c0, c1, f0, hsz⟩ := box2 hb
    have hbb := hb0.trans (hb.mono hb0.size)
  · obtain rfl : k = 1 := by omega
    have hj : j < ls[i].words.length := by omega
    rw [seg_one hj] at hz
    have Z := Hid.mk hz
    clear hz hk1
    go_wp2
    refine bodyPost_ret (v := .tuple #[.agg #[.int .i64 0, .int .i64 0], .int .i64 212]) (by simp [results, Try.results53, go_sem, c0, c1]) rfl ⟨?_, .inl ⟨i, j, hi, hj, rfl, .inl ⟨?_, rfl⟩⟩⟩
    · exact (hbb.setCell (Nat.le_refl _) _).setCell (Nat.le_refl _) _
    · have := Z.out; simp at this; exact this.symm
  · obtain rfl : k = 1 := by omega
    have hj : j < ls[i].words.length := by omega
    rw [seg_one hj] at hz hrow
    have Z := Hid.mk hz
    clear hz hk1
    have r0 : w1.cell? ⟨g, 0, none⟩ = some (.int .i64 ls[i].words[j].1) := row_cell hrow (j := 0) rfl
    have r1 : w1.cell? ⟨g, 1, none⟩ = some (.int .i64 ls[i].words[j].2) := row_cell hrow (j := 1) rfl
    go_wp2
    refine bodyPost_ret (v := .tuple #[.agg #[.int .i64 ls[i].words[j].1, .int .i64 ls[i].words[j].2], .int .i64 0]) (by simp [results, Try.results53, go_sem, c0, c1]) rfl ⟨?_, .inl ⟨i, j, hi, hj, rfl, .inr ⟨?_, rfl⟩⟩⟩
    · exact (hbb.setCell (Nat.le_refl _) _).setCell (Nat.le_refl _) _
    · have := Z.out; simp at this; exact fun e => this e.symm
  · go_wp2
    refine bodyPost_ret (v := .tuple #[.agg #[.int .i64 0, .int .i64 0], .int .i64 210]) (by simp [results, Try.results53, go_sem, c0, c1]) rfl ⟨?_, .inr ⟨fun i hi => hno i hi (by omega), rfl⟩⟩
    exact (hbb.setCell (Nat.le_refl _) _).setCell (Nat.le_refl _) _

end Go.Proofs.Ytpfnnmcokbolhaa
/- Laws of clear and copy at a row of elements of whatever size. -/
namespace Go.Proofs.Ytpfnnmcokbolhaa
open Go.RowKit

section
variable {P : Program} {w : World} {base : Nat} {e : TypeId} {size g n cap : Nat} {xs : List Value}

theorem length_splice' {α : Type} (L : List α) (off : Nat) (cs : List α) (h : off + cs.length ≤ L.length) : (splice L off cs).length = L.length := by simp [splice]; omega

theorem row_store (h : w.ownsRow base e size (.slice (some ⟨g, 0, none⟩) n cap) n xs) (o : Nat) (vs : List Value) (hfit : o + vs.length ≤ n * size) (h1 : ∀ v ∈ vs, v.oneCell' = true) :
    ∃ w', (storeCells ⟨g, o, none⟩ vs 0).run P w = .ok () w' ∧ w'.ownsRow base e size (.slice (some ⟨g, 0, none⟩) n cap) n (splice xs o vs) ∧ w.grownBy w' (some g) := by
  obtain ⟨hl, q | ⟨g', cap', cur, hv, hb, hg, hn, hm, hs, ht⟩⟩ := h
  · simp at q
  · simp only [Value.slice.injEq, Option.some.injEq, Addr.mk.injEq, and_true, true_and] at hv
    obtain ⟨rfl, rfl⟩ := hv
    have hnc : n * size ≤ cap * size := Nat.mul_le_mul_right _ hn
    have hst := run_storeCells_at P g o e vs 0 cur w hg (by rw [hs]; simp; omega) h1
    simp only [Nat.add_zero] at hst
    refine ⟨_, hst, ⟨by rw [length_splice' _ _ _ (by omega)]; exact hl, .inr ⟨g, cap, _, rfl, hb, setRow_heap w g _ _ e _ hg, hn, hm, ?_, ?_⟩⟩, ⟨rfl, rfl, rfl, by simp [World.setRow], fun k _ hk => setRow_other w g k _ (fun q => hk (by rw [q]))⟩⟩
    · simp only [List.size_toArray, List.length_append, List.length_take, List.length_drop, Array.length_toList]; omega
    · subst ht
      simp only [splice, List.take_append, List.take_take, List.length_take, List.length_append, Array.length_toList, List.drop_take, hs]
      have hc : cur.toList.length = cap * size := by simp [hs]
      rw [Nat.min_eq_right (by omega), Nat.min_eq_left (by omega), Nat.min_eq_left (by omega), List.take_of_length_le (l := vs) (by omega), List.append_assoc]

theorem wpList_clear_row {ops : Array Oper} {rest : List Oper} {o : Oper} {a : Act} {Q : Exit → Act → World → Prop} (hgd : o.guard = none) (s : Operand) (t : TypeId)
    (ho : o.op = .call { callee := .builtin .clear, args := #[s], argTypes := #[t] }) (ht : P.underlying t = some (.slice e)) (z : Value) (hv : ∀ w, (zeroValue e).run P w = .ok z w)
    (off k c : Nat) (hs : a.eval s = .slice (some ⟨g, off, none⟩) k c) (h1 : 1 ≤ k) (hown : w.ownsRow base e size (.slice (some ⟨g, 0, none⟩) n cap) n xs)
    (zs : List Value) (hzs : (Builtin.zeroCells z.cells k).toList = zs) (hfit : off + zs.length ≤ n * size) (hone : ∀ v ∈ zs, v.oneCell' = true)
    (h : ∀ w', w'.ownsRow base e size (.slice (some ⟨g, 0, none⟩) n cap) n (splice xs off zs) → w.grownBy w' (some g) → wpList P ops Q rest (a.put o.dst (.tuple #[])) w') : wpList P ops Q (o :: rest) a w := by
  refine wpList_plain hgd fun K hK => ?_
  obtain ⟨w', hst, hr, hg⟩ := row_store (P := P) hown off zs hfit hone
  obtain ⟨k, rfl⟩ : ∃ m, k = m + 1 := ⟨k - 1, by omega⟩
  have hrun : (Builtin.clear_ #[t] o.type #[.slice (some ⟨g, off, none⟩) (k + 1) c]).run P w = .ok (.tuple #[]) w' := by
    simp [Builtin.clear_, run_underlying ht, hv, hzs, hst]
  unfold Oper.wp
  simp [execOp, ho, resolve, invoke, builtin, hs, hrun, Result.andThen]
  exact hK _ _ (h w' hr hg)

end
end Go.Proofs.Ytpfnnmcokbolhaa
