/- The contract of Drop: words are emptied. -/
import Derived.Test.YtkooogllajmkeaaPt
namespace Go.Proofs.Ytkooogllajmkeaa
open Go.RowKit

theorem zeroV (w : World) : (zeroValue 29).run Try.prog w = .ok (.agg #[.int .i64 0, .int .i64 0]) w := by kernel_rfl
/-- words laid over others, from the j-th on -/
def over (l : List (Int × Int)) (j : Nat) (vs : List (Int × Int)) : List (Int × Int) := l.take j ++ (vs ++ l.drop (j + vs.length))
theorem over_len {l vs : List (Int × Int)} {j : Nat} (h : j + vs.length ≤ l.length) : (over l j vs).length = l.length := by simp [over]; omega
theorem wcells_app (a b : List (Int × Int)) : wcells (a ++ b) = wcells a ++ wcells b := by simp [wcells]
theorem wcells_take (l : List (Int × Int)) (j : Nat) : wcells (l.take j) = (wcells l).take (j * 2) := by
  induction l generalizing j with
  | nil => simp [wcells]
  | cons a l ih =>
    cases j with
    | zero => simp [wcells]
    | succ j => have := ih j; simp only [wcells, List.take_succ_cons, List.flatMap_cons, wcell, show (j + 1) * 2 = j * 2 + 2 by omega] at this ⊢; rw [this]; simp
theorem wcells_drop (l : List (Int × Int)) (j : Nat) : wcells (l.drop j) = (wcells l).drop (j * 2) := by
  induction l generalizing j with
  | nil => simp [wcells]
  | cons a l ih =>
    cases j with
    | zero => simp [wcells]
    | succ j => have := ih j; simp only [wcells, List.drop_succ_cons, List.flatMap_cons, wcell, show (j + 1) * 2 = j * 2 + 2 by omega] at this ⊢; rw [this]; simp
theorem wcells_over (l : List (Int × Int)) (j : Nat) (vs : List (Int × Int)) : wcells (over l j vs) = splice (wcells l) (j * 2) (wcells vs) := by
  unfold over splice
  rw [wcells_app, wcells_app, wcells_take, wcells_drop, wcells_len, Nat.add_mul]
theorem zeros_cells (k : Nat) : (Builtin.zeroCells #[Value.int .i64 0, .int .i64 0] k).toList = wcells (List.replicate k (0, 0)) := by
  apply List.ext_getElem?
  intro i
  rcases Nat.lt_or_ge i (k * 2) with h | h
  · have h1 : i < (Builtin.zeroCells #[Value.int .i64 0, .int .i64 0] k).toList.length := by simp [Builtin.zeroCells]; omega
    have h2 : i / 2 < (List.replicate k ((0 : Int), (0 : Int))).length := by simp; omega
    rcases Nat.mod_two_eq_zero_or_one i with e | e
    · have := wcells_fst h2
      rw [show i / 2 * 2 = i by omega] at this
      rw [this]
      simp [Builtin.zeroCells, h, e]
    · have := wcells_snd h2
      rw [show i / 2 * 2 + 1 = i by omega] at this
      rw [this]
      simp [Builtin.zeroCells, h, e]
  · rw [List.getElem?_eq_none (by simp [Builtin.zeroCells]; omega), List.getElem?_eq_none (by rw [wcells_len]; simp; omega)]


theorem wpList_clear_nil {P : Program} {w : World} {e : TypeId} {ops : Array Oper} {rest : List Oper} {o : Oper} {a : Act} {Q : Exit → Act → World → Prop} (hgd : o.guard = none) (s : Operand) (t : TypeId)
    (ho : o.op = .call { callee := .builtin .clear, args := #[s], argTypes := #[t] }) (ht : P.underlying t = some (.slice e)) (k c : Nat) (hs : a.eval s = .slice none k c)
    (h : wpList P ops Q rest (a.put o.dst (.tuple #[])) w) : wpList P ops Q (o :: rest) a w := by
  refine wpList_plain hgd fun K hK => ?_
  have hrun : (Builtin.clear_ #[t] o.type #[.slice none k c]).run P w = .ok (.tuple #[]) w := by
    simp [Builtin.clear_, run_underlying ht]
  unfold Oper.wp
  simp [execOp, ho, resolve, invoke, builtin, hs, hrun, Result.andThen]
  exact hK _ _ h
/-- what Drop and Move come to -/
def DropPost (p : Nat) (last : Int) (sl : Value) (ls : List LReg) (a m : Int) (w : World) (e : Ending) (w' : World) : Prop :=
  (m = 0 ∧ Below w.heap.size w w' ∧ e = .returned (.int .i64 0)) ∨
  (∃ (i j k : Nat) (hi : i < ls.length), a = ls[i].base + j ∧ m = k ∧ 1 ≤ k ∧ j + k ≤ ls[i].words.length ∧ Kp [ls[i].wb] w w' ∧ SpAt w' p last sl (setWords ls i (over ls[i].words j (List.replicate k (0, 0)))) ∧ e = .returned (.int .i64 0)) ∨
  (m ≠ 0 ∧ (∀ (i : Nat) (hi : i < ls.length), 0 ≤ m → hasB ls[i].base ls[i].words.length a m = false) ∧ Below w.heap.size w w' ∧ e = .returned (.int .i64 210))

set_option maxRecDepth 100000 in
theorem drop_any {w : World} {p : Nat} {last : Int} {sl : Value} {ls : List LReg} (h : SpAt w p last sl ls) (ok : RegsOk last ls) (a m : Int) :
    Calls Try.prog 18 #[.pointer (some ⟨p, 0, none⟩), .int .i64 a, .int .i64 m] w (DropPost p last sl ls a m w) := by
  have HF := Hid.mk (some_any h ok a m)
  go_enter Try.func18, Try.ntmps18
  go_wp2_with fail
  refine HF.out.mono ?_
  clear HF
  rintro e w1 ⟨hb, ⟨rfl, rfl⟩ | ⟨i, j, k, hi, rfl, rfl, hk, hjk, rfl⟩ | ⟨hm, hno, rfl⟩⟩
  · go_wp2_with (with_reducible refine wpList_clear_nil rfl (.tmp 16) 62 rfl Try.underlying62 0 0 rfl ?_)
    go_ret
    exact .inl ⟨rfl, hb, rfl⟩
  · have h1 := h.below hb
    have hr := h1.wrow hi
    go_wp2_with (with_reducible refine wpList_clear_row rfl (.tmp 16) 62 rfl Try.underlying62 (.agg #[.int .i64 0, .int .i64 0]) zeroV (j * 2) k (ls[i].cap - j) rfl hk hr (wcells (List.replicate k (0, 0))) ?c0 ?c1 (mem_one _) ?_)
    case c0 => exact zeros_cells k
    case c1 => rw [wcells_len]; simp; omega
    intro w2 hr2 hg2
    go_wp2
    go_ret
    refine .inr (.inl ⟨i, j, k, hi, rfl, rfl, hk, hjk, ?_, ?_, rfl⟩)
    · exact (Kp.of_below hb _).grown hg2 (by intro q hq; simp at hq; exact .inl (by simp [hq]))
    · refine h1.replace hi ((Kp.refl _ _).grown hg2 (by intro q hq; simp at hq; exact .inl (by simp [hq]))) _ (over_len (by simp; omega)) ?_
      rw [wcells_over]; exact hr2
  · go_wp2_with (with_reducible refine wpList_clear_nil rfl (.tmp 16) 62 rfl Try.underlying62 0 0 rfl ?_)
    go_ret
    exact .inr (.inr ⟨hm, hno, hb, rfl⟩)
end Go.Proofs.Ytkooogllajmkeaa
