/- What the laws ask of a space, in plain words. -/
import Derived.Test.YtkooogllajmkeaaAl
import Derived.Test.YtkooogllajmkeaaGr
namespace Go.Proofs.Ytkooogllajmkeaa
open Go.RowKit

def Spok (S : Sp) : Prop := ∃ ls : List LReg, S.regs = ls.map LReg.reg ∧ RegsOk S.last ls
theorem Spc.ok {w : World} {p : Nat} {S : Sp} {fs : List Nat} (h : Spc w p S fs) : Spok S := let ⟨_, ls, _, ok, hr, _⟩ := h; ⟨ls, hr, ok⟩
theorem Loc.ok {w W : World} {p : Nat} {S : Sp} {E : List (Nat × Obj)} (h : Loc w p S E W) : Spok S := let ⟨_, h1, _⟩ := h; h1.ok
theorem Spok.last0 {S : Sp} (h : Spok S) : 0 ≤ S.last := let ⟨_, _, ok⟩ := h; ok.last0
theorem Spok.last1 {S : Sp} (h : Spok S) : S.last ≤ 2305843009213693952 := let ⟨_, _, ok⟩ := h; ok.last1
theorem tells_len (rs : List Reg) : (tells rs).length = rs.length := by simp [tells]
theorem tells_get {rs : List Reg} {i : Nat} (hi : i < (tells rs).length) : ∃ h : i < rs.length, (tells rs)[i] = (rs[i].base, (rs[i].words.length : Int)) := ⟨by simpa [tells] using hi, by simp [tells]⟩

theorem tells_at {S : Sp} (h : Spok S) {i : Nat} (hi : i < (tells S.regs).length) :
    1 ≤ (tells S.regs)[i].1 ∧ 1 ≤ (tells S.regs)[i].2 ∧ (tells S.regs)[i].1 + (tells S.regs)[i].2 ≤ S.last + 1 ∧
    S.of (tells S.regs)[i].1 = ((tells S.regs)[i], true) ∧ S.of ((tells S.regs)[i].1 + (tells S.regs)[i].2 - 1) = ((tells S.regs)[i], true) := by
  obtain ⟨hr, e⟩ := tells_get hi
  obtain ⟨ls, hl, ok⟩ := h
  have hil : i < ls.length := by rw [hl] at hr; simpa using hr
  have er : S.regs[i] = ls[i].reg := by simp [hl]
  rw [e, er]
  obtain ⟨l1, l2, l3, l4⟩ := ok.lo ls[i] (List.getElem_mem hil)
  have q0 := loc_at ok hil (j := 0) (m := 1) (by omega) (by omega)
  have q1 := loc_at ok hil (j := ls[i].words.length - 1) (m := 1) (by omega) (by omega)
  have ea : ls[i].base + ((ls[i].words.length - 1 : Nat) : Int) = ls[i].base + (ls[i].words.length : Int) - 1 := by omega
  rw [ea] at q1
  simp only [Int.natCast_zero, Int.add_zero] at q0
  refine ⟨l1, by simp only [LReg.reg]; omega, by simpa [LReg.reg] using l4, ?_, ?_⟩
  · unfold Sp.of
    rw [hl]
    simp only [LReg.reg] at q0 ⊢
    rw [q0]
    simp [hil, wordsAt, LReg.reg]
  · unfold Sp.of
    rw [hl]
    simp only [LReg.reg] at q1 ⊢
    rw [q1]
    simp [hil, wordsAt, LReg.reg]
theorem tells_sep {S : Sp} (h : Spok S) {i : Nat} (hi : i + 1 < (tells S.regs).length) : (tells S.regs)[i].1 + (tells S.regs)[i].2 < (tells S.regs)[i + 1].1 := by
  obtain ⟨hr, e⟩ := tells_get hi
  obtain ⟨hr', e'⟩ := tells_get (rs := S.regs) (i := i) (by omega)
  obtain ⟨ls, hl, ok⟩ := h
  rw [e, e']
  have hil : i + 1 < ls.length := by rw [hl] at hr; simpa using hr
  have er : S.regs[i] = ls[i].reg := by simp [hl]
  have er' : S.regs[i + 1] = ls[i + 1].reg := by simp [hl]
  rw [er, er']
  have := List.pairwise_iff_getElem.1 ok.sep i (i + 1) (by omega) hil (by omega)
  simpa [LReg.reg] using this
def sumTo (l : List (Int × Int)) (i : Nat) : Int := ((l.take i).map (·.2)).sum
theorem sumTo_zero (l : List (Int × Int)) : sumTo l 0 = 0 := by simp [sumTo]
theorem sumTo_succ {l : List (Int × Int)} {i : Nat} (hi : i < l.length) : sumTo l (i + 1) = sumTo l i + l[i].2 := by
  rw [sumTo, List.take_succ_eq_append_getElem hi, List.map_append, List.sum_append]
  simp [sumTo]
theorem sumTo_all (rs : List Reg) : sumTo (tells rs) (tells rs).length = (total rs : Int) := by
  unfold sumTo
  rw [List.take_length]
  induction rs with
  | nil => rfl
  | cons r rs ih =>
    simp only [tells, total, List.map_cons, List.sum_cons] at ih ⊢
    rw [ih]
    simp
theorem sumTo_le {S : Sp} (h : Spok S) : ∀ {i : Nat}, i ≤ (tells S.regs).length → 0 ≤ sumTo (tells S.regs) i ∧ sumTo (tells S.regs) i ≤ 4194304 := by
  have h1 : ∀ d i : Nat, i + d = (tells S.regs).length → sumTo (tells S.regs) i ≤ (total S.regs : Int) := by
    intro d
    induction d with
    | zero => intro i hi; rw [← sumTo_all, ← hi]; exact Int.le_refl _
    | succ d ih =>
      intro i hi
      have h2 := ih (i + 1) (by omega)
      rw [sumTo_succ (by omega)] at h2
      have := (tells_at h (i := i) (by omega)).2.1
      omega
  have h0 : ∀ i : Nat, i ≤ (tells S.regs).length → 0 ≤ sumTo (tells S.regs) i := by
    intro i
    induction i with
    | zero => intro _; rw [sumTo_zero]; exact Int.le_refl _
    | succ i ih =>
      intro hi
      rw [sumTo_succ (by omega)]
      have := (tells_at h (i := i) (by omega)).2.1
      have := ih (by omega)
      omega
  intro i hi
  refine ⟨h0 i hi, Int.le_trans (h1 ((tells S.regs).length - i) i (by omega)) ?_⟩
  obtain ⟨ls, hl, ok⟩ := h
  rw [hl, total_map]
  have q := ok.live
  unfold tot
  omega
theorem tells_count {S : Sp} (h : Spok S) : (tells S.regs).length ≤ 4194304 := by
  obtain ⟨ls, hl, ok⟩ := h
  rw [hl, tells_len, List.length_map]
  exact ok.count
/-- what a Take that answers is -/
theorem take_cases (S : Sp) (m : Int) : (S.take m = ((0, 211), S)) ∨ (1 ≤ m ∧ m ≤ 1048576 ∧ S.take m = ((nextBase S.last, 0), (S.take m).2) ∧ (S.take m).2.last = nextBase S.last + m - 1) := by
  by_cases h : m < 1 ∨ 1048576 < m ∨ 4194304 < (total S.regs : Int) + m
  · exact .inl (by unfold Sp.take; rw [if_pos h])
  · have e : S.take m = ((nextBase S.last, 0), ⟨S.regs ++ [⟨nextBase S.last, List.replicate m.toNat (0, 0)⟩], nextBase S.last + m - 1⟩) := by unfold Sp.take; rw [if_neg h]
    exact .inr ⟨by omega, by omega, by rw [e], by rw [e]⟩
theorem let_last (S : Sp) (a : Int) : (S.let_ a).2.last = S.last := by unfold Sp.let_; split <;> rfl
end Go.Proofs.Ytkooogllajmkeaa
