/- The contract of some: the words from an address on. Condition: a space in memory whose regions are as a space's are. -/
import Derived.Test.YtkooogllajmkeaaFd
namespace Go.Proofs.Ytkooogllajmkeaa
open Go.RowKit

/-- the words from an address on, that can be written -/
def SomePost (ls : List LReg) (a m : Int) (w : World) (e : Ending) (w' : World) : Prop :=
  Below w.heap.size w w' ∧
  ((m = 0 ∧ e = .returned (.tuple #[.slice none 0 0, .int .i64 0])) ∨
   (∃ (i j k : Nat) (hi : i < ls.length), a = ls[i].base + j ∧ m = k ∧ 1 ≤ k ∧ j + k ≤ ls[i].words.length ∧
      e = .returned (.tuple #[.slice (some ⟨ls[i].wb, j * 2, none⟩) k (ls[i].cap - j), .int .i64 0])) ∨
   (m ≠ 0 ∧ (∀ (i : Nat) (hi : i < ls.length), 0 ≤ m → hasB ls[i].base ls[i].words.length a m = false) ∧ e = .returned (.tuple #[.slice none 0 0, .int .i64 210])))

theorem some_any {w : World} {p : Nat} {last : Int} {sl : Value} {ls : List LReg} (h : SpAt w p last sl ls) (ok : RegsOk last ls) (a m : Int) :
    Calls Try.prog 47 #[.pointer (some ⟨p, 0, none⟩), .int .i64 a, .int .i64 m] w (SomePost ls a m w) := by
  have HF := Hid.mk (find_any h ok a m)
  by_cases hm : m = 0
  · subst hm
    go_enter Try.func47, Try.ntmps47
    go_wp2
    go_ret2
    exact ⟨Below.refl _ _, .inl ⟨rfl, rfl⟩⟩
  · have hm' : (m == 0) = false := by simp [hm]
    go_enter Try.func47, Try.ntmps47
    go_wp2_with fail
    refine HF.out.mono ?_
    clear HF
    rintro e w1 ⟨hb, ⟨i, hi, hh, h0, rfl⟩ | ⟨hno, rfl⟩⟩
    · have h1 := h.below hb
      have hc1 := h1.cell0
      obtain ⟨q1, q2, q3⟩ := hasB_iff.1 hh
      obtain ⟨j, hj⟩ := Int.eq_ofNat_of_zero_le (show 0 ≤ a - ls[i].base by omega)
      obtain ⟨k, hk⟩ := Int.eq_ofNat_of_zero_le h0
      obtain rfl : a = ls[i].base + j := by omega
      subst hk
      rcases h1.shape with ⟨rfl, rfl⟩ | ⟨B, cap, rfl, hcap⟩
      · exact absurd hi (by simp)
      have hx := h1.base hi
      have hy := h1.wslice hi
      have hlo := ok.lo _ (List.getElem_mem hi)
      have hl1 := ok.last1
      have hn := ok.count
      have hcw : ls[i].words.length ≤ ls[i].cap := by
        rcases (h.words _ (List.getElem_mem hi)).2 with ⟨q, _⟩ | ⟨B', cap', cur, q, _, _, hc, _⟩
        · simp at q
        · simp at q; omega
      clear hh
      go_wp2
      go_ret2
      exact ⟨hb, .inr (.inl ⟨i, j, k, hi, rfl, rfl, by omega, by omega, congrArg (fun q => Ending.returned (.tuple #[.slice (some ⟨ls[i].wb, j * 2, none⟩) q (ls[i].cap - j), .int .i64 0])) (Nat.add_sub_cancel_left j k)⟩)⟩
    · go_wp2
      go_ret2
      exact ⟨hb, .inr (.inr ⟨hm, hno, rfl⟩)⟩
end Go.Proofs.Ytkooogllajmkeaa
