/- A play's step (layer 21), whatever the operation. -/
import Derived.Test.YtkooogllajmkeaaDd
import Derived.Test.YtkooogllajmkeaaDe
import Derived.Test.YtkooogllajmkeaaDf
namespace Go.Proofs.Ytkooogllajmkeaa
open Go.RowKit
theorem move_last (S : Sp) (b a m : Int) : (S.move b a m).2.last = S.last := by
  unfold Sp.move
  split
  · rfl
  · split
    · rfl
    · split <;> rfl
/-- what an operation leaves -/
def stepOf (S : Sp) (o : Opr) : Sp :=
  if o.k = 0 then (S.take o.n).2 else if o.k = 1 then (S.let_ o.a).2 else if o.k = 2 then (S.put o.a (o.t, o.v)).2 else if o.k = 4 then (S.drop o.a o.n).2 else if o.k = 5 then (S.move o.b o.a o.n).2 else S
theorem stepOf_last (S : Sp) (o : Opr) (hs : o.k = 0 → o.n ≤ 200 ∨ 1048576 < o.n) (h0 : 0 ≤ S.last) : (stepOf S o).last ≤ S.last + 202 := by
  unfold stepOf
  split
  · rename_i hk
    rcases take_cases S o.n with e | ⟨m1, m2, e, el⟩
    · rw [e]; simp only; omega
    · rw [el]
      have := hs hk
      unfold nextBase
      split <;> omega
  · split
    · rw [let_last]; omega
    · split
      · rw [put_last]; omega
      · split
        · rw [drop_last]; omega
        · split
          · rw [move_last]; omega
          · omega
theorem do21_any {w W : World} {q p pr : Nat} {S : Sp} (h : Two w p pr S S [(q, plo p pr)] W) (hq : w.heap.size ≤ q) (hl : S.last ≤ 1152921504606846976) (o : Opr) (ok : OprOk o) :
    Calls Try.prog 20 #[.pointer (some ⟨q, 0, none⟩), opv o.k o.n o.a o.b o.t o.v] W fun e w' => e = .returned (.bool true) ∧ ∃ p' pr', Two w p' pr' (stepOf S o) (stepOf S o) [(q, plo p' pr')] w' := by
  obtain ⟨k, n, a, b, t, v⟩ := o
  obtain ⟨ok0, ok1, ok2, ok3, ok4, ok5⟩ := ok
  simp only at *
  unfold stepOf
  simp only
  by_cases k0 : k = 0
  · subst k0; rw [if_pos rfl]
    exact (do0_any h n a b t v hl).mono fun e w' q => ⟨q.1, _, _, q.2⟩
  rw [if_neg k0]
  by_cases k1 : k = 1
  · subst k1; rw [if_pos rfl]
    exact (do1_any h n a b t v).mono fun e w' q => ⟨q.1, _, _, q.2⟩
  rw [if_neg k1]
  by_cases k2 : k = 2
  · subst k2; rw [if_pos rfl]
    exact (do2_any h n a b t v ok2).mono fun e w' q => ⟨q.1, _, _, q.2⟩
  rw [if_neg k2]
  by_cases k4 : k = 4
  · subst k4; rw [if_pos rfl]
    exact (do4_any h n a b t v ok2).mono fun e w' q => ⟨q.1, _, _, q.2⟩
  rw [if_neg k4]
  by_cases k5 : k = 5
  · subst k5; rw [if_pos rfl]
    exact (do5_any h n a b t v ok3 ok2).mono fun e w' q => ⟨q.1, _, _, q.2⟩
  rw [if_neg k5]
  by_cases k3 : k = 3
  · subst k3
    exact (do3_any h n a b t v ok2).mono fun e w' q => ⟨q.1.1, _, _, q.1.2⟩
  by_cases k6 : k = 6
  · subst k6
    obtain ⟨r1, r, hr⟩ : ∃ r1 r, S.run a n = (r1, r) := ⟨_, _, rfl⟩
    cases r1 with
    | none => exact (do6n_any h n a b t v ok2 hr).mono fun e w' q => ⟨q.1, _, _, q.2⟩
    | some l => exact (do6s_any h n a b t v ok2 hr).mono fun e w' q => ⟨q.1, _, _, q.2⟩
  by_cases k7 : k = 7
  · subst k7
    exact do7_any h n a b t v hq hl
  · exact (dox_any h k n a b t v (by omega)).mono fun e w' q => ⟨q.1, _, _, q.2⟩
end Go.Proofs.Ytkooogllajmkeaa
