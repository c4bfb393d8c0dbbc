/- The search for the region of an address: contracts of slices.BinarySearchFunc at regions and of find. -/
import Derived.Test.YtkooogllajmkeaaLf
import Derived.Test.YtkooogllajmkeaaSpAt
import Derived.LoopTactic
namespace Go.Proofs.Ytkooogllajmkeaa
open Go.RowKit
/-- what the search comes to: the first place whose base is no less, and whether it is that one -/
def LB (base : Nat → Int) (n : Nat) (at_ : Int) (w : World) (e : Ending) (w' : World) : Prop :=
  ∃ l : Nat, l ≤ n ∧ (∀ k, k < l → base k < at_) ∧ (∀ k, l ≤ k → k < n → at_ ≤ base k) ∧ Below w.heap.size w w' ∧
    e = .returned (.tuple #[.int .i64 l, .bool (decide (l < n ∧ base l = at_))])
theorem bs_low {base : Nat → Int} {n m : Nat} {a : Int} (hs : ∀ i j, i < j → j < n → base i < base j) (hm : m < n) (h : base m < a) : ∀ k, k < m + 1 → base k < a := by
  intro k hk
  rcases Nat.lt_or_ge k m with q | q
  · exact Int.lt_trans (hs k m q hm) h
  · obtain rfl : k = m := by omega
    exact h
theorem bs_high {base : Nat → Int} {n m : Nat} {a : Int} (hs : ∀ i j, i < j → j < n → base i < base j) (h : ¬ base m < a) : ∀ k, m ≤ k → k < n → a ≤ base k := by
  intro k hk hn
  rcases Nat.lt_or_ge m k with q | q
  · have := hs m k q hn; omega
  · obtain rfl : k = m := by omega
    omega
theorem cmp_ne {a b : Int} (h : a ≠ b) : (cmpI a b == 0) = false := by unfold cmpI; split <;> (try split) <;> simp <;> omega
theorem bsearch_any (B n cap : Nat) (at_ : Int) (base : Nat → Int) (vs : Nat → Value) (w : World) (hn : n ≤ 4194304) (hB : B < w.heap.size)
   (hs : ∀ i j, i < j → j < n → base i < base j)
   (h0 : ∀ i, i < n → w.cell? ⟨B, i * 2, none⟩ = some (.int .i64 (base i))) (h1 : ∀ i, i < n → w.cell? ⟨B, i * 2 + 1, none⟩ = some (vs i)) :
   Calls Try.prog 75 #[.slice (some ⟨B, 0, none⟩) n cap, .int .i64 at_, .func (.func 76) #[] #[]] w (LB base n at_ w) := by
  go_enter Try.func75, Try.ntmps75
  go_wp2
  go_loopw [9, 10] (fun i j wr => ∃ l h : Nat, i = .int .i64 l ∧ j = .int .i64 h ∧ l ≤ h ∧ h ≤ n ∧ (∀ k, k < l → base k < at_) ∧ (∀ k, h ≤ k → k < n → at_ ≤ base k) ∧ Below w.heap.size w wr) (fun i j _ => (intOf j - intOf i).toNat)
  case atStart => exact ⟨0, n, rfl, rfl, by omega, by omega, by omega, by omega, Below.refl _ _⟩
  case round =>
    obtain ⟨l, h, rfl, rfl, hlh, hhn, hl, hh, hb⟩ := hrel
    by_cases hlt : l < h
    · have hm : (l + h) / 2 < n := by omega
      have c0 := (hb.cell (p := ⟨B, (l+h)/2*2, none⟩) hB).trans (h0 _ hm)
      have c1 := (hb.cell (p := ⟨B, (l+h)/2*2+1, none⟩) hB).trans (h1 _ hm)
      by_cases hc : base ((l+h)/2) < at_
      · have hc' : cmpI (base ((l+h)/2)) at_ < 0 := by unfold cmpI; rw [if_pos hc]; omega
        have H := Hid.mk (bs_low hs hm hc)
        clear hc
        go_wp2_with (go_at_call 76; refine (find1_any _ _ _ _).mono ?_; rintro e w' ⟨rfl, rfl⟩)
        exact ⟨⟨(l + h) / 2 + 1, h, by go_num, rfl, by omega, by omega, H.out, hh, hb.alloc hb.size _⟩, by simp [intOf]; omega⟩
      · have hc' : ¬ cmpI (base ((l+h)/2)) at_ < 0 := by unfold cmpI; rw [if_neg hc]; split <;> omega
        have H := Hid.mk (bs_high hs hc)
        clear hc
        go_wp2_with (go_at_call 76; refine (find1_any _ _ _ _).mono ?_; rintro e w' ⟨rfl, rfl⟩)
        exact ⟨⟨l, (l + h) / 2, rfl, by go_num, by omega, by omega, hl, H.out, hb.alloc hb.size _⟩, by simp [intOf]; omega⟩
    · obtain rfl : l = h := by omega
      by_cases hln : l < n
      · have c0 := (hb.cell (p := ⟨B, l*2, none⟩) hB).trans (h0 _ hln)
        have c1 := (hb.cell (p := ⟨B, l*2+1, none⟩) hB).trans (h1 _ hln)
        by_cases hc : base l = at_
        · have hc' : (cmpI (base l) at_ == 0) = true := by rw [hc]; unfold cmpI; simp
          have H := Hid.mk hc
          clear hc
          go_wp2_with (go_at_call 76; refine (find1_any _ _ _ _).mono ?_; rintro e w' ⟨rfl, rfl⟩)
          go_ret2
          exact ⟨l, hhn, hl, hh, hb.alloc hb.size _, by simp [H.out, hln]⟩
        · have hc' := cmp_ne hc
          have H := Hid.mk hc
          clear hc
          go_wp2_with (go_at_call 76; refine (find1_any _ _ _ _).mono ?_; rintro e w' ⟨rfl, rfl⟩)
          go_ret2
          exact ⟨l, hhn, hl, hh, hb.alloc hb.size _, by simp [H.out]⟩
      · go_wp2
        go_ret2
        exact ⟨l, hhn, hl, hh, hb, by simp [hln]⟩
theorem bsearch_zero (ao : Option Addr) (cap : Nat) (at_ : Int) (v : Value) (w : World) : Calls Try.prog 75 #[.slice ao 0 cap, .int .i64 at_, v] w fun e w' => e = .returned (.tuple #[.int .i64 0, .bool false]) ∧ w' = w := by
  go_enter Try.func75, Try.ntmps75
  go_wp2
  refine wp_loop_rounds 1 ?_; rw [rounds_succ]
  go_wp2
  go_ret2
  exact ⟨rfl, rfl⟩
end Go.Proofs.Ytkooogllajmkeaa
