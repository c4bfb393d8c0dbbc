/- Contracts of small functions that the space leans on: comparing, a region's end, whether it has addresses, values that may be. No condition beyond the hypotheses. -/
import Derived.Test.YtkooogllajmkeaaProg
import Derived.Test.YtkooogllajmkeaaMem
namespace Go.Proofs.Ytkooogllajmkeaa
open Go.RowKit

theorem isNaN_any (t : Int) (w : World) : Calls Try.prog 90 #[.int .i64 t] w fun e w' => e = .returned (.bool false) ∧ w' = w := by
  go_enter Try.func90, Try.ntmps90
  go_wp2
  go_ret
  exact ⟨by simp, rfl⟩
def cmpI (x y : Int) : Int := if x < y then -1 else if y < x then 1 else 0
theorem compare_any (x y : Int) (w : World) : Calls Try.prog 77 #[.int .i64 x, .int .i64 y] w fun e w' => e = .returned (.int .i64 (cmpI x y)) ∧ w' = w := by
  unfold cmpI
  go_enter Try.func77, Try.ntmps77
  go_wp2_with (go_at_call 90; refine (isNaN_any _ _).mono ?_; rintro e w' ⟨rfl, rfl⟩)
  all_goals go_ret
  all_goals simp_all
  all_goals omega
theorem find1_any (b : Int) (v : Value) (at_ : Int) (w : World) : Calls Try.prog 76 #[.agg #[.int .i64 b, v], .int .i64 at_] w fun e w' => e = .returned (.int .i64 (cmpI b at_)) ∧ w' = w.alloc (.cells #[.int .i64 b, v] 100) := by
  go_enter Try.func76, Try.ntmps76
  go_wp2_with (go_at_call 77; refine (compare_any _ _ _).mono ?_; rintro e w' ⟨rfl, rfl⟩)
  go_ret
  exact ⟨rfl, rfl⟩
theorem end_any (b : Int) (a : Option Addr) (n c : Nat) (w : World) (hb : 0 ≤ b) (hb2 : b ≤ 4611686018427387904) (hn : n ≤ 1048576) : Calls Try.prog 43 #[.agg #[.int .i64 b, .slice a n c]] w fun e w' => e = .returned (.int .i64 (b + n)) ∧ w' = w.alloc (.cells #[.int .i64 b, .slice a n c] 100) := by
  go_enter Try.func43, Try.ntmps43
  go_wp2
  go_ret
  exact ⟨rfl, rfl⟩
def hasB (b : Int) (n : Nat) (at_ m : Int) : Bool := decide (b ≤ at_) && decide (at_ < b + n) && decide (m ≤ b + n - at_)
theorem has_any (b at_ m : Int) (a : Option Addr) (n c : Nat) (w : World) (hb : 0 ≤ b) (hb2 : b ≤ 4611686018427387904) (hn : n ≤ 1048576) : Calls Try.prog 78 #[.agg #[.int .i64 b, .slice a n c], .int .i64 at_, .int .i64 m] w fun e w' => e = .returned (.bool (hasB b n at_ m)) ∧ Below w.heap.size w w' := by
  by_cases h1 : b ≤ at_
  · by_cases h2 : at_ < b + n
    · by_cases h3 : m ≤ b + n - at_
      all_goals
        go_enter Try.func78, Try.ntmps78
        go_wp2_with (go_at_call 43; refine (end_any _ _ _ _ _ hb hb2 hn).mono ?_; rintro e w' ⟨rfl, rfl⟩)
        go_ret
        exact ⟨congrArg (fun b => Ending.returned (Value.bool b)) (by unfold hasB; simp; omega), (((Below.refl _ _).alloc (Nat.le_refl _) _).alloc (by simp) _).alloc (by simp; omega) _⟩
    · go_enter Try.func78, Try.ntmps78
      go_wp2_with (go_at_call 43; refine (end_any _ _ _ _ _ hb hb2 hn).mono ?_; rintro e w' ⟨rfl, rfl⟩)
      go_ret
      exact ⟨congrArg (fun b => Ending.returned (Value.bool b)) (by unfold hasB; simp; omega), ((Below.refl _ _).alloc (Nat.le_refl _) _).alloc (by simp) _⟩
  · go_enter Try.func78, Try.ntmps78
    go_wp2_with (go_at_call 43; refine (end_any _ _ _ _ _ hb hb2 hn).mono ?_; rintro e w' ⟨rfl, rfl⟩)
    go_ret
    exact ⟨congrArg (fun b => Ending.returned (Value.bool b)) (by unfold hasB; simp; omega), (Below.refl _ _).alloc (Nat.le_refl _) _⟩
def knownB (t : Int) : Bool := decide (1 ≤ t) && decide (t < 5)
theorem known_any (t : Int) (w : World) : Calls Try.prog 80 #[.int .i64 t] w fun e w' => e = .returned (.bool (knownB t)) ∧ w' = w := by
  unfold knownB
  go_enter Try.func80, Try.ntmps80
  go_wp2
  all_goals go_ret
  all_goals simp_all
  all_goals omega
/-- a value that may be: its type is one of four, and its number is no less than 0, unless it is a number's -/
def okV (t n : Int) : Bool := knownB t && (decide (t = 1) || decide (0 ≤ n))
def chk (t n : Int) : Int := if okV t n then 0 else 21
theorem chk_ok {t n : Int} (h : okV t n = true) : chk t n = 0 := by simp [chk, h]
theorem chk_no {t n : Int} (h : okV t n = false) : chk t n = 21 := by simp [chk, h]
theorem check_any (t n : Int) (w : World) : Calls Try.prog 48 #[.agg #[.int .i64 t, .int .i64 n]] w fun e w' => e = .returned (.int .i64 (chk t n)) ∧ Below w.heap.size w w' := by
  by_cases hk : knownB t = true
  · by_cases h1 : t = 1
    · subst h1
      go_enter Try.func48, Try.ntmps48
      go_wp2_with (go_at_call 80; refine (known_any _ _).mono ?_; rintro e w' ⟨rfl, rfl⟩)
      go_ret
      exact ⟨by rw [chk_ok (by simp [okV, hk])]; rfl, (Below.refl _ _).alloc (Nat.le_refl _) _⟩
    · have h1' : (t != 1) = true := by simp [h1]
      by_cases h2 : 0 ≤ n
      · go_enter Try.func48, Try.ntmps48
        go_wp2_with (go_at_call 80; refine (known_any _ _).mono ?_; rintro e w' ⟨rfl, rfl⟩)
        go_ret
        exact ⟨by rw [chk_ok (by simp [okV, hk, h2])]; rfl, (Below.refl _ _).alloc (Nat.le_refl _) _⟩
      · go_enter Try.func48, Try.ntmps48
        go_wp2_with (go_at_call 80; refine (known_any _ _).mono ?_; rintro e w' ⟨rfl, rfl⟩)
        go_ret
        exact ⟨by rw [chk_no (by simp [okV, h1]; omega)]; rfl, (Below.refl _ _).alloc (Nat.le_refl _) _⟩
  · have hk' : knownB t = false := by simpa using hk
    clear hk
    go_enter Try.func48, Try.ntmps48
    go_wp2_with (go_at_call 80; refine (known_any _ _).mono ?_; rintro e w' ⟨rfl, rfl⟩)
    go_ret
    exact ⟨by rw [chk_no (by simp [okV, hk'])]; rfl, (Below.refl _ _).alloc (Nat.le_refl _) _⟩
end Go.Proofs.Ytkooogllajmkeaa
