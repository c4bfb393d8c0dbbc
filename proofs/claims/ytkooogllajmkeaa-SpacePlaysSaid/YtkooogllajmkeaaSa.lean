/- Slices of pairs as they are read, and the contracts of the two functions Same. -/
import Derived.Test.YtkooogllajmkeaaSc
import Derived.Laws.StructEq
import Derived.Deep.QuietTactic
import Derived.BigQuiet
import Derived.LoopTactic
namespace Go.Proofs.Ytkooogllajmkeaa
open Go.RowKit

/-- a slice of structs of two numbers reads as xs -/
def Rd (w : World) (v : Value) (xs : List (Int × Int)) : Prop :=
  (v = .slice none 0 0 ∧ xs = []) ∨ ∃ b o c, v = .slice (some ⟨b, o, none⟩) xs.length c ∧ b < w.heap.size ∧
    ∀ k (hk : k < xs.length), w.cell? ⟨b, o + k * 2, none⟩ = some (.int .i64 xs[k].1) ∧ w.cell? ⟨b, o + k * 2 + 1, none⟩ = some (.int .i64 xs[k].2)
theorem Rd.below {w w' : World} {v : Value} {xs : List (Int × Int)} (h : Rd w v xs) (k : Below w.heap.size w w') : Rd w' v xs := by
  rcases h with h | ⟨b, o, c, e, hb, hc⟩
  · exact .inl h
  · exact .inr ⟨b, o, c, e, Nat.lt_of_lt_of_le hb k.size, fun i hi => ⟨(k.cell (p := ⟨b, _, none⟩) hb).trans (hc i hi).1, (k.cell (p := ⟨b, _, none⟩) hb).trans (hc i hi).2⟩⟩
theorem Rd.of_row {w : World} {base T n : Nat} {v : Value} {xs : List (Int × Int)} (h : w.ownsRow base T 2 v n (wcells xs)) (hn : n = xs.length) : Rd w v xs := by
  subst hn
  rcases h.2 with ⟨rfl, h0⟩ | ⟨g, cap, cur, rfl, _, hg, _⟩
  · exact .inl ⟨rfl, List.eq_nil_of_length_eq_zero h0⟩
  · refine .inr ⟨g, 0, cap, rfl, lt_of_heap hg, fun k hk => ?_⟩
    rw [Nat.zero_add]
    exact ⟨row_cell h (wcells_fst hk), row_cell h (wcells_snd hk)⟩
def SamePost (xs ys : List (Int × Int)) (w : World) (e : Ending) (w' : World) : Prop := Below w.heap.size w w' ∧ e = .returned (.bool (decide (xs = ys)))

theorem Rd.shape {w : World} {v : Value} {xs : List (Int × Int)} (h : Rd w v xs) : ∃ ao c, v = .slice ao xs.length c := by
  rcases h with ⟨rfl, rfl⟩ | ⟨b, o, c, rfl, _⟩
  · exact ⟨none, 0, rfl⟩
  · exact ⟨_, _, rfl⟩
theorem Rd.some {w : World} {v : Value} {xs : List (Int × Int)} (h : Rd w v xs) (hx : 0 < xs.length) : ∃ b o c, v = .slice (some ⟨b, o, none⟩) xs.length c ∧ b < w.heap.size ∧
    ∀ k (hk : k < xs.length), w.cell? ⟨b, o + k * 2, none⟩ = some (.int .i64 xs[k].1) ∧ w.cell? ⟨b, o + k * 2 + 1, none⟩ = some (.int .i64 xs[k].2) := by
  rcases h with ⟨rfl, rfl⟩ | h
  · simp at hx
  · exact h
theorem ne_of_at {xs ys : List (Int × Int)} (k : Nat) (h1 : k < xs.length) (h2 : k < ys.length) (h : xs[k] ≠ ys[k]) : xs ≠ ys := by rintro rfl; exact h rfl
set_option maxRecDepth 100000 in
set_option maxHeartbeats 1000000 in
theorem same_Same02 {w : World} {u v : Value} {xs ys : List (Int × Int)} (hu : Rd w u xs) (hv : Rd w v ys) (hb : xs.length ≤ 4194304) : Calls Try.prog 25 #[u, v] w (SamePost xs ys w) := by
  by_cases hl : xs.length = ys.length
  · rcases Nat.eq_zero_or_pos xs.length with h0 | h0
    · obtain ⟨ao, c, rfl⟩ := hu.shape
      obtain ⟨bo, d, rfl⟩ := hv.shape
      rw [← hl, h0]
      have HE : Hid (xs = ys) := (List.eq_nil_of_length_eq_zero h0).trans (List.eq_nil_of_length_eq_zero (by omega)).symm
      clear hu hv hl h0
      go_enter Try.func25, Try.ntmps25
      go_wp2
      refine wp_loop_rounds 1 ?_; rw [rounds_succ]
      go_wp2
      go_ret
      exact ⟨Below.refl _ _, by rw [decide_eq_true HE.out]; rfl⟩
    · obtain ⟨b, o, c, rfl, hbl, hc⟩ := hu.some h0
      obtain ⟨b', o', c', rfl, hbl', hc'⟩ := hv.some (by omega)
      obtain ⟨n, hn⟩ : ∃ n, xs.length = n := ⟨_, rfl⟩
      have hn' : ys.length = n := by omega
      rw [hn, hn']
      have HN := Hid.mk hn
      have HN' := Hid.mk hn'
      clear hn hn' hl hu hv
      have hnb : n ≤ 4194304 := by rw [HN.out] at hb; exact hb
      clear hb h0
      go_enter Try.func25, Try.ntmps25
      go_wp2
      go_loopw [5] (fun i wr => ∃ k : Nat, i = .int .i64 k ∧ k ≤ n ∧ (∀ j (h1 : j < xs.length) (h2 : j < ys.length), j < k → xs[j] = ys[j]) ∧ Below w.heap.size w wr) (fun i _ => n - (intOf i).toNat)
      case atStart => exact ⟨0, rfl, by omega, fun _ _ _ q => absurd q (by omega), Below.refl _ _⟩
      case round =>
        obtain ⟨k, rfl, hk, heq, hbw⟩ := hrel
        by_cases hlt : k < n
        · have h1 : k < xs.length := by rw [HN.out]; exact hlt
          have h2 : k < ys.length := by rw [HN'.out]; exact hlt
          have c0 := (hbw.cell (p := ⟨b, o + k * 2, none⟩) hbl).trans (hc k h1).1
          have c1 := (hbw.cell (p := ⟨b, o + k * 2 + 1, none⟩) hbl).trans (hc k h1).2
          have d0 := (hbw.cell (p := ⟨b', o' + k * 2, none⟩) hbl').trans (hc' k h2).1
          have d1 := (hbw.cell (p := ⟨b', o' + k * 2 + 1, none⟩) hbl').trans (hc' k h2).2
          by_cases e : xs[k] = ys[k]
          · have f1 : (xs[k].1 == ys[k].1) = true := by simp [e]
            have f2 : (xs[k].2 == ys[k].2) = true := by simp [e]
            have HE : Hid (∀ j (h1 : j < xs.length) (h2 : j < ys.length), j < k + 1 → xs[j] = ys[j]) := by
              intro j h1 h2 hj
              rcases Nat.lt_or_ge j k with q | q
              · exact heq j h1 h2 q
              · obtain rfl : j = k := by omega
                exact e
            clear e heq
            go_wp2
            go_quiet (fail)
            go_wp2
            exact ⟨⟨k + 1, by go_num, by omega, HE.out, below_drewN hbw _⟩, by simp [intOf]; omega⟩
          · have HE := Hid.mk (ne_of_at k h1 h2 e)
            by_cases e1 : xs[k].1 = ys[k].1
            · have f1 : (xs[k].1 == ys[k].1) = true := by simp [e1]
              have f2 : (xs[k].2 == ys[k].2) = false := by simp; intro e2; exact e (Prod.ext e1 e2)
              clear e e1 heq
              go_wp2
              go_quiet (fail)
              go_wp2
              go_ret
              exact ⟨below_drewN hbw _, by rw [decide_eq_false HE.out]; rfl⟩
            · have f1 : (xs[k].1 == ys[k].1) = false := by simp [e1]
              clear e e1 heq
              go_wp2
              go_quiet (fail)
              go_wp2
              go_ret
              exact ⟨below_drewN hbw _, by rw [decide_eq_false HE.out]; rfl⟩
        · obtain rfl : k = n := by omega
          have HE : Hid (xs = ys) := by
            refine List.ext_getElem (by rw [HN.out, HN'.out]) fun j h1 h2 => heq j h1 h2 ?_
            rw [HN.out] at h1; exact h1
          clear heq
          go_wp2
          go_ret
          exact ⟨hbw, by rw [decide_eq_true HE.out]; rfl⟩
  · obtain ⟨ao, c, rfl⟩ := hu.shape
    obtain ⟨bo, d, rfl⟩ := hv.shape
    have HE : Hid (xs ≠ ys) := by rintro rfl; exact hl rfl
    have hne : ((xs.length : Int) != (ys.length : Int)) = true := by simp; omega
    clear hu hv hl
    go_enter Try.func25, Try.ntmps25
    go_wp2
    go_ret
    exact ⟨Below.refl _ _, by rw [decide_eq_false HE.out]; rfl⟩
set_option maxRecDepth 100000 in
set_option maxHeartbeats 1000000 in
theorem same_Same21 {w : World} {u v : Value} {xs ys : List (Int × Int)} (hu : Rd w u xs) (hv : Rd w v ys) (hb : xs.length ≤ 4194304) : Calls Try.prog 27 #[u, v] w (SamePost xs ys w) := by
  by_cases hl : xs.length = ys.length
  · rcases Nat.eq_zero_or_pos xs.length with h0 | h0
    · obtain ⟨ao, c, rfl⟩ := hu.shape
      obtain ⟨bo, d, rfl⟩ := hv.shape
      rw [← hl, h0]
      have HE : Hid (xs = ys) := (List.eq_nil_of_length_eq_zero h0).trans (List.eq_nil_of_length_eq_zero (by omega)).symm
      clear hu hv hl h0
      go_enter Try.func27, Try.ntmps27
      go_wp2
      refine wp_loop_rounds 1 ?_; rw [rounds_succ]
      go_wp2
      go_ret
      exact ⟨Below.refl _ _, by rw [decide_eq_true HE.out]; rfl⟩
    · obtain ⟨b, o, c, rfl, hbl, hc⟩ := hu.some h0
      obtain ⟨b', o', c', rfl, hbl', hc'⟩ := hv.some (by omega)
      obtain ⟨n, hn⟩ : ∃ n, xs.length = n := ⟨_, rfl⟩
      have hn' : ys.length = n := by omega
      rw [hn, hn']
      have HN := Hid.mk hn
      have HN' := Hid.mk hn'
      clear hn hn' hl hu hv
      have hnb : n ≤ 4194304 := by rw [HN.out] at hb; exact hb
      clear hb h0
      go_enter Try.func27, Try.ntmps27
      go_wp2
      go_loopw [5] (fun i wr => ∃ k : Nat, i = .int .i64 k ∧ k ≤ n ∧ (∀ j (h1 : j < xs.length) (h2 : j < ys.length), j < k → xs[j] = ys[j]) ∧ Below w.heap.size w wr) (fun i _ => n - (intOf i).toNat)
      case atStart => exact ⟨0, rfl, by omega, fun _ _ _ q => absurd q (by omega), Below.refl _ _⟩
      case round =>
        obtain ⟨k, rfl, hk, heq, hbw⟩ := hrel
        by_cases hlt : k < n
        · have h1 : k < xs.length := by rw [HN.out]; exact hlt
          have h2 : k < ys.length := by rw [HN'.out]; exact hlt
          have c0 := (hbw.cell (p := ⟨b, o + k * 2, none⟩) hbl).trans (hc k h1).1
          have c1 := (hbw.cell (p := ⟨b, o + k * 2 + 1, none⟩) hbl).trans (hc k h1).2
          have d0 := (hbw.cell (p := ⟨b', o' + k * 2, none⟩) hbl').trans (hc' k h2).1
          have d1 := (hbw.cell (p := ⟨b', o' + k * 2 + 1, none⟩) hbl').trans (hc' k h2).2
          by_cases e : xs[k] = ys[k]
          · have f1 : (xs[k].1 == ys[k].1) = true := by simp [e]
            have f2 : (xs[k].2 == ys[k].2) = true := by simp [e]
            have HE : Hid (∀ j (h1 : j < xs.length) (h2 : j < ys.length), j < k + 1 → xs[j] = ys[j]) := by
              intro j h1 h2 hj
              rcases Nat.lt_or_ge j k with q | q
              · exact heq j h1 h2 q
              · obtain rfl : j = k := by omega
                exact e
            clear e heq
            go_wp2
            go_quiet (fail)
            go_wp2
            exact ⟨⟨k + 1, by go_num, by omega, HE.out, below_drewN hbw _⟩, by simp [intOf]; omega⟩
          · have HE := Hid.mk (ne_of_at k h1 h2 e)
            by_cases e1 : xs[k].1 = ys[k].1
            · have f1 : (xs[k].1 == ys[k].1) = true := by simp [e1]
              have f2 : (xs[k].2 == ys[k].2) = false := by simp; intro e2; exact e (Prod.ext e1 e2)
              clear e e1 heq
              go_wp2
              go_quiet (fail)
              go_wp2
              go_ret
              exact ⟨below_drewN hbw _, by rw [decide_eq_false HE.out]; rfl⟩
            · have f1 : (xs[k].1 == ys[k].1) = false := by simp [e1]
              clear e e1 heq
              go_wp2
              go_quiet (fail)
              go_wp2
              go_ret
              exact ⟨below_drewN hbw _, by rw [decide_eq_false HE.out]; rfl⟩
        · obtain rfl : k = n := by omega
          have HE : Hid (xs = ys) := by
            refine List.ext_getElem (by rw [HN.out, HN'.out]) fun j h1 h2 => heq j h1 h2 ?_
            rw [HN.out] at h1; exact h1
          clear heq
          go_wp2
          go_ret
          exact ⟨hbw, by rw [decide_eq_true HE.out]; rfl⟩
  · obtain ⟨ao, c, rfl⟩ := hu.shape
    obtain ⟨bo, d, rfl⟩ := hv.shape
    have HE : Hid (xs ≠ ys) := by rintro rfl; exact hl rfl
    have hne : ((xs.length : Int) != (ys.length : Int)) = true := by simp; omega
    clear hu hv hl
    go_enter Try.func27, Try.ntmps27
    go_wp2
    go_ret
    exact ⟨Below.refl _ _, by rw [decide_eq_false HE.out]; rfl⟩
end Go.Proofs.Ytkooogllajmkeaa
