/- Great: no operation asks for too much. -/
import Derived.Test.YtkooogllajmkeaaOp
import Derived.LoopTactic
import Derived.Deep.QuietTactic
import Derived.BigQuiet
namespace Go.Proofs.Ytkooogllajmkeaa
open Go.RowKit
def Small (os : List Opr) : Prop := os.length ≤ 150 ∧ ∀ x ∈ os, x.k = 0 → x.n ≤ 200 ∨ 1048576 < x.n
def Bad (x : Opr) : Prop := x.k = 0 ∧ 200 < x.n ∧ x.n ≤ 1048576
instance (x : Opr) : Decidable (Bad x) := by unfold Bad; infer_instance
set_option maxRecDepth 100000 in
set_option maxHeartbeats 1000000 in
theorem great21_any {w : World} {v : Value} {os : List Opr} (h : OpsAt w v os) : Calls Try.prog 11 #[v] w fun e w' => Below w.heap.size w w' ∧ (e = .returned (.int .i64 1) ∨ e = .returned (.int .i64 0) ∧ Small os) := by
  obtain ⟨⟨ao, c, rfl⟩, hml, hok, hc⟩ := h
  clear hok
  have hmx : os.length ≤ 9223372036854775807 := by unfold maxLen at hml; omega
  clear hml
  obtain ⟨n, hn⟩ : ∃ n, os.length = n := ⟨_, rfl⟩
  have HN := Hid.mk hn
  have HC : Hid (∀ i (hi : i < os.length), ∃ b o, ao = some ⟨b, o, none⟩ ∧ b < w.heap.size ∧ OprAt w b (o + i * 6) os[i]) := by
    intro i hi
    obtain ⟨b, o, c', e, hb, ha⟩ := hc (by omega)
    simp only [Value.slice.injEq] at e
    exact ⟨b, o, e.1, hb, ha i hi⟩
  clear hc
  rw [hn] at hmx ⊢
  clear hn
  go_enter Try.func11, Try.ntmps11
  go_wp2
  go_loopw [6] (fun i wr => ∃ k : Nat, i = .int .i64 k ∧ k ≤ n ∧ Hid (∀ j (h1 : j < os.length), j < k → ¬ Bad os[j]) ∧ Below w.heap.size w wr) (fun i _ => n - (intOf i).toNat)
  case atStart => exact ⟨0, rfl, by omega, fun _ _ q => absurd q (by omega), Below.refl _ _⟩
  case round =>
    obtain ⟨k, rfl, hk, HB, hbw⟩ := hrel
    by_cases hlt : k < n
    · have h1 : k < os.length := by rw [HN.out]; exact hlt
      obtain ⟨b, o, rfl, hbl, a0, a1, -⟩ := HC.out k h1
      have c0 := (hbw.cell (p := ⟨b, o + k * 6, none⟩) hbl).trans a0
      have c1 := (hbw.cell (p := ⟨b, o + k * 6 + 1, none⟩) hbl).trans a1
      clear a0 a1
      obtain ⟨x, hx⟩ : ∃ x, x = os[k] := ⟨_, rfl⟩
      by_cases hbad : Bad x
      · have hq0 : x.k = 0 := hbad.1
        have hq1 : 200 < x.n := hbad.2.1
        have hq2 : x.n ≤ 1048576 := hbad.2.2
        rw [← hx, hq0] at c0
        rw [← hx] at c1
        clear hx hbad hq0
        obtain ⟨y, rfl⟩ : ∃ y, y = x.n := ⟨_, rfl⟩
        go_wp2
        go_ret
        exact ⟨hbw, .inl rfl⟩
      · have HB' : Hid (∀ j (h1 : j < os.length), j < k + 1 → ¬ Bad os[j]) := by
          intro j h1 hj
          rcases Nat.lt_or_ge j k with q | q
          · exact HB.out j h1 q
          · obtain rfl : j = k := by omega
            rw [← hx]; exact hbad
        rw [← hx] at c0 c1
        clear hx HB
        by_cases hq0 : x.k = 0
        · by_cases hq1 : 200 < x.n
          · have hq2 : 1048576 < x.n := by unfold Bad at hbad; omega
            clear hbad
            rw [hq0] at c0
            clear hq0
            go_wp2
            exact ⟨⟨k + 1, by go_num, by omega, HB', hbw⟩, by simp [intOf]; omega⟩
          · clear hbad
            rw [hq0] at c0
            clear hq0
            go_wp2
            exact ⟨⟨k + 1, by go_num, by omega, HB', hbw⟩, by simp [intOf]; omega⟩
        · clear hbad
          go_wp2
          exact ⟨⟨k + 1, by go_num, by omega, HB', hbw⟩, by simp [intOf]; omega⟩
    · obtain rfl : k = n := by omega
      by_cases hq : k ≤ 150
      · have HS : Hid (Small os) := by
          refine ⟨by rw [HN.out]; exact hq, fun x hx h0 => ?_⟩
          obtain ⟨j, hj, rfl⟩ := List.mem_iff_getElem.1 hx
          have := HB.out j hj (by rw [HN.out] at hj; exact hj)
          unfold Bad at this
          omega
        clear HB HC
        go_wp2
        go_ret
        exact ⟨hbw, .inr ⟨rfl, HS.out⟩⟩
      · clear HB HC
        go_wp2
        go_ret
        exact ⟨hbw, .inl rfl⟩
end Go.Proofs.Ytkooogllajmkeaa
