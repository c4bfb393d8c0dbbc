/- The contract of find: the region that has so many addresses from one on, or none. Condition: a space in memory whose regions are as a space's are. -/
import Derived.Test.YtkooogllajmkeaaBs
namespace Go.Proofs.Ytkooogllajmkeaa
open Go.RowKit

theorem hasB_iff {b : Int} {n : Nat} {a m : Int} : hasB b n a m = true ↔ b ≤ a ∧ a < b + n ∧ m ≤ b + n - a := by unfold hasB; simp [and_assoc]
theorem hasB_no {b : Int} {n : Nat} {a m : Int} (h : ¬ (b ≤ a ∧ a < b + n)) : hasB b n a m = false := by
  cases e : hasB b n a m with
  | false => rfl
  | true => exact absurd ⟨(hasB_iff.1 e).1, (hasB_iff.1 e).2.1⟩ h

/-- the i-th region has m addresses from a on (m no less than 0); or none has -/
def FindPost (ls : List LReg) (a m : Int) (w : World) (e : Ending) (w' : World) : Prop :=
  Below w.heap.size w w' ∧
  ((∃ (i : Nat) (hi : i < ls.length), hasB ls[i].base ls[i].words.length a m = true ∧ 0 ≤ m ∧ e = .returned (.tuple #[.int .i64 i, .bool true])) ∨
   ((∀ (i : Nat) (hi : i < ls.length), 0 ≤ m → hasB ls[i].base ls[i].words.length a m = false) ∧ e = .returned (.tuple #[.int .i64 0, .bool false])))

theorem only_last {last : Int} {ls : List LReg} (h : RegsOk last ls) {l : Nat} {a m : Int} (hl : l < ls.length) (ha : ls[l].base ≤ a) (hn : ∀ k (hk : k < ls.length), l < k → a < ls[k].base) (i : Nat) (hi : i < ls.length) (hne : i ≠ l) : hasB ls[i].base ls[i].words.length a m = false := by
  refine hasB_no ?_
  rintro ⟨h1, h2⟩
  rcases Nat.lt_or_ge i l with q | q
  · have := h.mono i l q hl; omega
  · have := hn i hi (by omega); omega

set_option maxHeartbeats 400000 in
theorem find_any {w : World} {p : Nat} {last : Int} {sl : Value} {ls : List LReg} (h : SpAt w p last sl ls) (ok : RegsOk last ls) (a m : Int) :
    Calls Try.prog 44 #[.pointer (some ⟨p, 0, none⟩), .int .i64 a, .int .i64 m] w (FindPost ls a m w) := by
  have hc0 := h.cell0
  rcases h.shape with ⟨rfl, rfl⟩ | ⟨B, cap, rfl, hcap⟩
  · go_enter Try.func44, Try.ntmps44
    go_wp2_with (go_at_call 75; refine (bsearch_zero _ _ _ _ _).mono ?_; rintro e w' ⟨rfl, rfl⟩)
    go_ret2
    exact ⟨Below.refl _ _, .inr ⟨fun i hi => absurd hi (by simp), rfl⟩⟩
  · have hn := ok.count
    have hB : B < w.heap.size := (h.row.lt B rfl).2
    rcases Nat.eq_zero_or_pos ls.length with h0 | h0
    · rw [h0] at hc0
      go_enter Try.func44, Try.ntmps44
      go_wp2_with (go_at_call 75; refine (bsearch_zero _ _ _ _ _).mono ?_; rintro e w' ⟨rfl, rfl⟩)
      go_ret2
      exact ⟨Below.refl _ _, .inr ⟨fun i hi => absurd hi (by omega), rfl⟩⟩
    · have HB := Hid.mk (bsearch_any B ls.length cap a (fun i => ((ls[i]?).getD default).base) (fun i => .slice (some ⟨((ls[i]?).getD default).wb, 0, none⟩) ((ls[i]?).getD default).words.length ((ls[i]?).getD default).cap) w hn hB
        (fun i j hij hj => by have := ok.mono i j hij hj; simp [hj, show i < ls.length by omega]; omega)
        (fun i hi => by rw [h.base hi]; simp [hi]) (fun i hi => by rw [h.wslice hi]; simp [hi]))
      go_enter Try.func44, Try.ntmps44
      go_wp2_with fail
      refine HB.out.mono ?_
      clear HB
      rintro e w1 ⟨l, hln, hlo, hhi, hb, rfl⟩
      have h1 := h.below hb
      have hc1 := h1.cell0
      by_cases hf : l < ls.length ∧ ((ls[l]?).getD default).base = a
      · obtain ⟨hl, hf⟩ := hf
        have hba : ls[l].base = a := by simpa [hl] using hf
        have hd : decide (l < ls.length ∧ ((ls[l]?).getD default).base = a) = true := by simp [hl, hba]
        have hx := h1.base hl
        have hy := h1.wslice hl
        have hlo := ok.lo _ (List.getElem_mem hl)
        have hl1 := ok.last1
        rw [hd]
        have hup : ∀ k (hk : k < ls.length), l < k → a < ls[k].base := fun k hk hlk => by have := ok.mono l k hlk hk; omega
        have honly := fun i hi hne => only_last (m := m) ok hl (by omega) hup i hi hne
        by_cases hm : 0 ≤ m
        · cases hh : hasB ls[l].base ls[l].words.length a m
          all_goals
            have H := Hid.mk honly
            have HH := Hid.mk hh
            have HC := Hid.mk hhi
            have HF := Hid.mk hf
            have HBA := Hid.mk hba
            clear honly hup hhi hf hba hh hd
            go_wp2_with (go_at_call 78; refine (has_any _ _ _ _ _ _ _ (by omega) (by omega) (by omega)).mono ?_; rw [HH.out]; rintro e w' ⟨rfl, hb2⟩)
            go_ret2
          · exact ⟨hb.trans (hb2.mono hb.size), .inr ⟨fun i hi _ => (by by_cases q : i = l; (subst q; exact HH.out); exact H.out i hi q), rfl⟩⟩
          · exact ⟨hb.trans (hb2.mono hb.size), .inl ⟨l, hl, HH.out, hm, rfl⟩⟩
        · clear honly hup hhi hf hba hd
          go_wp2
          go_ret2
          exact ⟨hb, .inr ⟨fun i hi q => absurd q (by omega), rfl⟩⟩
      · have hd : decide (l < ls.length ∧ ((ls[l]?).getD default).base = a) = false := by simp only [hf, decide_false]
        rw [hd]
        have hup : ∀ k (hk : k < ls.length), l ≤ k → a < ls[k].base := by
          intro k hk hlk
          have q1 := hhi k hlk hk
          simp only [hk, List.getElem?_eq_getElem, Option.getD_some] at q1
          rcases Nat.lt_or_ge l k with q | q
          · have hl : l < ls.length := by omega
            have q2 := hhi l (Nat.le_refl _) hl
            simp only [hl, List.getElem?_eq_getElem, Option.getD_some] at q2
            have := ok.mono l k q hk; omega
          · obtain rfl : l = k := by omega
            have : ls[l].base ≠ a := fun q => hf ⟨hk, by simp [hk, q]⟩
            omega
        rcases Nat.eq_zero_or_pos l with hl0 | hl0
        · subst hl0
          clear hf hd hlo hhi
          go_wp2
          go_ret2
          exact ⟨hb, .inr ⟨fun i hi _ => hasB_no (fun q => by have := hup i hi (Nat.zero_le _); omega), rfl⟩⟩
        · obtain ⟨k, rfl⟩ : ∃ k, l = k + 1 := ⟨l - 1, by omega⟩
          have hl : k < ls.length := by omega
          have hba : ls[k].base < a := by have := hlo k (by omega); simpa [hl] using this
          have hx := h1.base hl
          have hy := h1.wslice hl
          have hlo := ok.lo _ (List.getElem_mem hl)
          have hl1 := ok.last1
          have honly := fun i hi hne => only_last (m := m) ok hl (by omega) (fun j hj hkj => hup j hj (by omega)) i hi hne
          by_cases hm : 0 ≤ m
          · cases hh : hasB ls[k].base ls[k].words.length a m
            all_goals
              have H := Hid.mk honly
              have HH := Hid.mk hh
              clear honly hup hhi hf hh hd
              go_wp2_with (go_at_call 78; refine (has_any _ _ _ _ _ _ _ (by omega) (by omega) (by omega)).mono ?_; rw [HH.out]; rintro e w' ⟨rfl, hb2⟩)
              go_ret2
            · exact ⟨hb.trans (hb2.mono hb.size), .inr ⟨fun i hi _ => (by by_cases q : i = k; (subst q; exact HH.out); exact H.out i hi q), rfl⟩⟩
            · exact ⟨hb.trans (hb2.mono hb.size), .inl ⟨k, hl, HH.out, hm, rfl⟩⟩
          · clear honly hup hhi hf hd
            go_wp2
            go_ret2
            exact ⟨hb, .inr ⟨fun i hi q => absurd q (by omega), rfl⟩⟩
end Go.Proofs.Ytkooogllajmkeaa
