/- The document's Live, Of, Has, Get. -/
import Derived.Test.YtkooogllajmkeaaRa
import Derived.Test.YtkooogllajmkeaaCt
namespace Go.Proofs.Ytkooogllajmkeaa
open Go.RowKit
section
variable {w : World} {p : Nat} {last : Int} {rv wv : Value} {ls : List LReg}
def liveTo (ls : List LReg) (i : Nat) : Nat := ((ls.take i).map (·.words.length)).sum
theorem liveTo_succ {ls : List LReg} {i : Nat} (hi : i < ls.length) : liveTo ls (i + 1) = liveTo ls i + ls[i].words.length := by
  unfold liveTo
  rw [List.take_succ_eq_append_getElem hi, List.map_append, List.sum_append]
  simp
theorem liveTo_all (ls : List LReg) : liveTo ls ls.length = tot ls := by simp [liveTo, tot]
theorem liveTo_le (ls : List LReg) : ∀ d i : Nat, i + d = ls.length → liveTo ls i ≤ tot ls := by
  intro d
  induction d with
  | zero => intro i hi; rw [← liveTo_all, ← hi]; exact Nat.le_refl _
  | succ d ih =>
    intro i hi
    have h2 := ih (i + 1) (by omega)
    rw [liveTo_succ (by omega)] at h2
    omega
set_option maxRecDepth 100000 in
set_option maxHeartbeats 1000000 in
theorem rlive_any (h : RAt w p last rv wv ls) (ok : RegsOk last ls) : Calls Try.prog 58 #[.pointer (some ⟨p, 0, none⟩)] w fun e w' =>
    Below w.heap.size w w' ∧ e = .returned (.int .i64 (tot ls : Nat)) := by
  obtain ⟨ao, c, rfl, hc⟩ := h.shape
  have hcell := h.cell0
  have hpl : p < w.heap.size := lt_of_heap h.head
  have hcn := ok.count
  have HB0 : Hid (∀ i, i < ls.length → liveTo ls (i + 1) ≤ 4194304) := fun i hi => Nat.le_trans (liveTo_le ls (ls.length - (i + 1)) (i + 1) (by omega)) ok.live
  have HS : Hid (∀ i (hi : i < ls.length), liveTo ls (i + 1) = liveTo ls i + ls[i].words.length) := fun i hi => liveTo_succ hi
  have HA := Hid.mk (liveTo_all ls)
  clear h ok
  obtain ⟨n, hn⟩ : ∃ n, ls.length = n := ⟨_, rfl⟩
  have HC := Hid.mk hc
  have HNL := Hid.mk hn
  rw [hn] at hcell hcn HA
  clear hc hn
  go_enter Try.func58, Try.ntmps58
  go_wp2
  go_loopw [4, 3] (fun i s wr => ∃ k : Nat, i = .int .i64 k ∧ s = .int .i64 (liveTo ls k : Nat) ∧ k ≤ n ∧ Below w.heap.size w wr) (fun i _ _ => n - (intOf i).toNat)
  case atStart => exact ⟨0, rfl, rfl, by omega, Below.refl _ _⟩
  case round =>
    obtain ⟨k, rfl, rfl, hk, hbw⟩ := hrel
    have c0 := (hbw.cell (p := ⟨p, 0, none⟩) hpl).trans hcell
    by_cases hlt : k < n
    · have h1 : k < ls.length := by rw [HNL.out]; exact hlt
      obtain ⟨B, rfl, hB, b0, b1⟩ := HC.out k h1
      have d1 := (hbw.cell (p := ⟨B, k * 2 + 1, none⟩) hB).trans b1
      have hbd := HB0.out k h1
      have e := HS.out k h1
      clear b0 b1
      obtain ⟨x2, hx2⟩ : ∃ x2, ls[k].words.length = x2 := ⟨_, rfl⟩
      obtain ⟨s0, hs0⟩ : ∃ s0, liveTo ls k = s0 := ⟨_, rfl⟩
      rw [hx2, hs0] at e
      rw [e] at hbd
      rw [hx2] at d1
      have HE := Hid.mk e
      rw [hs0]
      clear hx2 h1 hs0 e
      go_wp2
      exact ⟨⟨k + 1, by go_num, by rw [HE.out]; rfl, by omega, hbw⟩, by simp [intOf]; omega⟩
    · obtain rfl : k = n := by omega
      rw [HA.out]
      clear HB0 HS HC
      go_wp2
      go_ret
      exact ⟨hbw, rfl⟩
/-- what 'where' says, as a place -/
theorem where_cases (ok : RegsOk last ls) (a : Int) : (∃ (i j : Nat) (hi : i < ls.length) (_ : j < ls[i].words.length), a = ls[i].base + j ∧ whereOf (ls.map LReg.reg) a = ((i : Int), (j : Int)) ∧ ∀ m : Int, m ≤ ls[i].words.length - j → locate (ls.map LReg.reg) a m = some (i, j)) ∨
    (whereOf (ls.map LReg.reg) a = (-1, 0) ∧ ∀ m : Int, locate (ls.map LReg.reg) a m = none) := by
  cases hl : locate (ls.map LReg.reg) a 1 with
  | some x =>
    obtain ⟨i, j⟩ := x
    left
    obtain ⟨hi, h1, h2⟩ := locate_spec hl
    have hi' : i < ls.length := by simpa using hi
    obtain ⟨q1, q2, q3⟩ := hasB_iff.1 h1
    simp only [List.getElem_map, LReg.reg] at q1 q2 q3 h2
    have hj : j < ls[i].words.length := by omega
    have ea : a = ls[i].base + (j : Int) := by omega
    refine ⟨i, j, hi', hj, ea, ?_, fun m hm => ?_⟩
    · unfold whereOf
      rw [hl]
    · rw [ea]
      exact loc_at ok hi' hj hm
  | none =>
    right
    refine ⟨by unfold whereOf; rw [hl], fun m => loc_none fun i hi => hasB_no ?_⟩
    rintro ⟨q1, q2⟩
    have := loc_at ok hi (j := (a - ls[i].base).toNat) (m := 1) (by omega) (by omega)
    have ea : ls[i].base + ((a - ls[i].base).toNat : Int) = a := by omega
    rw [ea, hl] at this
    cases this
/-- has one region so many addresses from one on? -/
def hasOf (rs : List Reg) (a m : Int) : Bool := m == 0 || (decide (0 < m) && (locate rs a m).isSome)
set_option maxRecDepth 100000 in
set_option maxHeartbeats 1000000 in
theorem rhas_any (h : RAt w p last rv wv ls) (ok : RegsOk last ls) (a m : Int) (ha : -9223372036854775808 ≤ a ∧ a ≤ 9223372036854775807) : Calls Try.prog 82 #[.pointer (some ⟨p, 0, none⟩), .int .i64 a, .int .i64 m] w fun e w' =>
    Below w.heap.size w w' ∧ e = .returned (.bool (hasOf (ls.map LReg.reg) a m)) := by
  by_cases hm : m = 0
  · subst hm
    clear h ok
    go_enter Try.func82, Try.ntmps82
    go_wp2
    go_ret
    exact ⟨Below.refl _ _, rfl⟩
  · have hm0 : (m == 0) = false := by simp [hm]
    have hcall := where_any h ok a ha
    rcases where_cases ok a with ⟨i, j, hi, hj, rfl, ew, hloc⟩ | ⟨ew, hloc⟩
    · rw [ew] at hcall
      obtain ⟨ao, c, rfl, hc⟩ := h.shape
      obtain ⟨B, rfl, hB, b0, b1⟩ := hc i hi
      have hcell := h.cell0
      have hpl : p < w.heap.size := lt_of_heap h.head
      have hcn := ok.count
      have hln := (ok.lo _ (List.getElem_mem hi)).2.2.1
      have HR : hasOf (ls.map LReg.reg) (ls[i].base + j) m = (decide (m > 0) && decide (m ≤ (ls[i].words.length : Int) - j)) := by
        by_cases hm1 : 0 < m
        · by_cases hm2 : m ≤ (ls[i].words.length : Int) - j
          · simp [hasOf, hm1, hm2, hloc m hm2]
          · have : locate (ls.map LReg.reg) (ls[i].base + j) m = none := by
              cases hq : locate (ls.map LReg.reg) (ls[i].base + j) m with
              | none => rfl
              | some x =>
                obtain ⟨hi2, h1, h2⟩ := locate_spec hq
                obtain ⟨q1, q2, q3⟩ := hasB_iff.1 h1
                simp only [List.getElem_map, LReg.reg] at q1 q2 q3
                have hi2' : x.1 < ls.length := by simpa using hi2
                have h3 : hasB ls[x.1].base ls[x.1].words.length (ls[i].base + j) 1 = true := hasB_iff.2 ⟨q1, q2, by omega⟩
                have h4 : hasB ls[i].base ls[i].words.length (ls[i].base + j) 1 = true := hasB_iff.2 ⟨by omega, by omega, by omega⟩
                have := hasB_uniq ok hi2' hi h3 h4
                subst this
                omega
            simp [hasOf, hm1, hm2, hm, this]
        · simp [hasOf, hm1, hm]
      replace HR := Hid.mk HR
      obtain ⟨at_, hat⟩ : ∃ at_, ls[i].base + (j : Int) = at_ := ⟨_, rfl⟩
      obtain ⟨x2, hx2⟩ : ∃ x2, ls[i].words.length = x2 := ⟨_, rfl⟩
      obtain ⟨n, hn⟩ : ∃ n, ls.length = n := ⟨_, rfl⟩
      rw [hx2] at b1 HR hln hj
      rw [hn] at hcell hcn hi
      rw [hat] at HR hcall ⊢
      clear hx2 hn hat hloc hc h ok ew
      go_enter Try.func82, Try.ntmps82
      go_wp2_with fail
      refine hcall.mono ?_
      rintro e w1 ⟨hb1, rfl⟩
      have c0 := (hb1.cell (p := ⟨p, 0, none⟩) hpl).trans hcell
      have d1 := (hb1.cell (p := ⟨B, i * 2 + 1, none⟩) hB).trans b1
      by_cases hm1 : m > 0
      · have hd : decide (m > 0) = true := by simp; omega
        go_wp2_with fail
        go_ret
        refine ⟨hb1, ?_⟩
        rw [HR.out, hd]
        rfl
      · have hd : decide (m > 0) = false := by simp; omega
        go_wp2_with fail
        go_ret
        refine ⟨hb1, ?_⟩
        rw [HR.out, hd]
        rfl
    · rw [ew] at hcall
      have HR : hasOf (ls.map LReg.reg) a m = false := by simp [hasOf, hloc m, hm]
      replace HR := Hid.mk HR
      clear hloc h ok ew
      go_enter Try.func82, Try.ntmps82
      go_wp2_with fail
      refine hcall.mono ?_
      rintro e w1 ⟨hb1, rfl⟩
      by_cases hm1 : m > 0
      · go_wp2_with fail
        go_ret
        exact ⟨hb1, by rw [HR.out]; rfl⟩
      · go_wp2_with fail
        go_ret
        exact ⟨hb1, by rw [HR.out]; rfl⟩
theorem two_alloc {w w1 : World} (h : Below w.heap.size w w1) {i j : Nat} {u v : Value} {o : Obj} : Below w.heap.size w (((w1.setCell ⟨w.heap.size, i, none⟩ u).setCell ⟨w.heap.size, j, none⟩ v).alloc o) :=
  have q := (h.setCell (p := ⟨w.heap.size, i, none⟩) (Nat.le_refl _) u).setCell (p := ⟨w.heap.size, j, none⟩) (Nat.le_refl _) v
  q.alloc q.size _
/-- a word is empty, or has a type -/
def Words (ls : List LReg) : Prop := ∀ r ∈ ls, ∀ v ∈ r.words, v = (0, 0) ∨ v.1 ≠ 0
set_option maxRecDepth 100000 in
set_option maxHeartbeats 1000000 in
theorem rof_any (h : RAt w p last rv wv ls) (ok : RegsOk last ls) (a : Int) (ha : -9223372036854775808 ≤ a ∧ a ≤ 9223372036854775807) : Calls Try.prog 21 #[.pointer (some ⟨p, 0, none⟩), .int .i64 a] w fun e w' =>
    Below w.heap.size w w' ∧ e = .returned (.tuple #[.agg #[.int .i64 (Sp.of ⟨ls.map LReg.reg, last⟩ a).1.1, .int .i64 (Sp.of ⟨ls.map LReg.reg, last⟩ a).1.2], .bool (Sp.of ⟨ls.map LReg.reg, last⟩ a).2]) := by
  have hb0 : Below w.heap.size w (w.alloc (.cells #[.int .i64 0, .int .i64 0] 39)) := (Below.refl _ _).alloc (Nat.le_refl _) _
  have hcall := where_any (h.below hb0) ok a ha
  rcases where_cases ok a with ⟨i, j, hi, hj, rfl, ew, hloc⟩ | ⟨ew, hloc⟩
  · rw [ew] at hcall
    have hres : Sp.of ⟨ls.map LReg.reg, last⟩ (ls[i].base + j) = ((ls[i].base, (ls[i].words.length : Int)), true) := by
      unfold Sp.of
      rw [hloc 1 (by omega)]
      simp [wordsAt_map hi, hi, LReg.reg]
    rw [hres]
    go_enter Try.func21, Try.ntmps21
    go_wp2_with fail
    refine hcall.mono ?_
    rintro e w1 ⟨hb, rfl⟩
    obtain ⟨c0, c1, f0, hsz⟩ := box2 hb
    have hbb := hb0.trans (hb.mono hb0.size)
    have h1 := (h.below hb0).below hb
    obtain ⟨ao, c, rfl, hc⟩ := h1.shape
    obtain ⟨B, rfl, hB, hx, hy⟩ := hc i hi
    have hz := h1.cell0
    have hn := ok.count
    clear hc hloc ew hres hcall h h1 ok
    go_wp2_with fail
    refine bodyPost_ret (v := .tuple #[.agg #[.int .i64 ls[i].base, .int .i64 ls[i].words.length], .bool true]) (by simp [results, Try.results21, go_sem, c0, c1]) rfl ⟨?_, rfl⟩
    exact (hbb.setCell (Nat.le_refl _) _).setCell (Nat.le_refl _) _
  · rw [ew] at hcall
    have hres : Sp.of ⟨ls.map LReg.reg, last⟩ a = ((0, 0), false) := by unfold Sp.of; rw [hloc 1]
    rw [hres]
    go_enter Try.func21, Try.ntmps21
    go_wp2_with fail
    refine hcall.mono ?_
    rintro e w1 ⟨hb, rfl⟩
    obtain ⟨c0, c1, f0, hsz⟩ := box2 hb
    have hbb := hb0.trans (hb.mono hb0.size)
    clear hloc ew hres hcall h ok
    go_wp2_with fail
    refine bodyPost_ret (v := .tuple #[.agg #[.int .i64 0, .int .i64 0], .bool false]) (by simp [results, Try.results21, go_sem, c0, c1]) rfl ⟨?_, rfl⟩
    exact (hbb.setCell (Nat.le_refl _) _).setCell (Nat.le_refl _) _
set_option maxRecDepth 100000 in
set_option maxHeartbeats 1000000 in
theorem rget_any (h : RAt w p last rv wv ls) (ok : RegsOk last ls) (hw : Words ls) (a : Int) (ha : -9223372036854775808 ≤ a ∧ a ≤ 9223372036854775807) : Calls Try.prog 52 #[.pointer (some ⟨p, 0, none⟩), .int .i64 a] w fun e w' =>
    Below w.heap.size w w' ∧ e = .returned (.tuple #[.agg #[.int .i64 (Sp.get ⟨ls.map LReg.reg, last⟩ a).1.1, .int .i64 (Sp.get ⟨ls.map LReg.reg, last⟩ a).1.2], .int .i64 (Sp.get ⟨ls.map LReg.reg, last⟩ a).2]) := by
  have hb0 : Below w.heap.size w (w.alloc (.cells #[.int .i64 0, .int .i64 0] 29)) := (Below.refl _ _).alloc (Nat.le_refl _) _
  have hcall := where_any (h.below hb0) ok a ha
  rcases where_cases ok a with ⟨i, j, hi, hj, rfl, ew, hloc⟩ | ⟨ew, hloc⟩
  · rw [ew] at hcall
    have hv := hw _ (List.getElem_mem hi) _ (List.getElem_mem hj)
    have hres : Sp.get ⟨ls.map LReg.reg, last⟩ (ls[i].base + j) = if ls[i].words[j] = (0, 0) then ((0, 0), 212) else (ls[i].words[j], 0) := by
      unfold Sp.get
      rw [hloc 1 (by omega)]
      simp only [wordAt_map hi hj]
    obtain ⟨x, hxx⟩ : ∃ x, ls[i].words[j] = x := ⟨_, rfl⟩
    rw [hxx] at hv hres
    rw [hres]
    have hln := (ok.lo _ (List.getElem_mem hi)).2.2.1
    go_enter Try.func52, Try.ntmps52
    go_wp2_with fail
    refine hcall.mono ?_
    rintro e w1 ⟨hb, rfl⟩
    obtain ⟨c0, c1, f0, hsz⟩ := box2 hb
    have hbb := hb0.trans (hb.mono hb0.size)
    have h1 := (h.below hb0).below hb
    have ht := h1.type hi hj
    have hm := h1.num hi hj
    obtain ⟨ao, c, rfl, hc⟩ := h1.wshape
    obtain ⟨B, rfl, hB, hx⟩ := hc i hi
    have hz := h1.cell1
    have hn := ok.count
    rw [hxx] at ht hm
    clear hc hloc ew hres hcall h h1 ok hxx hw
    have c0' := fun ob => (cell_alloc (w := w1) (o := ob) (a := ⟨w.heap.size, 0, none⟩) hsz).trans c0
    have c1' := fun ob => (cell_alloc (w := w1) (o := ob) (a := ⟨w.heap.size, 1, none⟩) hsz).trans c1
    by_cases hq : x = (0, 0)
    · subst hq
      go_wp2_with fail
      refine bodyPost_ret (v := .tuple #[.agg #[.int .i64 0, .int .i64 0], .int .i64 212]) (by simp [results, Try.results52, go_sem, c0, c1, cell_alloc, hsz]) rfl ⟨?_, rfl⟩
      exact two_alloc hbb
    · have hq1 : (x.1 == 0) = false := by
        rcases hv with hv | hv
        · exact absurd hv hq
        · simp [hv]
      have HQ := Hid.mk hq
      clear hv hq
      go_wp2_with fail
      refine bodyPost_ret (v := .tuple #[.agg #[.int .i64 x.1, .int .i64 x.2], .int .i64 0]) (by simp [results, Try.results52, go_sem, c0, c1, cell_alloc, hsz]) rfl ⟨?_, by first | rfl | (rw [if_neg HQ.out])⟩
      exact two_alloc hbb
  · rw [ew] at hcall
    have hres : Sp.get ⟨ls.map LReg.reg, last⟩ a = ((0, 0), 210) := by unfold Sp.get; rw [hloc 1]
    rw [hres]
    go_enter Try.func52, Try.ntmps52
    go_wp2_with fail
    refine hcall.mono ?_
    rintro e w1 ⟨hb, rfl⟩
    obtain ⟨c0, c1, f0, hsz⟩ := box2 hb
    have hbb := hb0.trans (hb.mono hb0.size)
    clear hloc ew hres hcall h ok
    go_wp2_with fail
    refine bodyPost_ret (v := .tuple #[.agg #[.int .i64 0, .int .i64 0], .int .i64 210]) (by simp [results, Try.results52, go_sem, c0, c1]) rfl ⟨?_, rfl⟩
    exact (hbb.setCell (Nat.le_refl _) _).setCell (Nat.le_refl _) _
end
end Go.Proofs.Ytkooogllajmkeaa
