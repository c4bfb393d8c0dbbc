/- Parts Rb Rc Rd Re, put together. -/
import Derived.Test.YtkooogllajmkeaaMo5
import Derived.BigRegion
import Derived.RegionTactic
/- The document's Live, Of, Has, Get. -/
namespace Go.Proofs.Ytkooogllajmkeaa
open Go.RowKit
section
variable {w : World} {p : Nat} {last : Int} {rv wv : Value} {ls : List LReg}
def liveTo (ls : List LReg) (i : Nat) : Nat := ((ls.take i).map (·.words.length)).sum
theorem liveTo_succ {ls : List LReg} {i : Nat} (hi : i < ls.length) : liveTo ls (i + 1) = liveTo ls i + ls[i].words.length := by
  unfold liveTo
  rw [List.take_succ_eq_append_getElem hi, List.map_append, List.sum_append]
  simp
theorem liveTo_all (ls : List LReg) : liveTo ls ls.length = tot ls := by simp [liveTo, tot]
theorem liveTo_le (ls : List LReg) : ∀ d i : Nat, i + d = ls.length → liveTo ls i ≤ tot ls := by
  intro d
  induction d with
  | zero => intro i hi; rw [← liveTo_all, ← hi]; exact Nat.le_refl _
  | succ d ih =>
    intro i hi
    have h2 := ih (i + 1) (by omega)
    rw [liveTo_succ (by omega)] at h2
    omega
set_option maxRecDepth 100000 in
set_option maxHeartbeats 1000000 in
theorem rlive_any (h : RAt w p last rv wv ls) (ok : RegsOk last ls) : Calls Try.prog 58 #[.pointer (some ⟨p, 0, none⟩)] w fun e w' =>
    Below w.heap.size w w' ∧ e = .returned (.int .i64 (tot ls : Nat)) := by
  obtain ⟨ao, c, rfl, hc⟩ := h.shape
  have hcell := h.cell0
  have hpl : p < w.heap.size := lt_of_heap h.head
  have hcn := ok.count
  have HB0 : Hid (∀ i, i < ls.length → liveTo ls (i + 1) ≤ 4194304) := fun i hi => Nat.le_trans (liveTo_le ls (ls.length - (i + 1)) (i + 1) (by omega)) ok.live
  have HS : Hid (∀ i (hi : i < ls.length), liveTo ls (i + 1) = liveTo ls i + ls[i].words.length) := fun i hi => liveTo_succ hi
  have HA := Hid.mk (liveTo_all ls)
  clear h ok
  obtain ⟨n, hn⟩ : ∃ n, ls.length = n := ⟨_, rfl⟩
  have HC := Hid.mk hc
  have HNL := Hid.mk hn
  rw [hn] at hcell hcn HA
  clear hc hn
  go_enter Try.func58, Try.ntmps58
  go_wp2
  go_loopw [4, 3] (fun i s wr => ∃ k : Nat, i = .int .i64 k ∧ s = .int .i64 (liveTo ls k : Nat) ∧ k ≤ n ∧ Below w.heap.size w wr) (fun i _ _ => n - (intOf i).toNat)
  case atStart => exact ⟨0, rfl, rfl, by omega, Below.refl _ _⟩
  case round =>
    obtain ⟨k, rfl, rfl, hk, hbw⟩ := hrel
    have c0 := (hbw.cell (p := ⟨p, 0, none⟩) hpl).trans hcell
    by_cases hlt : k < n
    · have h1 : k < ls.length := by rw [HNL.out]; exact hlt
      obtain ⟨B, rfl, hB, b0, b1⟩ := HC.out k h1
      have d1 := (hbw.cell (p := ⟨B, k * 2 + 1, none⟩) hB).trans b1
      have hbd := HB0.out k h1
      have e := HS.out k h1
      clear b0 b1
      obtain ⟨x2, hx2⟩ : ∃ x2, ls[k].words.length = x2 := ⟨_, rfl⟩
      obtain ⟨s0, hs0⟩ : ∃ s0, liveTo ls k = s0 := ⟨_, rfl⟩
      rw [hx2, hs0] at e
      rw [e] at hbd
      rw [hx2] at d1
      have HE := Hid.mk e
      rw [hs0]
      clear hx2 h1 hs0 e
      go_wp2
      exact ⟨⟨k + 1, by go_num, by rw [HE.out]; rfl, by omega, hbw⟩, by simp [intOf]; omega⟩
    · obtain rfl : k = n := by omega
      rw [HA.out]
      clear HB0 HS HC
      go_wp2
      go_ret
      exact ⟨hbw, rfl⟩
/-- what 'where' says, as a place -/
theorem where_cases (ok : RegsOk last ls) (a : Int) : (∃ (i j : Nat) (hi : i < ls.length) (_ : j < ls[i].words.length), a = ls[i].base + j ∧ whereOf (ls.map LReg.reg) a = ((i : Int), (j : Int)) ∧ ∀ m : Int, m ≤ ls[i].words.length - j → locate (ls.map LReg.reg) a m = some (i, j)) ∨
    (whereOf (ls.map LReg.reg) a = (-1, 0) ∧ ∀ m : Int, locate (ls.map LReg.reg) a m = none) := by
  cases hl : locate (ls.map LReg.reg) a 1 with
  | some x =>
    obtain ⟨i, j⟩ := x
    left
    obtain ⟨hi, h1, h2⟩ := locate_spec hl
    have hi' : i < ls.length := by simpa using hi
    obtain ⟨q1, q2, q3⟩ := hasB_iff.1 h1
    simp only [List.getElem_map, LReg.reg] at q1 q2 q3 h2
    have hj : j < ls[i].words.length := by omega
    have ea : a = ls[i].base + (j : Int) := by omega
    refine ⟨i, j, hi', hj, ea, ?_, fun m hm => ?_⟩
    · unfold whereOf
      rw [hl]
    · rw [ea]
      exact loc_at ok hi' hj hm
  | none =>
    right
    refine ⟨by unfold whereOf; rw [hl], fun m => loc_none fun i hi => hasB_no ?_⟩
    rintro ⟨q1, q2⟩
    have := loc_at ok hi (j := (a - ls[i].base).toNat) (m := 1) (by omega) (by omega)
    have ea : ls[i].base + ((a - ls[i].base).toNat : Int) = a := by omega
    rw [ea, hl] at this
    cases this
/-- has one region so many addresses from one on? -/
def hasOf (rs : List Reg) (a m : Int) : Bool := m == 0 || (decide (0 < m) && (locate rs a m).isSome)
set_option maxRecDepth 100000 in
set_option maxHeartbeats 1000000 in
theorem rhas_any (h : RAt w p last rv wv ls) (ok : RegsOk last ls) (a m : Int) (ha : -9223372036854775808 ≤ a ∧ a ≤ 9223372036854775807) : Calls Try.prog 82 #[.pointer (some ⟨p, 0, none⟩), .int .i64 a, .int .i64 m] w fun e w' =>
    Below w.heap.size w w' ∧ e = .returned (.bool (hasOf (ls.map LReg.reg) a m)) := by
  by_cases hm : m = 0
  · subst hm
    clear h ok
    go_enter Try.func82, Try.ntmps82
    go_wp2
    go_ret
    exact ⟨Below.refl _ _, rfl⟩
  · have hm0 : (m == 0) = false := by simp [hm]
    have hcall := where_any h ok a ha
    rcases where_cases ok a with ⟨i, j, hi, hj, rfl, ew, hloc⟩ | ⟨ew, hloc⟩
    · rw [ew] at hcall
      obtain ⟨ao, c, rfl, hc⟩ := h.shape
      obtain ⟨B, rfl, hB, b0, b1⟩ := hc i hi
      have hcell := h.cell0
      have hpl : p < w.heap.size := lt_of_heap h.head
      have hcn := ok.count
      have hln := (ok.lo _ (List.getElem_mem hi)).2.2.1
      have HR : hasOf (ls.map LReg.reg) (ls[i].base + j) m = (decide (m > 0) && decide (m ≤ (ls[i].words.length : Int) - j)) := by
        by_cases hm1 : 0 < m
        · by_cases hm2 : m ≤ (ls[i].words.length : Int) - j
          · simp [hasOf, hm1, hm2, hloc m hm2]
          · have : locate (ls.map LReg.reg) (ls[i].base + j) m = none := by
              cases hq : locate (ls.map LReg.reg) (ls[i].base + j) m with
              | none => rfl
              | some x =>
                obtain ⟨hi2, h1, h2⟩ := locate_spec hq
                obtain ⟨q1, q2, q3⟩ := hasB_iff.1 h1
                simp only [List.getElem_map, LReg.reg] at q1 q2 q3
                have hi2' : x.1 < ls.length := by simpa using hi2
                have h3 : hasB ls[x.1].base ls[x.1].words.length (ls[i].base + j) 1 = true := hasB_iff.2 ⟨q1, q2, by omega⟩
                have h4 : hasB ls[i].base ls[i].words.length (ls[i].base + j) 1 = true := hasB_iff.2 ⟨by omega, by omega, by omega⟩
                have := hasB_uniq ok hi2' hi h3 h4
                subst this
                omega
            simp [hasOf, hm1, hm2, hm, this]
        · simp [hasOf, hm1, hm]
      replace HR := Hid.mk HR
      obtain ⟨at_, hat⟩ : ∃ at_, ls[i].base + (j : Int) = at_ := ⟨_, rfl⟩
      obtain ⟨x2, hx2⟩ : ∃ x2, ls[i].words.length = x2 := ⟨_, rfl⟩
      obtain ⟨n, hn⟩ : ∃ n, ls.length = n := ⟨_, rfl⟩
      rw [hx2] at b1 HR hln hj
      rw [hn] at hcell hcn hi
      rw [hat] at HR hcall ⊢
      clear hx2 hn hat hloc hc h ok ew
      go_enter Try.func82, Try.ntmps82
      go_wp2_with fail
      refine hcall.mono ?_
      rintro e w1 ⟨hb1, rfl⟩
      have c0 := (hb1.cell (p := ⟨p, 0, none⟩) hpl).trans hcell
      have d1 := (hb1.cell (p := ⟨B, i * 2 + 1, none⟩) hB).trans b1
      by_cases hm1 : m > 0
      · have hd : decide (m > 0) = true := by simp; omega
        go_wp2_with fail
        go_ret
        refine ⟨hb1, ?_⟩
        rw [HR.out, hd]
        rfl
      · have hd : decide (m > 0) = false := by simp; omega
        go_wp2_with fail
        go_ret
        refine ⟨hb1, ?_⟩
        rw [HR.out, hd]
        rfl
    · rw [ew] at hcall
      have HR : hasOf (ls.map LReg.reg) a m = false := by simp [hasOf, hloc m, hm]
      replace HR := Hid.mk HR
      clear hloc h ok ew
      go_enter Try.func82, Try.ntmps82
      go_wp2_with fail
      refine hcall.mono ?_
      rintro e w1 ⟨hb1, rfl⟩
      by_cases hm1 : m > 0
      · go_wp2_with fail
        go_ret
        exact ⟨hb1, by rw [HR.out]; rfl⟩
      · go_wp2_with fail
        go_ret
        exact ⟨hb1, by rw [HR.out]; rfl⟩
theorem two_alloc {w w1 : World} (h : Below w.heap.size w w1) {i j : Nat} {u v : Value} {o : Obj} : Below w.heap.size w (((w1.setCell ⟨w.heap.size, i, none⟩ u).setCell ⟨w.heap.size, j, none⟩ v).alloc o) :=
  have q := (h.setCell (p := ⟨w.heap.size, i, none⟩) (Nat.le_refl _) u).setCell (p := ⟨w.heap.size, j, none⟩) (Nat.le_refl _) v
  q.alloc q.size _
/-- a word is empty, or has a type -/
def Words (ls : List LReg) : Prop := ∀ r ∈ ls, ∀ v ∈ r.words, v = (0, 0) ∨ v.1 ≠ 0
set_option maxRecDepth 100000 in
set_option maxHeartbeats 1000000 in
theorem rof_any (h : RAt w p last rv wv ls) (ok : RegsOk last ls) (a : Int) (ha : -9223372036854775808 ≤ a ∧ a ≤ 9223372036854775807) : Calls Try.prog 21 #[.pointer (some ⟨p, 0, none⟩), .int .i64 a] w fun e w' =>
    Below w.heap.size w w' ∧ e = .returned (.tuple #[.agg #[.int .i64 (Sp.of ⟨ls.map LReg.reg, last⟩ a).1.1, .int .i64 (Sp.of ⟨ls.map LReg.reg, last⟩ a).1.2], .bool (Sp.of ⟨ls.map LReg.reg, last⟩ a).2]) := by
  have hb0 : Below w.heap.size w (w.alloc (.cells #[.int .i64 0, .int .i64 0] 39)) := (Below.refl _ _).alloc (Nat.le_refl _) _
  have hcall := where_any (h.below hb0) ok a ha
  rcases where_cases ok a with ⟨i, j, hi, hj, rfl, ew, hloc⟩ | ⟨ew, hloc⟩
  · rw [ew] at hcall
    have hres : Sp.of ⟨ls.map LReg.reg, last⟩ (ls[i].base + j) = ((ls[i].base, (ls[i].words.length : Int)), true) := by
      unfold Sp.of
      rw [hloc 1 (by omega)]
      simp [wordsAt_map hi, hi, LReg.reg]
    rw [hres]
    go_enter Try.func21, Try.ntmps21
    go_wp2_with fail
    refine hcall.mono ?_
    rintro e w1 ⟨hb, rfl⟩
    obtain ⟨c0, c1, f0, hsz⟩ := box2 hb
    have hbb := hb0.trans (hb.mono hb0.size)
    have h1 := (h.below hb0).below hb
    obtain ⟨ao, c, rfl, hc⟩ := h1.shape
    obtain ⟨B, rfl, hB, hx, hy⟩ := hc i hi
    have hz := h1.cell0
    have hn := ok.count
    clear hc hloc ew hres hcall h h1 ok
    go_wp2_with fail
    refine bodyPost_ret (v := .tuple #[.agg #[.int .i64 ls[i].base, .int .i64 ls[i].words.length], .bool true]) (by simp [results, Try.results21, go_sem, c0, c1]) rfl ⟨?_, rfl⟩
    exact (hbb.setCell (Nat.le_refl _) _).setCell (Nat.le_refl _) _
  · rw [ew] at hcall
    have hres : Sp.of ⟨ls.map LReg.reg, last⟩ a = ((0, 0), false) := by unfold Sp.of; rw [hloc 1]
    rw [hres]
    go_enter Try.func21, Try.ntmps21
    go_wp2_with fail
    refine hcall.mono ?_
    rintro e w1 ⟨hb, rfl⟩
    obtain ⟨c0, c1, f0, hsz⟩ := box2 hb
    have hbb := hb0.trans (hb.mono hb0.size)
    clear hloc ew hres hcall h ok
    go_wp2_with fail
    refine bodyPost_ret (v := .tuple #[.agg #[.int .i64 0, .int .i64 0], .bool false]) (by simp [results, Try.results21, go_sem, c0, c1]) rfl ⟨?_, rfl⟩
    exact (hbb.setCell (Nat.le_refl _) _).setCell (Nat.le_refl _) _
set_option maxRecDepth 100000 in
set_option maxHeartbeats 1000000 in
theorem rget_any (h : RAt w p last rv wv ls) (ok : RegsOk last ls) (hw : Words ls) (a : Int) (ha : -9223372036854775808 ≤ a ∧ a ≤ 9223372036854775807) : Calls Try.prog 52 #[.pointer (some ⟨p, 0, none⟩), .int .i64 a] w fun e w' =>
    Below w.heap.size w w' ∧ e = .returned (.tuple #[.agg #[.int .i64 (Sp.get ⟨ls.map LReg.reg, last⟩ a).1.1, .int .i64 (Sp.get ⟨ls.map LReg.reg, last⟩ a).1.2], .int .i64 (Sp.get ⟨ls.map LReg.reg, last⟩ a).2]) := by
  have hb0 : Below w.heap.size w (w.alloc (.cells #[.int .i64 0, .int .i64 0] 29)) := (Below.refl _ _).alloc (Nat.le_refl _) _
  have hcall := where_any (h.below hb0) ok a ha
  rcases where_cases ok a with ⟨i, j, hi, hj, rfl, ew, hloc⟩ | ⟨ew, hloc⟩
  · rw [ew] at hcall
    have hv := hw _ (List.getElem_mem hi) _ (List.getElem_mem hj)
    have hres : Sp.get ⟨ls.map LReg.reg, last⟩ (ls[i].base + j) = if ls[i].words[j] = (0, 0) then ((0, 0), 212) else (ls[i].words[j], 0) := by
      unfold Sp.get
      rw [hloc 1 (by omega)]
      simp only [wordAt_map hi hj]
    obtain ⟨x, hxx⟩ : ∃ x, ls[i].words[j] = x := ⟨_, rfl⟩
    rw [hxx] at hv hres
    rw [hres]
    have hln := (ok.lo _ (List.getElem_mem hi)).2.2.1
    go_enter Try.func52, Try.ntmps52
    go_wp2_with fail
    refine hcall.mono ?_
    rintro e w1 ⟨hb, rfl⟩
    obtain ⟨c0, c1, f0, hsz⟩ := box2 hb
    have hbb := hb0.trans (hb.mono hb0.size)
    have h1 := (h.below hb0).below hb
    have ht := h1.type hi hj
    have hm := h1.num hi hj
    obtain ⟨ao, c, rfl, hc⟩ := h1.wshape
    obtain ⟨B, rfl, hB, hx⟩ := hc i hi
    have hz := h1.cell1
    have hn := ok.count
    rw [hxx] at ht hm
    clear hc hloc ew hres hcall h h1 ok hxx hw
    have c0' := fun ob => (cell_alloc (w := w1) (o := ob) (a := ⟨w.heap.size, 0, none⟩) hsz).trans c0
    have c1' := fun ob => (cell_alloc (w := w1) (o := ob) (a := ⟨w.heap.size, 1, none⟩) hsz).trans c1
    by_cases hq : x = (0, 0)
    · subst hq
      go_wp2_with fail
      refine bodyPost_ret (v := .tuple #[.agg #[.int .i64 0, .int .i64 0], .int .i64 212]) (by simp [results, Try.results52, go_sem, c0, c1, cell_alloc, hsz]) rfl ⟨?_, rfl⟩
      exact two_alloc hbb
    · have hq1 : (x.1 == 0) = false := by
        rcases hv with hv | hv
        · exact absurd hv hq
        · simp [hv]
      have HQ := Hid.mk hq
      clear hv hq
      go_wp2_with fail
      refine bodyPost_ret (v := .tuple #[.agg #[.int .i64 x.1, .int .i64 x.2], .int .i64 0]) (by simp [results, Try.results52, go_sem, c0, c1, cell_alloc, hsz]) rfl ⟨?_, by first | rfl | (rw [if_neg HQ.out])⟩
      exact two_alloc hbb
  · rw [ew] at hcall
    have hres : Sp.get ⟨ls.map LReg.reg, last⟩ a = ((0, 0), 210) := by unfold Sp.get; rw [hloc 1]
    rw [hres]
    go_enter Try.func52, Try.ntmps52
    go_wp2_with fail
    refine hcall.mono ?_
    rintro e w1 ⟨hb, rfl⟩
    obtain ⟨c0, c1, f0, hsz⟩ := box2 hb
    have hbb := hb0.trans (hb.mono hb0.size)
    clear hloc ew hres hcall h ok
    go_wp2_with fail
    refine bodyPost_ret (v := .tuple #[.agg #[.int .i64 0, .int .i64 0], .int .i64 210]) (by simp [results, Try.results52, go_sem, c0, c1]) rfl ⟨?_, rfl⟩
    exact (hbb.setCell (Nat.le_refl _) _).setCell (Nat.le_refl _) _
end
end Go.Proofs.Ytkooogllajmkeaa
/- The document's Put, and Check. -/
namespace Go.Proofs.Ytkooogllajmkeaa
open Go.RowKit
theorem known02_any (t : Int) (w : World) : Calls Try.prog 91 #[.int .i64 t] w fun e w' => e = .returned (.bool (knownB t)) ∧ w' = w := by
  by_cases h1 : t = 1
  · subst h1
    go_enter Try.func91, Try.ntmps91
    go_wp2
    go_ret
    exact ⟨rfl, rfl⟩
  · by_cases h2 : t = 2
    · subst h2
      go_enter Try.func91, Try.ntmps91
      go_wp2
      go_ret
      exact ⟨rfl, rfl⟩
    · by_cases h3 : t = 3
      · subst h3
        go_enter Try.func91, Try.ntmps91
        go_wp2
        go_ret
        exact ⟨rfl, rfl⟩
      · have e1 : (t == 1) = false := by simp [h1]
        have e2 : (t == 2) = false := by simp [h2]
        have e3 : (t == 3) = false := by simp [h3]
        by_cases h4 : t = 4
        · subst h4
          go_enter Try.func91, Try.ntmps91
          go_wp2
          go_ret
          exact ⟨rfl, rfl⟩
        · have e4 : (t == 4) = false := by simp [h4]
          have hk : Hid (knownB t = false) := by show knownB t = false; unfold knownB; simp; omega
          clear h1 h2 h3 h4
          go_enter Try.func91, Try.ntmps91
          go_wp2
          go_ret
          exact ⟨by rw [hk.out]; rfl, rfl⟩
theorem check02_any (t n : Int) (w : World) : Calls Try.prog 81 #[.agg #[.int .i64 t, .int .i64 n]] w fun e w' => e = .returned (.int .i64 (chk t n)) ∧ Below w.heap.size w w' := by
  by_cases hk : knownB t = true
  · have ht : 1 ≤ t := by unfold knownB at hk; simp at hk; omega
    have hc := known02_any t (w.alloc (.cells #[.int .i64 t, .int .i64 n] 29))
    rw [hk] at hc
    by_cases h1 : t = 1
    · subst h1
      have hr := Hid.mk (chk_ok (t := 1) (n := n) (by simp [okV, hk]))
      clear hk ht
      go_enter Try.func81, Try.ntmps81
      go_wp2_with fail
      refine hc.mono ?_
      rintro e w' ⟨rfl, rfl⟩
      go_wp2_with fail
      go_ret
      exact ⟨by rw [hr.out]; rfl, (Below.refl _ _).alloc (Nat.le_refl _) _⟩
    · have h1' : decide (t > 1) = true := by simp; omega
      by_cases h2 : n < 0
      · have hr := Hid.mk (chk_no (t := t) (n := n) (by simp [okV, h1]; omega))
        clear hk ht h1
        go_enter Try.func81, Try.ntmps81
        go_wp2_with fail
        refine hc.mono ?_
        rintro e w' ⟨rfl, rfl⟩
        go_wp2_with fail
        go_ret
        exact ⟨by rw [hr.out]; rfl, (Below.refl _ _).alloc (Nat.le_refl _) _⟩
      · have hr := Hid.mk (chk_ok (t := t) (n := n) (by simp [okV, hk]; omega))
        clear hk ht h1
        go_enter Try.func81, Try.ntmps81
        go_wp2_with fail
        refine hc.mono ?_
        rintro e w' ⟨rfl, rfl⟩
        go_wp2_with fail
        go_ret
        exact ⟨by rw [hr.out]; rfl, (Below.refl _ _).alloc (Nat.le_refl _) _⟩
  · have hk' : knownB t = false := by simpa using hk
    have hc := known02_any t (w.alloc (.cells #[.int .i64 t, .int .i64 n] 29))
    rw [hk'] at hc
    have hr := Hid.mk (chk_no (t := t) (n := n) (by simp [okV, hk']))
    clear hk hk'
    go_enter Try.func81, Try.ntmps81
    go_wp2_with fail
    refine hc.mono ?_
    rintro e w' ⟨rfl, rfl⟩
    go_wp2_with fail
    go_ret
    exact ⟨by rw [hr.out]; rfl, (Below.refl _ _).alloc (Nat.le_refl _) _⟩
section
variable {w w' : World} {p : Nat} {last : Int} {rv wv : Value} {ls : List LReg}
theorem rfoot_setWords {i : Nat} {ws : List (Int × Int)} : rfoot p rv wv (setWords ls i ws) = rfoot p rv wv ls := by
  unfold rfoot
  rw [setWords_map (fun r => r.wb) (fun _ => rfl)]
theorem gcells_eq {l1 l2 : List LReg} (h : l1.map gcell = l2.map gcell) : gcells l1 = gcells l2 := by
  have : ∀ l : List LReg, gcells l = (l.map gcell).flatMap id := fun l => by rw [flatMap_map']; rfl
  rw [this, this, h]
theorem RAt.replace (h : RAt w p last rv wv ls) {i : Nat} (hi : i < ls.length) (k : Kp [ls[i].wb] w w') (ws : List (Int × Int)) (hl : ws.length = ls[i].words.length)
    (hrow : w'.ownsRow 0 29 2 (.slice (some ⟨ls[i].wb, 0, none⟩) ls[i].words.length ls[i].cap) ls[i].words.length (wcells ws)) : RAt w' p last rv wv (setWords ls i ws) := by
  have hnd := h.nodup
  have hin : ls[i].wb ∈ ls.map (·.wb) := List.mem_map.2 ⟨_, List.getElem_mem hi, rfl⟩
  have hp : p ≠ ls[i].wb := by
    rintro e
    exact (List.nodup_cons.1 hnd).1 (List.mem_append.2 (.inr (List.mem_append.2 (.inr (e ▸ hin)))))
  have hd1 := List.nodup_append.1 (List.nodup_cons.1 hnd).2
  have hd2 := List.nodup_append.1 hd1.2.1
  have hB : ∀ g, rv.ownBlock = some g → g ∉ [ls[i].wb] := by
    intro g hg e
    simp only [List.mem_singleton] at e
    exact hd1.2.2 g (by simp [hg]) _ (List.mem_append.2 (.inr hin)) e
  have hW : ∀ g, wv.ownBlock = some g → g ∉ [ls[i].wb] := by
    intro g hg e
    simp only [List.mem_singleton] at e
    exact hd2.2.2 g (by simp [hg]) _ hin e
  refine ⟨k.at h.head (by simpa using hp), ?_, ?_, ?_, ?_⟩
  · rw [setWords_len, gcells_eq (setWords_map _ (fun _ => by simp [gcell, hl]))]
    exact k.row h.row hB
  · rw [setWords_len, setWords_map _ (fun _ => by simp [LReg.sl, hl])]
    exact k.row h.tab hW
  · intro r hr
    rcases setWords_mem hr with ⟨_, rfl⟩ | ⟨hr, q, hq, hqr⟩
    · simpa [hl, LReg.sl] using hrow
    · refine k.row (h.words r hr) ?_
      intro g hg
      simp [Value.ownBlock, LReg.sl] at hg
      subst hg
      obtain ⟨hql, rfl⟩ := List.getElem?_eq_some_iff.1 hqr
      have h2 := hd2.2.1
      simp only [List.mem_singleton]
      intro e
      rcases Nat.lt_or_gt_of_ne hq with q' | q'
      · exact List.pairwise_iff_getElem.1 h2 q i (by simpa using hql) (by simpa using hi) q' (by simpa using e)
      · exact List.pairwise_iff_getElem.1 h2 i q (by simpa using hi) (by simpa using hql) q' (by simpa using e.symm)
  · rw [rfoot_setWords]
    exact hnd
theorem RAt.wrow (h : RAt w p last rv wv ls) {i : Nat} (hi : i < ls.length) : w.ownsRow 0 29 2 (.slice (some ⟨ls[i].wb, 0, none⟩) ls[i].words.length ls[i].cap) ls[i].words.length (wcells ls[i].words) := h.words _ (List.getElem_mem hi)
/-- block p holds the document's space S; gs are the blocks that it owns -/
def RSpc (w : World) (p : Nat) (S : Sp) (gs : List Nat) : Prop := ∃ rv wv ls, RAt w p S.last rv wv ls ∧ RegsOk S.last ls ∧ Words ls ∧ S.regs = ls.map LReg.reg ∧ gs = rfoot p rv wv ls
def RStp (w : World) (p : Nat) (gs : List Nat) (S : Sp) (w' : World) : Prop := ∃ gs', RSpc w' p S gs' ∧ Kp gs w w' ∧ ∀ b ∈ gs', b ∈ gs ∨ w.heap.size ≤ b
theorem RStp.of_below {S : Sp} {gs : List Nat} (h : RSpc w p S gs) (k : Below w.heap.size w w') : RStp w p gs S w' := by
  obtain ⟨rv, wv, ls, h1, h2, h3, h4, rfl⟩ := h
  exact ⟨_, ⟨rv, wv, ls, h1.below k, h2, h3, h4, rfl⟩, Kp.of_below k _, fun _ hb => .inl hb⟩
theorem words_set {i : Nat} (hw : Words ls) {ws : List (Int × Int)} (h : ∀ v ∈ ws, v = (0, 0) ∨ v.1 ≠ 0) : Words (setWords ls i ws) := by
  intro r hr v hv
  rcases setWords_mem hr with ⟨_, rfl⟩ | ⟨hr, _⟩
  · exact h v hv
  · exact hw r hr v hv
theorem okV_type {t n : Int} (h : okV t n = true) : t ≠ 0 := by
  rintro rfl
  exact absurd h (by simp [okV, knownB])
set_option maxRecDepth 100000 in
set_option maxHeartbeats 1000000 in
theorem rput_spc {S : Sp} {gs : List Nat} (h : RSpc w p S gs) (a t n : Int) (ha : -9223372036854775808 ≤ a ∧ a ≤ 9223372036854775807) : Calls Try.prog 51 #[.pointer (some ⟨p, 0, none⟩), .int .i64 a, .agg #[.int .i64 t, .int .i64 n]] w fun e w' =>
    RStp w p gs (S.put a (t, n)).2 w' ∧ e = .returned (.int .i64 (S.put a (t, n)).1) := by
  have hS := h
  obtain ⟨rv, wv, ls, h, ok, hwd, hr, hgs⟩ := h
  have hb0 : Below w.heap.size w (w.alloc (.cells #[.int .i64 t, .int .i64 n] 29)) := (Below.refl _ _).alloc (Nat.le_refl _) _
  have hcall := where_any (h.below hb0) ok a ha
  rcases where_cases ok a with ⟨i, j, hi, hj, rfl, ew, hloc⟩ | ⟨ew, hloc⟩
  · rw [ew] at hcall
    have hres : S.put (ls[i].base + j) (t, n) = if okV t n then (0, { S with regs := setAt S.regs i ((wordsAt S.regs i).set j (t, n)) }) else (21, S) := by
      unfold Sp.put
      rw [hr, hloc 1 (by omega)]
    have hln := (ok.lo _ (List.getElem_mem hi)).2.2.1
    have hn := ok.count
    cases hok : okV t n
    · rw [hok] at hres
      simp only [Bool.false_eq_true, if_false] at hres
      rw [hres]
      have HH := Hid.mk hS
      have HC := Hid.mk (chk_no hok)
      clear hS hok hres hloc ew hr hgs hwd ok
      go_enter Try.func51, Try.ntmps51
      go_wp2_with fail
      refine hcall.mono ?_
      rintro e w1 ⟨hb, rfl⟩
      obtain ⟨c0, c1, f0, hsz⟩ := box2 hb
      have hbb := hb0.trans (hb.mono hb0.size)
      clear hcall h
      go_wp2_with fail
      refine (check02_any t n _).mono ?_
      rintro e w2 ⟨rfl, hb2⟩
      have hb3 := hbb.trans (hb2.mono hbb.size)
      rw [HC.out]
      go_wp2_with fail
      go_ret
      exact ⟨RStp.of_below HH.out hb3, rfl⟩
    · rw [hok] at hres
      simp only [if_true] at hres
      rw [hres]
      have HC := Hid.mk (chk_ok hok)
      have HO := Hid.mk (okV_type hok)
      clear hS hok hres hloc ew
      go_enter Try.func51, Try.ntmps51
      go_wp2_with fail
      refine hcall.mono ?_
      rintro e w1 ⟨hb, rfl⟩
      obtain ⟨c0, c1, f0, hsz⟩ := box2 hb
      have hbb := hb0.trans (hb.mono hb0.size)
      clear hcall
      go_wp2_with fail
      refine (check02_any t n _).mono ?_
      rintro e w2 ⟨rfl, hb2⟩
      have hb3 := hbb.trans (hb2.mono hbb.size)
      rw [HC.out]
      have h3 := h.below hb3
      have d0 := (hb2.cell (p := ⟨w.heap.size, 0, none⟩) hsz).trans c0
      have d1 := (hb2.cell (p := ⟨w.heap.size, 1, none⟩) hsz).trans c1
      have x0 := h3.type hi hj
      have x1 := h3.num hi hj
      have g0 := row_free (h3.wrow hi)
      obtain ⟨ao, c, rfl, hc⟩ := h3.wshape
      obtain ⟨B, rfl, hB, hx⟩ := hc i hi
      have hz := h3.cell1
      have HA : Hid (∀ W, Kp [ls[i].wb] w2 W → W.ownsRow 0 29 2 (.slice (some ⟨ls[i].wb, 0, none⟩) ls[i].words.length ls[i].cap) ls[i].words.length (wcells (ls[i].words.set j (t, n))) →
          RStp w p gs { S with regs := setAt S.regs i ((wordsAt S.regs i).set j (t, n)) } W) := by
        intro W hk hrow
        have hws : wordsAt S.regs i = ls[i].words := by rw [hr]; exact wordsAt_map hi
        rw [hws]
        have h4 := h3.replace hi hk _ (by simp) hrow
        refine ⟨_, ⟨rv, _, _, h4, ok.replace hi _ (by simp), words_set hwd ?_, ?_, rfl⟩, ?_, ?_⟩
        · intro v hv
          rcases List.mem_or_eq_of_mem_set hv with q | q
          · exact hwd _ (List.getElem_mem hi) v q
          · subst q; exact .inr HO.out
        · simp only [hr]; exact setAt_map
        · rw [hgs]; exact (Kp.of_below hb3 _).trans hk (fun x hx => by simp only [List.mem_singleton] at hx; subst hx; left; simp [rfoot]; exact .inr (.inr (.inr ⟨_, List.getElem_mem hi, rfl⟩)))
        · intro b hb; left; rw [rfoot_setWords] at hb; rw [hgs]; exact hb
      have HW := Hid.mk (h3.wrow hi)
      clear hc h h3 hr hgs hwd ok
      go_wp2_with fail
      go_region
      all_goals
        go_wp2_with fail
        go_ret
        refine ⟨HA.out _ ?_ ?_, rfl⟩
        · exact (((Kp.refl _ _).drew).setCell (.inl (by simp)) _).setCell (.inl (by simp)) _
        · rw [wcells_set]
          exact ((HW.out.drew.stored (j * 2) _).1.stored (j * 2 + 1) _).1
  · rw [ew] at hcall
    have hres : S.put a (t, n) = (210, S) := by unfold Sp.put; rw [hr, hloc 1]
    rw [hres]
    have HH := Hid.mk hS
    clear hS hres hloc ew hr hgs hwd ok
    go_enter Try.func51, Try.ntmps51
    go_wp2_with fail
    refine hcall.mono ?_
    rintro e w1 ⟨hb, rfl⟩
    have hbb := hb0.trans (hb.mono hb0.size)
    clear hcall h
    go_wp2_with fail
    go_ret
    exact ⟨RStp.of_below HH.out hbb, rfl⟩
end
end Go.Proofs.Ytkooogllajmkeaa
/- The document's Drop. -/
namespace Go.Proofs.Ytkooogllajmkeaa
open Go.RowKit
theorem kp_cell {fs : List Nat} {w W : World} (k : Kp fs w W) {b j : Nat} (hb : b < w.heap.size) (hn : b ∉ fs) : W.cell? ⟨b, j, none⟩ = w.cell? ⟨b, j, none⟩ := World.cell?_of_block (k.block b hb hn)
theorem over_step {l : List (Int × Int)} {j q : Nat} (h : j + q < l.length) : over l j (List.replicate (q + 1) (0, 0)) = (over l j (List.replicate q (0, 0))).set (j + q) (0, 0) := by
  unfold over
  apply List.ext_getElem
  · simp; omega
  · intro i h1 h2
    rw [List.getElem_set]
    rcases Nat.lt_or_ge i j with c | c
    · rw [if_neg (by omega), List.getElem_append_left (by simp; omega), List.getElem_append_left (by simp; omega)]
    · rw [List.getElem_append_right (by simp; omega)]
      rcases Nat.lt_or_ge i (j + (q + 1)) with d | d
      · rw [List.getElem_append_left (by simp; omega)]
        by_cases e : j + q = i
        · rw [if_pos e]; simp
        · rw [if_neg e, List.getElem_append_right (by simp; omega), List.getElem_append_left (by simp; omega)]; simp
      · rw [if_neg (by omega), List.getElem_append_right (by simp; omega), List.getElem_append_right (by simp; omega), List.getElem_append_right (by simp; omega)]
        simp only [List.getElem_drop, List.length_replicate, List.length_take]
        congr 1
        omega
theorem over_zero (l : List (Int × Int)) (j : Nat) : over l j (List.replicate 0 (0, 0)) = l := by simp [over]
section
variable {w w' : World} {p : Nat} {last : Int} {rv wv : Value} {ls : List LReg}
/-- what the words' block, and the two above it, are good for -/
theorem RAt.apart (h : RAt w p last rv wv ls) {i : Nat} (hi : i < ls.length) : p ∉ [ls[i].wb] ∧ (∀ g, rv.ownBlock = some g → g ∉ [ls[i].wb]) ∧ ∀ g, wv.ownBlock = some g → g ∉ [ls[i].wb] := by
  have hnd := h.nodup
  have hin : ls[i].wb ∈ ls.map (·.wb) := List.mem_map.2 ⟨_, List.getElem_mem hi, rfl⟩
  have hd1 := List.nodup_append.1 (List.nodup_cons.1 hnd).2
  have hd2 := List.nodup_append.1 hd1.2.1
  refine ⟨?_, fun g hg e => ?_, fun g hg e => ?_⟩
  · simp only [List.mem_singleton]
    rintro e
    exact (List.nodup_cons.1 hnd).1 (List.mem_append.2 (.inr (List.mem_append.2 (.inr (e ▸ hin)))))
  · simp only [List.mem_singleton] at e
    exact hd1.2.2 g (by simp [hg]) _ (List.mem_append.2 (.inr hin)) e
  · simp only [List.mem_singleton] at e
    exact hd2.2.2 g (by simp [hg]) _ hin e
set_option maxRecDepth 100000 in
set_option maxHeartbeats 1000000 in
theorem rdrop_spc {S : Sp} {gs : List Nat} (h : RSpc w p S gs) (a m : Int) (ha : -9223372036854775808 ≤ a ∧ a ≤ 9223372036854775807) : Calls Try.prog 53 #[.pointer (some ⟨p, 0, none⟩), .int .i64 a, .int .i64 m] w fun e w' =>
    RStp w p gs (S.drop a m).2 w' ∧ e = .returned (.int .i64 (S.drop a m).1) := by
  have hS := h
  obtain ⟨rv, wv, ls, h, ok, hwd, hr, hgs⟩ := h
  have hhas := rhas_any h ok a m ha
  by_cases hm0 : m = 0
  · subst hm0
    have e1 : hasOf (ls.map LReg.reg) a 0 = true := by simp [hasOf]
    have e2 : S.drop a 0 = (0, S) := by unfold Sp.drop; rw [if_pos rfl]
    rw [e1] at hhas
    rw [e2]
    have HW := Hid.mk (fun (W : World) (hb : Below w.heap.size w W) => where_any (h.below hb) ok a ha)
    have HH := Hid.mk hS
    clear hS h ok hwd hr hgs e1 e2
    go_enter Try.func53, Try.ntmps53
    go_wp2_with fail
    refine hhas.mono ?_
    rintro e w1 ⟨hb1, rfl⟩
    go_wp2_with fail
    refine (HW.out w1 hb1).mono ?_
    rintro e w2 ⟨hb2, rfl⟩
    clear HW hhas
    go_wp2_with fail
    refine wp_loop_rounds 1 ?_; rw [rounds_succ]
    go_wp2_with fail
    go_ret
    exact ⟨RStp.of_below HH.out (hb1.trans (hb2.mono hb1.size)), rfl⟩
  · by_cases hh : 0 < m ∧ (locate (ls.map LReg.reg) a m).isSome = true
    · obtain ⟨hm1, hso⟩ := hh
      obtain ⟨⟨i, j⟩, hl⟩ := Option.isSome_iff_exists.1 hso
      have e1 : hasOf (ls.map LReg.reg) a m = true := by simp [hasOf, hm1, hl]
      rw [e1] at hhas
      obtain ⟨hi', h1, h2⟩ := locate_spec hl
      have hi : i < ls.length := by simpa using hi'
      obtain ⟨q1, q2, q3⟩ := hasB_iff.1 h1
      simp only [List.getElem_map, LReg.reg] at q1 q2 q3 h2
      have hj : j < ls[i].words.length := by omega
      have hjm : j + m.toNat ≤ ls[i].words.length := by omega
      have ew : whereOf (ls.map LReg.reg) a = ((i : Int), (j : Int)) := by
        have ea : ls[i].base + (j : Int) = a := by omega
        unfold whereOf
        rw [← ea, loc_at ok hi hj (m := 1) (by omega)]
      have e2 : S.drop a m = (0, { S with regs := setAt S.regs i (over (wordsAt S.regs i) j (List.replicate m.toNat (0, 0))) }) := by
        unfold Sp.drop
        rw [if_neg hm0, if_neg (by omega), hr, hl]
      rw [e2]
      have hln := (ok.lo _ (List.getElem_mem hi)).2.2.1
      have hn := ok.count
      obtain ⟨nm, hnm⟩ : ∃ nm : Nat, m = nm := ⟨m.toNat, by omega⟩
      have hnt : m.toNat = nm := by omega
      rw [hnt] at hjm ⊢
      have HW : Hid (∀ (W : World), Below w.heap.size w W → Calls Try.prog 57 #[.pointer (some ⟨p, 0, none⟩), .int .i64 a] W fun e w' => Below W.heap.size W w' ∧ e = .returned (.tuple #[.int .i64 i, .int .i64 j])) := by
        intro W hb
        have := where_any (h.below hb) ok a ha
        rw [ew] at this
        exact this
      subst hnm
      clear e1 e2 ew h1 h2 q1 q2 q3 hl hso hnt hS hi' hm0
      go_enter Try.func53, Try.ntmps53
      go_wp2_with fail
      refine hhas.mono ?_
      rintro e w1 ⟨hb1, rfl⟩
      go_wp2_with fail
      refine (HW.out w1 hb1).mono ?_
      rintro e w2 ⟨hb2, rfl⟩
      clear HW hhas
      have hb3 := hb1.trans (hb2.mono hb1.size)
      have h3 := h.below hb3
      have HA : Hid (∀ W, Kp [ls[i].wb] w2 W → W.ownsRow 0 29 2 (.slice (some ⟨ls[i].wb, 0, none⟩) ls[i].words.length ls[i].cap) ls[i].words.length (wcells (over ls[i].words j (List.replicate nm (0, 0)))) →
          RStp w p gs { S with regs := setAt S.regs i (over (wordsAt S.regs i) j (List.replicate nm (0, 0))) } W) := by
        intro W hk hrow
        have hws : wordsAt S.regs i = ls[i].words := by rw [hr]; exact wordsAt_map hi
        rw [hws]
        have hle : (over ls[i].words j (List.replicate nm (0, 0))).length = ls[i].words.length := over_len (by simp; omega)
        have h4 := h3.replace hi hk _ hle hrow
        refine ⟨_, ⟨rv, _, _, h4, ok.replace hi _ hle, words_set hwd ?_, ?_, rfl⟩, ?_, ?_⟩
        · intro v hv
          unfold over at hv
          rcases List.mem_append.1 hv with q | q
          · exact hwd _ (List.getElem_mem hi) v (List.mem_of_mem_take q)
          · rcases List.mem_append.1 q with q | q
            · exact .inl (List.eq_of_mem_replicate q)
            · exact hwd _ (List.getElem_mem hi) v (List.mem_of_mem_drop q)
        · simp only [hr]; exact setAt_map
        · rw [hgs]; exact (Kp.of_below hb3 _).trans hk (fun x hx => by simp only [List.mem_singleton] at hx; subst hx; left; simp [rfoot]; exact .inr (.inr (.inr ⟨_, List.getElem_mem hi, rfl⟩)))
        · intro b hb; left; rw [rfoot_setWords] at hb; rw [hgs]; exact hb
      have HR0 := h3.wrow hi
      obtain ⟨ap1, ap2, ap3⟩ := h3.apart hi
      have hpl : p < w2.heap.size := lt_of_heap h3.head
      have hz := h3.cell1
      obtain ⟨ao, c, rfl, hc⟩ := h3.wshape
      obtain ⟨B, rfl, hB, hx⟩ := hc i hi
      have apB : B ∉ [ls[i].wb] := ap3 B rfl
      obtain ⟨ws, hws⟩ : ∃ ws, ls[i].words = ws := ⟨_, rfl⟩
      obtain ⟨wb, hwb⟩ : ∃ wb, ls[i].wb = wb := ⟨_, rfl⟩
      obtain ⟨cp, hcp⟩ : ∃ cp, ls[i].cap = cp := ⟨_, rfl⟩
      rw [hws, hwb, hcp] at HR0 HA hx
      rw [hws] at hjm hln hj
      rw [hwb] at ap1 apB
      obtain ⟨nw, hnw⟩ : ∃ nw, ws.length = nw := ⟨_, rfl⟩
      have HNW := Hid.mk hnw
      rw [hnw] at HR0 HA hx hjm hln hj
      rw [← over_zero ws j] at HR0
      have HR00 := Hid.mk HR0
      clear hc h h3 hr hgs hwd ok hws hwb hcp hnw ap2 ap3 HR0
      go_wp2_with fail
      go_loopw [10] (fun x wr => ∃ q : Nat, x = .int .i64 q ∧ q ≤ nm ∧ Kp [wb] w2 wr ∧ Hid (wr.ownsRow 0 29 2 (.slice (some ⟨wb, 0, none⟩) nw cp) nw (wcells (over ws j (List.replicate q (0, 0)))))) (fun x _ => nm - (intOf x).toNat)
      case atStart => exact ⟨0, rfl, by omega, Kp.refl _ _, HR00⟩
      case round =>
        clear HR00
        obtain ⟨q, rfl, hq, hk, HRW⟩ := hrel
        by_cases hqn : q < nm
        · have c1 := (kp_cell hk (j := 1) hpl ap1).trans hz
          have cb := (kp_cell hk (j := i) hB apB).trans hx
          have hlen : (over ws j (List.replicate q (0, 0))).length = nw := (over_len (by have := HNW.out; simp; omega)).trans HNW.out
          have x0 := row_cell HRW.out (wcells_fst (l := over ws j (List.replicate q (0, 0))) (i := j + q) (by omega))
          have x1 := row_cell HRW.out (wcells_snd (l := over ws j (List.replicate q (0, 0))) (i := j + q) (by omega))
          have g0 := row_free HRW.out
          have HS1 := Hid.mk (over_step (l := ws) (j := j) (q := q) (by have := HNW.out; omega))
          obtain ⟨u0, hu0⟩ : ∃ u0, (over ws j (List.replicate q (0, 0)))[j + q] = u0 := ⟨_, rfl⟩
          rw [hu0] at x0 x1
          clear hu0 hlen
          go_wp2_with fail
          refine ⟨⟨q + 1, by go_num, by omega, (hk.setCell (.inl (by simp)) _).setCell (.inl (by simp)) _, ?_⟩, by simp [intOf]; omega⟩
          show World.ownsRow _ _ _ _ _ _ _
          rw [HS1.out, wcells_set]
          exact ((HRW.out.stored ((j + q) * 2) _).1.stored ((j + q) * 2 + 1) _).1
        · obtain rfl : q = nm := by omega
          have HE := Hid.mk (HA.out _ hk HRW.out)
          clear HA HRW hk
          go_wp2_with fail
          go_ret
          exact ⟨HE.out, rfl⟩
    · have e1 : hasOf (ls.map LReg.reg) a m = false := by
        by_cases hm1 : 0 < m
        · have : (locate (ls.map LReg.reg) a m).isSome = false := by simpa using fun q => hh ⟨hm1, q⟩
          simp [hasOf, hm0, this]
        · simp [hasOf, hm0, hm1]
      have e2 : S.drop a m = (210, S) := by
        unfold Sp.drop
        rw [if_neg hm0]
        by_cases hm1 : m < 0
        · rw [if_pos hm1]
        · rw [if_neg hm1, hr]
          cases hq : locate (ls.map LReg.reg) a m with
          | none => rfl
          | some x => exact absurd ⟨by omega, by rw [hq]; rfl⟩ hh
      rw [e1] at hhas
      rw [e2]
      have HH := Hid.mk hS
      clear hS h ok hwd hr hgs e1 e2 hh
      go_enter Try.func53, Try.ntmps53
      go_wp2_with fail
      refine hhas.mono ?_
      rintro e w1 ⟨hb1, rfl⟩
      go_wp2_with fail
      go_ret
      exact ⟨RStp.of_below HH.out hb1, rfl⟩
end
end Go.Proofs.Ytkooogllajmkeaa
/- The document's Run. -/
namespace Go.Proofs.Ytkooogllajmkeaa
open Go.RowKit
theorem seg_snoc {l : List (Int × Int)} {j q : Nat} (h : j + q < l.length) : seg l j (q + 1) = seg l j q ++ [l[j + q]] := by
  unfold seg
  rw [List.take_succ_eq_append_getElem (by simp; omega)]
  simp
theorem seg_nil (l : List (Int × Int)) (j : Nat) : seg l j 0 = [] := by simp [seg]
theorem row_rd {w : World} {base n : Nat} {v : Value} {xs : List (Int × Int)} (h : w.ownsRow base 29 2 v n (wcells xs)) (hn : n = xs.length) : Rd w v xs := Rd.of_row h hn
section
variable {w w' : World} {p : Nat} {last : Int} {rv wv : Value} {ls : List LReg}
set_option maxRecDepth 100000 in
set_option maxHeartbeats 2000000 in
theorem rrun_spc {S : Sp} {gs : List Nat} (h : RSpc w p S gs) (a m : Int) (ha : -9223372036854775808 ≤ a ∧ a ≤ 9223372036854775807) : Calls Try.prog 55 #[.pointer (some ⟨p, 0, none⟩), .int .i64 a, .int .i64 m] w fun e w' =>
    Below w.heap.size w w' ∧ ∃ v, e = .returned (.tuple #[v, .int .i64 (S.run a m).2]) ∧ Rd w' v ((S.run a m).1.getD []) := by
  obtain ⟨rv, wv, ls, h, ok, hwd, hr, hgs⟩ := h
  clear hgs
  have hhas := rhas_any h ok a m ha
  by_cases hm0 : m = 0
  · subst hm0
    have e1 : hasOf (ls.map LReg.reg) a 0 = true := by simp [hasOf]
    have e2 : S.run a 0 = (none, 0) := by unfold Sp.run; rw [if_pos rfl]
    rw [e1] at hhas
    rw [e2]
    clear h ok hwd hr e1 e2
    go_enter Try.func55, Try.ntmps55
    go_wp2_with fail
    refine hhas.mono ?_
    rintro e w1 ⟨hb1, rfl⟩
    go_wp2_with fail
    refine wp_loop_rounds 1 ?_; rw [rounds_succ]
    go_wp2_with fail
    go_ret2
    exact ⟨hb1, _, rfl, .inl ⟨rfl, rfl⟩⟩
  · by_cases hh : 0 < m ∧ (locate (ls.map LReg.reg) a m).isSome = true
    · obtain ⟨hm1, hso⟩ := hh
      obtain ⟨⟨i, j⟩, hl⟩ := Option.isSome_iff_exists.1 hso
      have e1 : hasOf (ls.map LReg.reg) a m = true := by simp [hasOf, hm1, hl]
      rw [e1] at hhas
      obtain ⟨hi', h1, h2⟩ := locate_spec hl
      have hi : i < ls.length := by simpa using hi'
      obtain ⟨q1, q2, q3⟩ := hasB_iff.1 h1
      simp only [List.getElem_map, LReg.reg] at q1 q2 q3 h2
      have hjm : j + m.toNat ≤ ls[i].words.length := by omega
      obtain ⟨nm, hnm⟩ : ∃ nm : Nat, m = nm := ⟨m.toNat, by omega⟩
      have hnt : m.toNat = nm := by omega
      rw [hnt] at hjm
      have e2 : S.run a m = if (0, 0) ∈ seg ls[i].words j nm then (none, 212) else (some (seg ls[i].words j nm), 0) := by
        unfold Sp.run
        rw [if_neg hm0, if_neg (by omega), hr, hl]
        simp only [wordsAt_map hi, hnt]
      have hln := (ok.lo _ (List.getElem_mem hi)).2.2.1
      have hlb := (ok.lo _ (List.getElem_mem hi)).2.2.2
      have hl1 := ok.last1
      have hbs := (ok.lo _ (List.getElem_mem hi)).1
      have ea : a = ls[i].base + (j : Int) := by omega
      have HG : Hid (∀ (W : World) (q : Nat), Below w.heap.size w W → q < nm → ∃ x : Int × Int, ls[i].words[j + q]? = some x ∧ Calls Try.prog 52 #[.pointer (some ⟨p, 0, none⟩), .int .i64 (a + q)] W fun e w' =>
          Below W.heap.size W w' ∧ e = .returned (.tuple (if x = (0, 0) then #[.agg #[.int .i64 0, .int .i64 0], .int .i64 212] else #[.agg #[.int .i64 x.1, .int .i64 x.2], .int .i64 0]))) := by
        intro W q hb hq
        have hx : j + q < ls[i].words.length := by omega
        refine ⟨ls[i].words[j + q], by simp [hx], ?_⟩
        have hc := rget_any (h.below hb) ok hwd (a + q) ⟨by omega, by omega⟩
        have hg : Sp.get ⟨ls.map LReg.reg, S.last⟩ (a + q) = if ls[i].words[j + q] = (0, 0) then ((0, 0), 212) else (ls[i].words[j + q], 0) := by
          have e9 : a + (q : Int) = ls[i].base + ((j + q : Nat) : Int) := by omega
          unfold Sp.get
          rw [e9, loc_at ok hi hx (m := 1) (by omega)]
          simp only [wordAt_map hi hx]
        rw [hg] at hc
        refine hc.mono ?_
        rintro e w' ⟨hb', rfl⟩
        refine ⟨hb', ?_⟩
        by_cases hz : ls[i].words[j + q] = (0, 0)
        · rw [if_pos hz, if_pos hz]
        · rw [if_neg hz, if_neg hz]
      have hin : a + (nm : Int) ≤ 4611686018427387904 := by omega
      obtain ⟨ws, hws⟩ : ∃ ws, ls[i].words = ws := ⟨_, rfl⟩
      rw [hws] at HG e2 hjm hln
      have HE := Hid.mk e2
      subst hnm
      clear e1 e2 h1 h2 q1 q2 q3 hl hso hnt hi' hm0 h ok hwd hr hws ea
      obtain ⟨i0, hi0, hz0, hz1, hz2⟩ := info_parts infoV
      go_enter Try.func55, Try.ntmps55
      go_wp2_with fail
      refine hhas.mono ?_
      rintro e w1 ⟨hb1, rfl⟩
      clear hhas
      go_wp2_with fail
      go_loopw [10, 9] (fun x v wr => ∃ q : Nat, x = .int .i64 q ∧ q ≤ nm ∧ Below w.heap.size w wr ∧ Hid (wr.ownsRow w.heap.size 29 2 v q (wcells (seg ws j q)) ∧ ∀ y ∈ seg ws j q, y ≠ (0, 0))) (fun x _ _ => nm - (intOf x).toNat)
      case atStart => exact ⟨0, rfl, by omega, hb1, by rw [seg_nil]; exact ⟨World.ownsRow_nil _ _ _ _, by simp⟩⟩
      case round =>
        clear hb1
        obtain ⟨q, rfl, hq, hbw, HR⟩ := hrel
        rename_i v _ _
        by_cases hqn : q < nm
        · obtain ⟨x, hx, hget⟩ := HG.out wr q hbw hqn
          have hjq : j + q < ws.length := by omega
          have hxx : ws[j + q] = x := by rw [List.getElem?_eq_getElem hjq] at hx; exact Option.some.inj hx
          have HSN := Hid.mk (seg_snoc hjq)
          rw [hxx] at HSN
          by_cases hz : x = (0, 0)
          · rw [if_pos hz] at hget
            have HM : Hid ((0, 0) ∈ seg ws j nm) := by
              rw [← hz, ← hxx]
              show _ ∈ _
              unfold seg
              rw [List.mem_iff_getElem]
              exact ⟨q, by simp; omega, by simp⟩
            clear hx hxx HSN hz
            go_wp2_with fail
            refine hget.mono ?_
            rintro e w3 ⟨hb3, rfl⟩
            have hb4 := hbw.trans (hb3.mono hbw.size)
            clear hget HR
            go_wp2_with fail
            go_ret2
            rw [HE.out, if_pos HM.out]
            exact ⟨hb4.alloc hb4.size _, _, rfl, .inl ⟨rfl, rfl⟩⟩
          · rw [if_neg hz] at hget
            have HZ := Hid.mk hz
            clear hx hxx hz
            go_wp2_with fail
            refine hget.mono ?_
            rintro e w3 ⟨hb3, rfl⟩
            have hb4 := hbw.trans (hb3.mono hbw.size)
            have hrow := (Kp.of_below hb3 []).row HR.out.1 (by simp)
            have HN := Hid.mk HR.out.2
            clear hget HR
            go_wp2_with (at_builtin; refine wpList_append_own _ rfl _ _ 62 rfl w.heap.size 29 i0 (.agg #[.int .i64 0, .int .i64 0]) 2 16 Try.underlying62 hi0 hz0 hz1 hz2 rfl (by decide) _ _ _ rfl ((hrow.alloc _).alloc _) _ 1 1 [.int .i64 x.1, .int .i64 x.2] rfl rfl ?c2 ?c3 ?c4 ?c5 ?c6 ?_)
            case c2 =>
              intro j u hu
              have := two_new (w3.alloc (.cells #[.int .i64 x.1, .int .i64 x.2] 29)) (.int .i64 x.1) (.int .i64 x.2) 29 j u hu
              simpa using this
            case c3 => intro u hu; simp only [List.mem_cons, List.not_mem_nil, or_false] at hu; obtain rfl | rfl := hu <;> rfl
            case c4 => unfold maxLen; omega
            case c5 => omega
            case c6 => have := hb4.size; simp; omega
            intro v' w9 hown' hgrow hnn
            have hb9 : Below w.heap.size w w9 := by
              have s1 := hb4.size
              have hb5 := (hb4.alloc s1 (.cells #[.int .i64 x.1, .int .i64 x.2] 29)).alloc (by simp; omega) (.cells #[.int .i64 x.1, .int .i64 x.2] 29)
              exact hb5.grown hgrow (by simp; omega) (fun k hk => (hrow.lt k hk).1)
            have HR9 : Hid (w9.ownsRow w.heap.size 29 2 v' (q + 1) (wcells (seg ws j (q + 1))) ∧ ∀ y ∈ seg ws j (q + 1), y ≠ (0, 0)) := by
              show _ ∧ _
              rw [HSN.out]
              refine ⟨by rw [wcells_app]; simpa [wcells, wcell] using hown', fun y hy => ?_⟩
              rcases List.mem_append.1 hy with c | c
              · exact HN.out y c
              · simp only [List.mem_singleton] at c
                subst c
                exact HZ.out
            clear hown' hgrow hrow HN hnn
            go_wp2_with fail
            exact ⟨⟨q + 1, by go_num, by omega, hb9, HR9⟩, by simp [intOf]; omega⟩
        · obtain rfl : q = nm := by omega
          have HR2 := Hid.mk (row_rd HR.out.1 (by simp [seg]; omega))
          have HN := HR.out.2
          have HM : Hid (¬ (0, 0) ∈ seg ws j q) := fun hq => HN _ hq rfl
          clear HR HG HN
          go_wp2_with fail
          go_ret2
          rw [HE.out, if_neg HM.out]
          exact ⟨hbw, _, rfl, HR2.out⟩
    · have e1 : hasOf (ls.map LReg.reg) a m = false := by
        by_cases hm1 : 0 < m
        · have : (locate (ls.map LReg.reg) a m).isSome = false := by simpa using fun q => hh ⟨hm1, q⟩
          simp [hasOf, hm0, this]
        · simp [hasOf, hm0, hm1]
      have e2 : S.run a m = (none, 210) := by
        unfold Sp.run
        rw [if_neg hm0]
        by_cases hm1 : m < 0
        · rw [if_pos hm1]
        · rw [if_neg hm1, hr]
          cases hq : locate (ls.map LReg.reg) a m with
          | none => rfl
          | some x => exact absurd ⟨by omega, by rw [hq]; rfl⟩ hh
      rw [e1] at hhas
      rw [e2]
      clear h ok hwd hr e1 e2 hh
      go_enter Try.func55, Try.ntmps55
      go_wp2_with fail
      refine hhas.mono ?_
      rintro e w1 ⟨hb1, rfl⟩
      go_wp2_with fail
      go_ret2
      exact ⟨hb1, _, rfl, .inl ⟨rfl, rfl⟩⟩
end
end Go.Proofs.Ytkooogllajmkeaa
