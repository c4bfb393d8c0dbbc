/- How the document's space lies in memory, and its functions that only read. -/
import Derived.Test.YtkooogllajmkeaaFu
import Derived.LoopTactic
import Derived.Deep.QuietTactic
import Derived.BigQuiet
namespace Go.Proofs.Ytkooogllajmkeaa
open Go.RowKit

def LReg.sl (r : LReg) : Value := .slice (some ⟨r.wb, 0, none⟩) r.words.length r.cap
def rfoot (p : Nat) (rv wv : Value) (ls : List LReg) : List Nat := p :: (rv.ownBlock.toList ++ (wv.ownBlock.toList ++ ls.map (·.wb)))
/-- the document's space at block p -/
structure RAt (w : World) (p : Nat) (last : Int) (rv wv : Value) (ls : List LReg) : Prop where
  head : w.heap[p]? = some (.cells #[rv, wv, .int .i64 last] 56 (0, 0))
  row : w.ownsRow 0 39 2 rv ls.length (gcells ls)
  tab : w.ownsRow 0 62 1 wv ls.length (ls.map LReg.sl)
  words : ∀ r ∈ ls, w.ownsRow 0 29 2 r.sl r.words.length (wcells r.words)
  nodup : (rfoot p rv wv ls).Nodup
theorem gcells_fst {l : List LReg} {i : Nat} (h : i < l.length) : (gcells l)[i * 2]? = some (.int .i64 l[i].base) := by
  have := flat2_get gcell (fun _ => rfl) l i 0 (by omega); simpa [gcells, gcell, h] using this
theorem gcells_snd {l : List LReg} {i : Nat} (h : i < l.length) : (gcells l)[i * 2 + 1]? = some (.int .i64 l[i].words.length) := by
  have := flat2_get gcell (fun _ => rfl) l i 1 (by omega); simpa [gcells, gcell, h] using this
theorem RAt.lt {w : World} {p : Nat} {last : Int} {rv wv : Value} {ls : List LReg} (h : RAt w p last rv wv ls) : ∀ b ∈ rfoot p rv wv ls, b < w.heap.size := by
  intro b hb
  simp only [rfoot, List.mem_cons, List.mem_append, Option.mem_toList, List.mem_map] at hb
  rcases hb with rfl | hb | hb | ⟨r, hr, rfl⟩
  · exact lt_of_heap h.head
  · exact (h.row.lt b hb).2
  · exact (h.tab.lt b hb).2
  · exact ((h.words r hr).lt r.wb rfl).2
theorem RAt.kp {w w' : World} {p : Nat} {last : Int} {rv wv : Value} {ls : List LReg} {fs : List Nat} (h : RAt w p last rv wv ls) (k : Kp fs w w') (hd : ∀ b ∈ rfoot p rv wv ls, b ∉ fs) : RAt w' p last rv wv ls := by
  refine ⟨k.at h.head (hd p (by simp [rfoot])), k.row h.row (fun g hg => hd g ?_), k.row h.tab (fun g hg => hd g ?_), fun r hr => k.row (h.words r hr) (fun g hg => ?_), h.nodup⟩
  · simp [rfoot, hg]
  · simp [rfoot, hg]
  · simp [Value.ownBlock, LReg.sl] at hg; subst hg
    exact hd _ (by simp [rfoot]; exact .inr (.inr (.inr ⟨r, hr, rfl⟩)))
theorem RAt.below {w w' : World} {p : Nat} {last : Int} {rv wv : Value} {ls : List LReg} (h : RAt w p last rv wv ls) (k : Below w.heap.size w w') : RAt w' p last rv wv ls := h.kp (Kp.of_below k []) (by simp)
section
variable {w : World} {p : Nat} {last : Int} {rv wv : Value} {ls : List LReg}
theorem RAt.cell0 (h : RAt w p last rv wv ls) : w.cell? ⟨p, 0, none⟩ = some rv := by rw [cell_of_row w p 0 _ _ _ h.head]; rfl
theorem RAt.cell1 (h : RAt w p last rv wv ls) : w.cell? ⟨p, 1, none⟩ = some wv := by rw [cell_of_row w p 1 _ _ _ h.head]; rfl
theorem RAt.cell2 (h : RAt w p last rv wv ls) : w.cell? ⟨p, 2, none⟩ = some (.int .i64 last) := by rw [cell_of_row w p 2 _ _ _ h.head]; rfl
theorem RAt.shape (h : RAt w p last rv wv ls) : ∃ ao c, rv = .slice ao ls.length c ∧ ∀ i (hi : i < ls.length), ∃ B, ao = some ⟨B, 0, none⟩ ∧ B < w.heap.size ∧ w.cell? ⟨B, i * 2, none⟩ = some (.int .i64 ls[i].base) ∧ w.cell? ⟨B, i * 2 + 1, none⟩ = some (.int .i64 ls[i].words.length) := by
  have hr := h.row
  rcases h.row.2 with ⟨rfl, h0⟩ | ⟨B, cap, cur, rfl, _, hg, hc, _⟩
  · exact ⟨none, 0, by rw [h0], fun i hi => by omega⟩
  · exact ⟨_, _, rfl, fun i hi => ⟨B, rfl, lt_of_heap hg, row_cell hr (gcells_fst hi), row_cell hr (gcells_snd hi)⟩⟩
theorem tab_get {i : Nat} (hi : i < ls.length) : (ls.map LReg.sl)[i]? = some ls[i].sl := by simp [hi]
theorem RAt.wshape (h : RAt w p last rv wv ls) : ∃ ao c, wv = .slice ao ls.length c ∧ ∀ i (hi : i < ls.length), ∃ B, ao = some ⟨B, 0, none⟩ ∧ B < w.heap.size ∧ w.cell? ⟨B, i, none⟩ = some (.slice (some ⟨ls[i].wb, 0, none⟩) ls[i].words.length ls[i].cap) := by
  have hr := h.tab
  rcases h.tab.2 with ⟨rfl, h0⟩ | ⟨B, cap, cur, rfl, _, hg, hc, _⟩
  · exact ⟨none, 0, by rw [h0], fun i hi => by omega⟩
  · exact ⟨_, _, rfl, fun i hi => ⟨B, rfl, lt_of_heap hg, row_cell hr (tab_get hi)⟩⟩
theorem RAt.type (h : RAt w p last rv wv ls) {i : Nat} (hi : i < ls.length) {k : Nat} (hk : k < ls[i].words.length) : w.cell? ⟨ls[i].wb, k * 2, none⟩ = some (.int .i64 ls[i].words[k].1) := row_cell (h.words _ (List.getElem_mem hi)) (wcells_fst hk)
theorem RAt.num (h : RAt w p last rv wv ls) {i : Nat} (hi : i < ls.length) {k : Nat} (hk : k < ls[i].words.length) : w.cell? ⟨ls[i].wb, k * 2 + 1, none⟩ = some (.int .i64 ls[i].words[k].2) := row_cell (h.words _ (List.getElem_mem hi)) (wcells_snd hk)

def whereOf (rs : List Reg) (a : Int) : Int × Int :=
  match locate rs a 1 with
  | some (i, j) => (i, j)
  | none => (-1, 0)
set_option maxRecDepth 100000 in
set_option maxHeartbeats 1000000 in
theorem where_any (h : RAt w p last rv wv ls) (ok : RegsOk last ls) (a : Int) (ha : -9223372036854775808 ≤ a ∧ a ≤ 9223372036854775807) : Calls Try.prog 57 #[.pointer (some ⟨p, 0, none⟩), .int .i64 a] w fun e w' =>
    Below w.heap.size w w' ∧ e = .returned (.tuple #[.int .i64 (whereOf (ls.map LReg.reg) a).1, .int .i64 (whereOf (ls.map LReg.reg) a).2]) := by
  obtain ⟨ao, c, rfl, hc⟩ := h.shape
  have hcell := h.cell0
  have hpl : p < w.heap.size := lt_of_heap h.head
  have hcn := ok.count
  have HN : Hid (∀ rs, rs = ls.map LReg.reg → (∀ i (hi : i < ls.length), hasB ls[i].base ls[i].words.length a 1 = false) → whereOf rs a = (-1, 0)) := by
    rintro _ rfl hno
    unfold whereOf
    rw [loc_none hno]
  have HS : Hid (∀ i (hi : i < ls.length), hasB ls[i].base ls[i].words.length a 1 = true → whereOf (ls.map LReg.reg) a = ((i : Int), a - ls[i].base)) := by
    intro i hi hh
    unfold whereOf
    rw [loc_some ok hi hh]
    obtain ⟨q1, q2, q3⟩ := hasB_iff.1 hh
    simp only [Prod.mk.injEq, true_and]
    omega
  have HL : Hid (∀ i (hi : i < ls.length), 1 ≤ ls[i].base ∧ ls[i].base + (ls[i].words.length : Int) ≤ 4611686018427387904) := fun i hi => ⟨(ok.lo _ (List.getElem_mem hi)).1, by have := (ok.lo _ (List.getElem_mem hi)).2.2.2; have := ok.last1; omega⟩
  obtain ⟨wo, hwo⟩ : ∃ wo, whereOf (ls.map LReg.reg) a = wo := ⟨_, rfl⟩
  have HN2 : Hid ((∀ i (hi : i < ls.length), hasB ls[i].base ls[i].words.length a 1 = false) → wo = (-1, 0)) := by rw [← hwo]; exact HN.out _ rfl
  rw [hwo] at HS ⊢
  clear HN hwo h ok
  obtain ⟨n, hn⟩ : ∃ n, ls.length = n := ⟨_, rfl⟩
  have HC := Hid.mk hc
  have HNL := Hid.mk hn
  rw [hn] at hcell hcn
  clear hc hn
  go_enter Try.func57, Try.ntmps57
  go_wp2
  go_loopw [6] (fun i wr => ∃ k : Nat, i = .int .i64 k ∧ k ≤ n ∧ Hid (∀ j (hj : j < ls.length), j < k → hasB ls[j].base ls[j].words.length a 1 = false) ∧ Below w.heap.size w wr) (fun i _ => n - (intOf i).toNat)
  case atStart => exact ⟨0, rfl, by omega, fun _ _ q => absurd q (by omega), Below.refl _ _⟩
  case round =>
    obtain ⟨k, rfl, hk, HB, hbw⟩ := hrel
    have c0 := (hbw.cell (p := ⟨p, 0, none⟩) hpl).trans hcell
    by_cases hlt : k < n
    · have h1 : k < ls.length := by rw [HNL.out]; exact hlt
      obtain ⟨B, rfl, hB, b0, b1⟩ := HC.out k h1
      have d0 := (hbw.cell (p := ⟨B, k * 2, none⟩) hB).trans b0
      have d1 := (hbw.cell (p := ⟨B, k * 2 + 1, none⟩) hB).trans b1
      have hs := HS.out k h1
      obtain ⟨l1, l2⟩ := HL.out k h1
      have HB1 : Hid (hasB ls[k].base ls[k].words.length a 1 = false → ∀ j (hj : j < ls.length), j < k + 1 → hasB ls[j].base ls[j].words.length a 1 = false) := by
        intro hq j hj hjk
        rcases Nat.lt_or_ge j k with q | q
        · exact HB.out j hj q
        · obtain rfl : j = k := by omega
          exact hq
      clear b0 b1
      obtain ⟨x1, hx1⟩ : ∃ x1, ls[k].base = x1 := ⟨_, rfl⟩
      obtain ⟨x2, hx2⟩ : ∃ x2, ls[k].words.length = x2 := ⟨_, rfl⟩
      rw [hx1, hx2] at hs HB1 l2
      rw [hx1] at d0 l1
      rw [hx2] at d1
      clear hx1 hx2 HB h1
      by_cases hq1 : x1 ≤ a
      · have z1 : decide (a ≥ x1) = true := by simp; omega
        have w1 : IntKind.i64.wrap (a - x1) = a - x1 := by rw [IntKind.wrap_i64]; omega
        by_cases hq2 : a - x1 < x2
        · have z2 : decide (a - x1 < (x2 : Int)) = true := by simp; omega
          have hres := Hid.mk (hs (hasB_iff.2 ⟨hq1, by omega, by omega⟩))
          clear hs HB1 hq2 hq1
          go_wp2
          go_quiet (fail)
          go_wp2
          go_quiet (fail)
          go_wp2
          go_ret2
          exact ⟨below_drewN (below_drewN hbw _) _, by rw [hres.out]; rfl⟩
        · have z2 : decide (a - x1 < (x2 : Int)) = false := by simp; omega
          have hno := Hid.mk (HB1.out (hasB_no (by omega)))
          clear hs HB1 hq2 hq1
          go_wp2
          go_quiet (fail)
          go_wp2
          exact ⟨⟨k + 1, by go_num, by omega, hno, below_drewN hbw _⟩, by simp [intOf]; omega⟩
      · have z1 : decide (a ≥ x1) = false := by simp; omega
        have hno := Hid.mk (HB1.out (hasB_no (by omega)))
        clear hs HB1 hq1
        go_wp2
        go_quiet (fail)
        go_wp2
        exact ⟨⟨k + 1, by go_num, by omega, hno, below_drewN hbw _⟩, by simp [intOf]; omega⟩
    · obtain rfl : k = n := by omega
      have hres := Hid.mk (HN2.out (fun i hi => HB.out i hi (by have := HNL.out; omega)))
      clear HB HS HL HC
      go_wp2
      go_ret2
      exact ⟨hbw, by rw [hres.out]; rfl⟩
end
end Go.Proofs.Ytkooogllajmkeaa
