/- Parts Hj Hk Hl Hm, put together. -/
import Derived.Test.YtkooogllajmkeaaMo18
/- A play's step (24): Push. -/
namespace Go.Proofs.Ytkooogllajmkeaa
open Go.RowKit
set_option pp.deepTerms true
attribute [local go_sem ↓] Go.wp_at_zero Go.wp_at_succ
/-- a play's memory: a space and a link, and the document's -/
def StP (w : World) (x p b pr q : Nat) (sz ca : Int) (S : Sp) (L : Lk) (W : World) : Prop := Sep w [spA p S, lkA b p sz ca L, rsA pr S, qlA q pr sz ca L, bx x (pl24 p b pr q)] W
/-- what a step leaves -/
def DoP (w : World) (x : Nat) (sz ca : Int) (k : Nat) (e : Ending) (w' : World) : Prop := e = .returned (.bool true) ∧ ∃ p b pr q S L, StP w x p b pr q sz ca S L w' ∧ PInv S L k
/-- a box with a pair, beside other parts -/
def BoxR (w : World) (T : TypeId) (y1 y2 er : Int) (l : List Asr) (r e : Value) (W : World) : Prop := ∃ B, r = .pointer (some ⟨B, 0, none⟩) ∧ e = .int .i64 er ∧ Sep w (bx B (.cells #[.int .i64 y1, .int .i64 y2] T) :: l) W
theorem qpush_sep {w W : World} {F : List Asr} {q pr : Nat} {R : Sp} {L : Lk} {sz ca : Int} (h : Sep w (rsA pr R :: qlA q pr sz ca L :: F) W) (m : Int) (hs : 1 ≤ sz ∧ sz ≤ 65536) (hll : L.live.length ≤ 1000000) (hkl : L.kept.length ≤ 1000000) (hla : R.last ≤ 1152921504606846976) :
    Calls Try.prog 69 #[.pointer (some ⟨q, 0, none⟩), .int .i64 m] W (QPush w q pr sz ca m R L F) := by
  by_cases hm : m < 1 ∨ 65536 < m
  · refine (qpush_no (h.pick 1 rfl) m hm).mono ?_
    rintro e w' ⟨h1, rfl⟩
    have hp : pushL R L sz m = (((0, 0), 240), R, L) := by unfold pushL; rw [if_pos hm]
    unfold QPush
    rw [hp]
    exact ⟨h1.pick 1 rfl, rfl⟩
  · exact qpush_ok h m (by omega) hs hll hkl hla
set_option maxRecDepth 100000 in
set_option maxHeartbeats 4000000 in
theorem do24_k0 {w W : World} {x p b pr q k : Nat} {sz ca N : Int} {S : Sp} {L : Lk} (h : StP w x p b pr q sz ca S L W) (hI : PInv S L k) (hk : k ≤ 1000) (hs : 1 ≤ sz ∧ sz ≤ 65536) :
    Calls Try.prog 36 #[.pointer (some ⟨x, 0, none⟩), .agg #[.int .i64 0, .int .i64 N]] W (DoP w x sz ca (k + 1)) := by
  have hll : L.live.length ≤ 1000000 := by have := hI.few; omega
  have hkl : L.kept.length ≤ 1000000 := by have := hI.few; omega
  have hla : S.last ≤ 1152921504606846976 := by have := hI.last; omega
  have HI := Hid.mk (hI.push (sz := sz) N)
  have hA := h.alloc (.cells #[.int .i64 0, .int .i64 N] 80)
  have g0 := hA.cell (b := W.heap.size) (j := 0) (List.Mem.head _) rfl
  have z0 : ((0 : Int) == 0) = true := rfl
  obtain ⟨Y, hY⟩ : ∃ Y, W.alloc (.cells #[.int .i64 0, .int .i64 N] 80) = Y := ⟨_, rfl⟩
  obtain ⟨Bo, hBo⟩ : ∃ Bo, W.heap.size = Bo := ⟨_, rfl⟩
  have HYB := Hid.mk (And.intro hY hBo)
  rw [hY, hBo] at hA g0
  have HA := Hid.mk hA
  have HK : Hid (L.live.length ≤ 1000000 ∧ L.kept.length ≤ 1000000 ∧ S.last ≤ 1152921504606846976) := ⟨hll, hkl, hla⟩
  clear hA h hY hBo hI hll hkl hla
  go_enter Try.func36, Try.ntmps36
  go_upto_region 1 with (fail)
  rw [HYB.out.1, HYB.out.2]
  go_upto_region 3 with (fail)
  go_cut [5, 6] (fun r e W' => Hid (BoxR w 39 (pushL S L sz N).1.1.1 (pushL S L sz N).1.1.2 (pushL S L sz N).1.2 [spA p (pushL S L sz N).2.1, lkA b p sz ca (pushL S L sz N).2.2, bx Bo (.cells #[.int .i64 0, .int .i64 N] 80), rsA pr S, qlA q pr sz ca L, bx x (pl24 p b pr q)] r e W'))
  case first =>
    have b0 := ((((((((HA.out.alloc (.cells #[.int .i64 0, .int .i64 0] 39)).drew.pick 6 rfl).pick 6 rfl).pick 6 rfl).pick 4 rfl).pick 4 rfl).pick 6 rfl).pick 6 rfl)
    have c0 := ((((((HA.out.drew.pick 5 rfl).pick 5 rfl).pick 5 rfl).pick 3 rfl).pick 5 rfl).pick 5 rfl)
    have k0 := HA.out.cell (b := x) (j := 1) (List.Mem.tail _ (List.Mem.tail _ (List.Mem.tail _ (List.Mem.tail _ (List.Mem.tail _ (List.Mem.head _)))))) rfl
    have k1 := HA.out.cell (b := Bo) (j := 1) (List.Mem.head _) rfl
    have hl0 := HA.out.lt (b := x) (List.Mem.tail _ (List.Mem.tail _ (List.Mem.tail _ (List.Mem.tail _ (List.Mem.tail _ (List.Mem.head _))))))
    have hl1 := HA.out.lt (b := Bo) (List.Mem.head _)
    have hq0 : (⟨Y.heap.size, 0, none⟩ : Addr).block ≠ (⟨x, 1, none⟩ : Addr).block := by simp; omega
    have hq1 : (⟨Y.heap.size, 0, none⟩ : Addr).block ≠ (⟨Bo, 1, none⟩ : Addr).block := by simp; omega
    clear hl0 hl1
    go_region_held3 (fun W' => W'.cell? ⟨x, 1, none⟩ = some (.pointer (some ⟨b, 0, none⟩)) ∧ W'.cell? ⟨Bo, 1, none⟩ = some (.int .i64 N)) (first | exact ⟨set_far (set_far f0 hq0) hq0, set_far (set_far f1 hq1) hq1⟩ | exact ⟨alloc_cell f0, alloc_cell f1⟩ | exact ⟨f0, f1⟩ | exact ⟨k0, k1⟩ | exact ⟨alloc_cell k0, alloc_cell k1⟩) (first | (go_at_call 31; refine (push_sep (w := w) (F := [bx Y.heap.size (.cells #[.int .i64 0, .int .i64 0] 39), bx Bo (.cells #[.int .i64 0, .int .i64 N] 80), rsA pr S, qlA q pr sz ca L, bx x (pl24 p b pr q)]) b0 N HK.out.1 HK.out.2.1 HK.out.2.2).mono ?_; rintro e wx ⟨hx, rfl⟩; have f0 := hx.cell (b := x) (j := 1) (List.Mem.tail _ (List.Mem.tail _ (List.Mem.tail _ (List.Mem.tail _ (List.Mem.tail _ (List.Mem.tail _ (List.Mem.head _))))))) rfl; have f1 := hx.cell (b := Bo) (j := 1) (List.Mem.tail _ (List.Mem.tail _ (List.Mem.tail _ (List.Mem.head _)))) rfl; have z0 := hx.cell (b := Y.heap.size) (j := 0) (List.Mem.tail _ (List.Mem.tail _ (List.Mem.head _))) rfl; have z1 := hx.cell (b := Y.heap.size) (j := 1) (List.Mem.tail _ (List.Mem.tail _ (List.Mem.head _))) rfl; have z2 := hx.free (b := Y.heap.size) (List.Mem.tail _ (List.Mem.tail _ (List.Mem.head _))) 0; have z3 := hx.free (b := Y.heap.size) (List.Mem.tail _ (List.Mem.tail _ (List.Mem.head _))) 1; have HG : Hid (BoxR w 39 (pushL S L sz N).1.1.1 (pushL S L sz N).1.1.2 (pushL S L sz N).1.2 [spA p (pushL S L sz N).2.1, lkA b p sz ca (pushL S L sz N).2.2, bx Bo (.cells #[.int .i64 0, .int .i64 N] 80), rsA pr S, qlA q pr sz ca L, bx x (pl24 p b pr q)] (.pointer (some ⟨Y.heap.size, 0, none⟩)) (.int .i64 (pushL S L sz N).1.2) _) := ⟨_, rfl, rfl, ((hx.pick 2 rfl).store 0 (.int .i64 (pushL S L sz N).1.1.1)).store 1 (.int .i64 (pushL S L sz N).1.1.2)⟩) | (go_at_call 31; refine (push_sep (w := w) (F := [bx Bo (.cells #[.int .i64 0, .int .i64 N] 80), rsA pr S, qlA q pr sz ca L, bx x (pl24 p b pr q)]) c0 N HK.out.1 HK.out.2.1 HK.out.2.2).mono ?_; rintro e wx ⟨hx, rfl⟩; have f0 := hx.cell (b := x) (j := 1) (List.Mem.tail _ (List.Mem.tail _ (List.Mem.tail _ (List.Mem.tail _ (List.Mem.tail _ (List.Mem.head _)))))) rfl; have f1 := hx.cell (b := Bo) (j := 1) (List.Mem.tail _ (List.Mem.tail _ (List.Mem.head _))) rfl; have HG : Hid (BoxR w 39 (pushL S L sz N).1.1.1 (pushL S L sz N).1.1.2 (pushL S L sz N).1.2 [spA p (pushL S L sz N).2.1, lkA b p sz ca (pushL S L sz N).2.2, bx Bo (.cells #[.int .i64 0, .int .i64 N] 80), rsA pr S, qlA q pr sz ca L, bx x (pl24 p b pr q)] (.pointer (some ⟨wx.heap.size, 0, none⟩)) (.int .i64 (pushL S L sz N).1.2) _) := ⟨_, rfl, rfl, hx.alloc _⟩))
    all_goals
      go_wp2_with fail
      go_meet
      case rel => exact HG.out
  case rest =>
    obtain ⟨B5, rfl, rfl, h5⟩ := hcut.out
    have H5 := Hid.mk h5
    clear hcut h5 HA g0
    go_upto_region 4 with (fail)
    go_cut [7, 8] (fun r e W' => Hid (BoxR w 39 (pushL S L sz N).1.1.1 (pushL S L sz N).1.1.2 (pushL S L sz N).1.2 [rsA pr (pushL S L sz N).2.1, qlA q pr sz ca (pushL S L sz N).2.2, bx B5 (.cells #[.int .i64 (pushL S L sz N).1.1.1, .int .i64 (pushL S L sz N).1.1.2] 39), spA p (pushL S L sz N).2.1, lkA b p sz ca (pushL S L sz N).2.2, bx Bo (.cells #[.int .i64 0, .int .i64 N] 80), bx x (pl24 p b pr q)] r e W'))
    case first =>
      have b0 := (((((((((H5.out.alloc (.cells #[.int .i64 0, .int .i64 0] 39)).drew.pick 7 rfl).pick 5 rfl).pick 5 rfl).pick 5 rfl).pick 5 rfl).pick 5 rfl).pick 7 rfl).pick 7 rfl)
      have c0 := (((((((H5.out.drew.pick 6 rfl).pick 4 rfl).pick 4 rfl).pick 4 rfl).pick 4 rfl).pick 6 rfl).pick 6 rfl)
      have k0 := H5.out.cell (b := x) (j := 3) (List.Mem.tail _ (List.Mem.tail _ (List.Mem.tail _ (List.Mem.tail _ (List.Mem.tail _ (List.Mem.tail _ (List.Mem.head _))))))) rfl
      have k1 := H5.out.cell (b := Bo) (j := 1) (List.Mem.tail _ (List.Mem.tail _ (List.Mem.tail _ (List.Mem.head _)))) rfl
      have hl0 := H5.out.lt (b := x) (List.Mem.tail _ (List.Mem.tail _ (List.Mem.tail _ (List.Mem.tail _ (List.Mem.tail _ (List.Mem.tail _ (List.Mem.head _)))))))
      have hl1 := H5.out.lt (b := Bo) (List.Mem.tail _ (List.Mem.tail _ (List.Mem.tail _ (List.Mem.head _))))
      have hq0 : (⟨wc.heap.size, 0, none⟩ : Addr).block ≠ (⟨x, 3, none⟩ : Addr).block := by simp; omega
      have hq1 : (⟨wc.heap.size, 0, none⟩ : Addr).block ≠ (⟨Bo, 1, none⟩ : Addr).block := by simp; omega
      clear hl0 hl1
      go_region_held3 (fun W' => W'.cell? ⟨x, 3, none⟩ = some (.pointer (some ⟨q, 0, none⟩)) ∧ W'.cell? ⟨Bo, 1, none⟩ = some (.int .i64 N)) (first | exact ⟨set_far (set_far f0 hq0) hq0, set_far (set_far f1 hq1) hq1⟩ | exact ⟨alloc_cell f0, alloc_cell f1⟩ | exact ⟨f0, f1⟩ | exact ⟨k0, k1⟩ | exact ⟨alloc_cell k0, alloc_cell k1⟩) (first | (go_at_call 69; refine (qpush_sep (w := w) (F := [bx wc.heap.size (.cells #[.int .i64 0, .int .i64 0] 39), bx B5 (.cells #[.int .i64 (pushL S L sz N).1.1.1, .int .i64 (pushL S L sz N).1.1.2] 39), spA p (pushL S L sz N).2.1, lkA b p sz ca (pushL S L sz N).2.2, bx Bo (.cells #[.int .i64 0, .int .i64 N] 80), bx x (pl24 p b pr q)]) b0 N hs HK.out.1 HK.out.2.1 HK.out.2.2).mono ?_; rintro e wx ⟨hx, rfl⟩; have f0 := hx.cell (b := x) (j := 3) (List.Mem.tail _ (List.Mem.tail _ (List.Mem.tail _ (List.Mem.tail _ (List.Mem.tail _ (List.Mem.tail _ (List.Mem.tail _ (List.Mem.head _)))))))) rfl; have f1 := hx.cell (b := Bo) (j := 1) (List.Mem.tail _ (List.Mem.tail _ (List.Mem.tail _ (List.Mem.tail _ (List.Mem.tail _ (List.Mem.tail _ (List.Mem.head _))))))) rfl; have z0 := hx.cell (b := wc.heap.size) (j := 0) (List.Mem.tail _ (List.Mem.tail _ (List.Mem.head _))) rfl; have z1 := hx.cell (b := wc.heap.size) (j := 1) (List.Mem.tail _ (List.Mem.tail _ (List.Mem.head _))) rfl; have z2 := hx.free (b := wc.heap.size) (List.Mem.tail _ (List.Mem.tail _ (List.Mem.head _))) 0; have z3 := hx.free (b := wc.heap.size) (List.Mem.tail _ (List.Mem.tail _ (List.Mem.head _))) 1; have HG : Hid (BoxR w 39 (pushL S L sz N).1.1.1 (pushL S L sz N).1.1.2 (pushL S L sz N).1.2 [rsA pr (pushL S L sz N).2.1, qlA q pr sz ca (pushL S L sz N).2.2, bx B5 (.cells #[.int .i64 (pushL S L sz N).1.1.1, .int .i64 (pushL S L sz N).1.1.2] 39), spA p (pushL S L sz N).2.1, lkA b p sz ca (pushL S L sz N).2.2, bx Bo (.cells #[.int .i64 0, .int .i64 N] 80), bx x (pl24 p b pr q)] (.pointer (some ⟨wc.heap.size, 0, none⟩)) (.int .i64 (pushL S L sz N).1.2) _) := ⟨_, rfl, rfl, ((hx.pick 2 rfl).store 0 (.int .i64 (pushL S L sz N).1.1.1)).store 1 (.int .i64 (pushL S L sz N).1.1.2)⟩) | (go_at_call 69; refine (qpush_sep (w := w) (F := [bx B5 (.cells #[.int .i64 (pushL S L sz N).1.1.1, .int .i64 (pushL S L sz N).1.1.2] 39), spA p (pushL S L sz N).2.1, lkA b p sz ca (pushL S L sz N).2.2, bx Bo (.cells #[.int .i64 0, .int .i64 N] 80), bx x (pl24 p b pr q)]) c0 N hs HK.out.1 HK.out.2.1 HK.out.2.2).mono ?_; rintro e wx ⟨hx, rfl⟩; have f0 := hx.cell (b := x) (j := 3) (List.Mem.tail _ (List.Mem.tail _ (List.Mem.tail _ (List.Mem.tail _ (List.Mem.tail _ (List.Mem.tail _ (List.Mem.head _))))))) rfl; have f1 := hx.cell (b := Bo) (j := 1) (List.Mem.tail _ (List.Mem.tail _ (List.Mem.tail _ (List.Mem.tail _ (List.Mem.tail _ (List.Mem.head _)))))) rfl; have HG : Hid (BoxR w 39 (pushL S L sz N).1.1.1 (pushL S L sz N).1.1.2 (pushL S L sz N).1.2 [rsA pr (pushL S L sz N).2.1, qlA q pr sz ca (pushL S L sz N).2.2, bx B5 (.cells #[.int .i64 (pushL S L sz N).1.1.1, .int .i64 (pushL S L sz N).1.1.2] 39), spA p (pushL S L sz N).2.1, lkA b p sz ca (pushL S L sz N).2.2, bx Bo (.cells #[.int .i64 0, .int .i64 N] 80), bx x (pl24 p b pr q)] (.pointer (some ⟨wx.heap.size, 0, none⟩)) (.int .i64 (pushL S L sz N).1.2) _) := ⟨_, rfl, rfl, hx.alloc _⟩))
      all_goals
        go_wp2_with fail
        go_meet
        case rel => exact HG.out
    case rest =>
      obtain ⟨B7, rfl, rfl, h7⟩ := hcut.out
      have e0 := h7.cell (b := B7) (j := 0) (List.Mem.head _) rfl
      have e1 := h7.cell (b := B7) (j := 1) (List.Mem.head _) rfl
      have e2 := h7.cell (b := B5) (j := 0) (List.Mem.tail _ (List.Mem.tail _ (List.Mem.tail _ (List.Mem.head _)))) rfl
      have e3 := h7.cell (b := B5) (j := 1) (List.Mem.tail _ (List.Mem.tail _ (List.Mem.tail _ (List.Mem.head _)))) rfl
      have HF : Hid (Sep w [spA p (pushL S L sz N).2.1, lkA b p sz ca (pushL S L sz N).2.2, rsA pr (pushL S L sz N).2.1, qlA q pr sz ca (pushL S L sz N).2.2, bx x (pl24 p b pr q)] _) := (((((((h7.lose 6).lose 3).tl.pick 4 rfl).pick 2 rfl).pick 2 rfl).pick 4 rfl).pick 4 rfl)
      clear hcut h7 H5
      go_wp2_with fail
      go_ret
      exact ⟨rfl, _, _, _, _, _, _, HF.out, HI.out⟩
end Go.Proofs.Ytkooogllajmkeaa
/- A play's step (24): Pop, Free, Take, others. -/
namespace Go.Proofs.Ytkooogllajmkeaa
open Go.RowKit
set_option pp.deepTerms true
attribute [local go_sem ↓] Go.wp_at_zero Go.wp_at_succ
theorem qpop_sep {w W : World} {F : List Asr} {q pr : Nat} {R : Sp} {L : Lk} {sz ca : Int} (h : Sep w (rsA pr R :: qlA q pr sz ca L :: F) W) (hll : L.live.length ≤ 1000000) (hkl : L.kept.length ≤ 1000000) (hin : ∀ r ∈ L.live, I64 r.1) (hpq : popQ R L ca = popL R L ca) :
    Calls Try.prog 70 #[.pointer (some ⟨q, 0, none⟩)] W fun e w' => Sep w (rsA pr (popL R L ca).2.1 :: qlA q pr sz ca (popL R L ca).2.2 :: F) w' ∧ e = .returned (.int .i64 (popL R L ca).1) := by
  rw [← hpq]
  exact qpop_ok h hll hkl hin
theorem PInv.i64 {S : Sp} {L : Lk} {k : Nat} (h : PInv S L k) (ok : Spok S) (hk : k ≤ 1000) : ∀ r ∈ L.live, I64 r.1 := fun r hr => by
  have h1 := h.reg ok (x := r) (List.mem_append.2 (.inl hr))
  have h2 := h.last
  unfold I64
  omega
set_option maxRecDepth 100000 in
set_option maxHeartbeats 4000000 in
theorem do24_k1 {w W : World} {x p b pr q k : Nat} {sz ca N : Int} {S : Sp} {L : Lk} (h : StP w x p b pr q sz ca S L W) (hI : PInv S L k) (ok : Spok S) (hk : k ≤ 1000) :
    Calls Try.prog 36 #[.pointer (some ⟨x, 0, none⟩), .agg #[.int .i64 1, .int .i64 N]] W (DoP w x sz ca (k + 1)) := by
  have hll : L.live.length ≤ 1000000 := by have := hI.few; omega
  have hkl : L.kept.length ≤ 1000000 := by have := hI.few; omega
  have hla : S.last ≤ 1152921504606846976 := by have := hI.last; omega
  have HI := Hid.mk (hI.pop ok ca)
  have HIN := Hid.mk (hI.i64 ok hk)
  have zz : ((popL S L ca).1 == (popL S L ca).1) = true := by simp
  have hA := h.alloc (.cells #[.int .i64 1, .int .i64 N] 80)
  have g0 := hA.cell (b := W.heap.size) (j := 0) (List.Mem.head _) rfl
  have z0 : ((1 : Int) == 0) = false := rfl
  have z1 : ((1 : Int) == 1) = true := rfl
  obtain ⟨Y, hY⟩ : ∃ Y, W.alloc (.cells #[.int .i64 1, .int .i64 N] 80) = Y := ⟨_, rfl⟩
  obtain ⟨Bo, hBo⟩ : ∃ Bo, W.heap.size = Bo := ⟨_, rfl⟩
  have HYB := Hid.mk (And.intro hY hBo)
  rw [hY, hBo] at hA g0
  have HA := Hid.mk hA
  have HK : Hid (L.live.length ≤ 1000000 ∧ L.kept.length ≤ 1000000 ∧ S.last ≤ 1152921504606846976) := ⟨hll, hkl, hla⟩
  have HOK := Hid.mk ok
  have HPI := Hid.mk hI
  clear hA h hY hBo hI hll hkl hla ok
  go_enter Try.func36, Try.ntmps36
  go_upto_region 1 with (fail)
  rw [HYB.out.1, HYB.out.2]
  go_upto_region 7 with (fail)
  have c0 := ((((((HA.out.drew.pick 5 rfl).pick 5 rfl).pick 5 rfl).pick 3 rfl).pick 5 rfl).pick 5 rfl)
  have k0 := HA.out.cell (b := x) (j := 1) (List.Mem.tail _ (List.Mem.tail _ (List.Mem.tail _ (List.Mem.tail _ (List.Mem.tail _ (List.Mem.head _)))))) rfl
  have k1 := HA.out.cell (b := x) (j := 3) (List.Mem.tail _ (List.Mem.tail _ (List.Mem.tail _ (List.Mem.tail _ (List.Mem.tail _ (List.Mem.head _)))))) rfl
  go_region_held3 (fun W' => W'.cell? ⟨x, 1, none⟩ = some (.pointer (some ⟨b, 0, none⟩)) ∧ W'.cell? ⟨x, 3, none⟩ = some (.pointer (some ⟨q, 0, none⟩))) (first | exact ⟨v0, v1⟩ | exact ⟨f0, f1⟩ | exact ⟨k0, k1⟩) (first | (go_at_call 32; refine (pop_sep (w := w) (F := [bx Bo (.cells #[.int .i64 1, .int .i64 N] 80), rsA pr S, qlA q pr sz ca L, bx x (pl24 p b pr q)]) c0 HK.out.1 HK.out.2.1).mono ?_; rintro e wx ⟨hx, rfl⟩; have f0 := hx.cell (b := x) (j := 1) (List.Mem.tail _ (List.Mem.tail _ (List.Mem.tail _ (List.Mem.tail _ (List.Mem.tail _ (List.Mem.head _)))))) rfl; have f1 := hx.cell (b := x) (j := 3) (List.Mem.tail _ (List.Mem.tail _ (List.Mem.tail _ (List.Mem.tail _ (List.Mem.tail _ (List.Mem.head _)))))) rfl) | (go_at_call 70; refine (qpop_sep (w := w) (F := [spA p (popL S L ca).2.1, lkA b p sz ca (popL S L ca).2.2, bx Bo (.cells #[.int .i64 1, .int .i64 N] 80), bx x (pl24 p b pr q)]) ((((((hx.pick 5 rfl).pick 3 rfl).pick 3 rfl).pick 3 rfl).pick 5 rfl).pick 5 rfl) HK.out.1 HK.out.2.1 HIN.out HI.out.2).mono ?_; rintro e wy ⟨hy, rfl⟩; have v0 := hy.cell (b := x) (j := 1) (List.Mem.tail _ (List.Mem.tail _ (List.Mem.tail _ (List.Mem.tail _ (List.Mem.tail _ (List.Mem.head _)))))) rfl; have v1 := hy.cell (b := x) (j := 3) (List.Mem.tail _ (List.Mem.tail _ (List.Mem.tail _ (List.Mem.tail _ (List.Mem.tail _ (List.Mem.head _)))))) rfl))
  all_goals
    have HF : Hid (Sep w [spA p (popL S L ca).2.1, lkA b p sz ca (popL S L ca).2.2, rsA pr (popL S L ca).2.1, qlA q pr sz ca (popL S L ca).2.2, bx x (pl24 p b pr q)] _) := ((((((hy.lose 4).pick 4 rfl).pick 2 rfl).pick 2 rfl).pick 4 rfl).pick 4 rfl)
    clear c0 k0 k1 f0 f1 v0 v1 hx hy
    go_wp2_with fail
    go_ret
    exact ⟨rfl, _, _, _, _, _, _, HF.out, HI.out.1⟩
set_option maxRecDepth 100000 in
set_option maxHeartbeats 4000000 in
theorem do24_k2 {w W : World} {x p b pr q k : Nat} {sz ca N : Int} {S : Sp} {L : Lk} (h : StP w x p b pr q sz ca S L W) (hI : PInv S L k) (ok : Spok S) (hk : k ≤ 1000) :
    Calls Try.prog 36 #[.pointer (some ⟨x, 0, none⟩), .agg #[.int .i64 2, .int .i64 N]] W (DoP w x sz ca (k + 1)) := by
  have hll : L.live.length ≤ 1000000 := by have := hI.few; omega
  have hkl : L.kept.length ≤ 1000000 := by have := hI.few; omega
  have hla : S.last ≤ 1152921504606846976 := by have := hI.last; omega
  have HI := Hid.mk (hI.free ok)
  have zz : (((L.kept.length : Nat) : Int) == ((L.kept.length : Nat) : Int)) = true := by simp
  have hA := h.alloc (.cells #[.int .i64 2, .int .i64 N] 80)
  have g0 := hA.cell (b := W.heap.size) (j := 0) (List.Mem.head _) rfl
  have z0 : ((2 : Int) == 0) = false := rfl
  have z1 : ((2 : Int) == 1) = false := rfl
  have z2 : ((2 : Int) == 2) = true := rfl
  obtain ⟨Y, hY⟩ : ∃ Y, W.alloc (.cells #[.int .i64 2, .int .i64 N] 80) = Y := ⟨_, rfl⟩
  obtain ⟨Bo, hBo⟩ : ∃ Bo, W.heap.size = Bo := ⟨_, rfl⟩
  have HYB := Hid.mk (And.intro hY hBo)
  rw [hY, hBo] at hA g0
  have HA := Hid.mk hA
  have HK : Hid (L.live.length ≤ 1000000 ∧ L.kept.length ≤ 1000000 ∧ S.last ≤ 1152921504606846976) := ⟨hll, hkl, hla⟩
  have HOK := Hid.mk ok
  have HPI := Hid.mk hI
  clear hA h hY hBo hI hll hkl hla ok
  go_enter Try.func36, Try.ntmps36
  go_upto_region 1 with (fail)
  rw [HYB.out.1, HYB.out.2]
  go_upto_region 9 with (fail)
  have c0 := ((((((HA.out.drew.pick 5 rfl).pick 5 rfl).pick 5 rfl).pick 3 rfl).pick 5 rfl).pick 5 rfl)
  have k0 := HA.out.cell (b := x) (j := 1) (List.Mem.tail _ (List.Mem.tail _ (List.Mem.tail _ (List.Mem.tail _ (List.Mem.tail _ (List.Mem.head _)))))) rfl
  have k1 := HA.out.cell (b := x) (j := 3) (List.Mem.tail _ (List.Mem.tail _ (List.Mem.tail _ (List.Mem.tail _ (List.Mem.tail _ (List.Mem.head _)))))) rfl
  go_region_held3 (fun W' => W'.cell? ⟨x, 1, none⟩ = some (.pointer (some ⟨b, 0, none⟩)) ∧ W'.cell? ⟨x, 3, none⟩ = some (.pointer (some ⟨q, 0, none⟩))) (first | exact ⟨v0, v1⟩ | exact ⟨f0, f1⟩ | exact ⟨k0, k1⟩) (first | (go_at_call 41; refine (free24_sep (w := w) (F := [bx Bo (.cells #[.int .i64 2, .int .i64 N] 80), rsA pr S, qlA q pr sz ca L, bx x (pl24 p b pr q)]) c0 HK.out.2.1).mono ?_; rintro e wx ⟨hx, rfl⟩; have f0 := hx.cell (b := x) (j := 1) (List.Mem.tail _ (List.Mem.tail _ (List.Mem.tail _ (List.Mem.tail _ (List.Mem.tail _ (List.Mem.head _)))))) rfl; have f1 := hx.cell (b := x) (j := 3) (List.Mem.tail _ (List.Mem.tail _ (List.Mem.tail _ (List.Mem.tail _ (List.Mem.tail _ (List.Mem.head _)))))) rfl) | (go_at_call 71; refine (qfree_ok (w := w) (F := [spA p (freeS S L.kept), lkA b p sz ca ⟨L.live, []⟩, bx Bo (.cells #[.int .i64 2, .int .i64 N] 80), bx x (pl24 p b pr q)]) ((((((hx.pick 5 rfl).pick 3 rfl).pick 3 rfl).pick 3 rfl).pick 5 rfl).pick 5 rfl) HK.out.2.1).mono ?_; rintro e wy ⟨hy, rfl⟩; have v0 := hy.cell (b := x) (j := 1) (List.Mem.tail _ (List.Mem.tail _ (List.Mem.tail _ (List.Mem.tail _ (List.Mem.tail _ (List.Mem.head _)))))) rfl; have v1 := hy.cell (b := x) (j := 3) (List.Mem.tail _ (List.Mem.tail _ (List.Mem.tail _ (List.Mem.tail _ (List.Mem.tail _ (List.Mem.head _)))))) rfl))
  all_goals
    have HF : Hid (Sep w [spA p (freeS S L.kept), lkA b p sz ca ⟨L.live, []⟩, rsA pr (freeS S L.kept), qlA q pr sz ca ⟨L.live, []⟩, bx x (pl24 p b pr q)] _) := ((((((hy.lose 4).pick 4 rfl).pick 2 rfl).pick 2 rfl).pick 4 rfl).pick 4 rfl)
    clear c0 k0 k1 f0 f1 v0 v1 hx hy
    go_wp2_with fail
    go_ret
    exact ⟨rfl, _, _, _, _, _, _, HF.out, HI.out⟩
set_option maxRecDepth 100000 in
set_option maxHeartbeats 4000000 in
theorem do24_k5 {w W : World} {x p b pr q k : Nat} {sz ca N : Int} {S : Sp} {L : Lk} (h : StP w x p b pr q sz ca S L W) (hI : PInv S L k) (ok : Spok S) (hk : k ≤ 1000) :
    Calls Try.prog 36 #[.pointer (some ⟨x, 0, none⟩), .agg #[.int .i64 5, .int .i64 N]] W (DoP w x sz ca (k + 1)) := by
  have hll : L.live.length ≤ 1000000 := by have := hI.few; omega
  have hkl : L.kept.length ≤ 1000000 := by have := hI.few; omega
  have hla : S.last ≤ 1152921504606846976 := by have := hI.last; omega
  have HI := Hid.mk (hI.take N)
  have zz : ((S.take N).1.1 == (S.take N).1.1) = true := by simp
  have zy : ((S.take N).1.2 == (S.take N).1.2) = true := by simp
  have hA := h.alloc (.cells #[.int .i64 5, .int .i64 N] 80)
  have g0 := hA.cell (b := W.heap.size) (j := 0) (List.Mem.head _) rfl
  have z0 : ((5 : Int) == 0) = false := rfl
  have z1 : ((5 : Int) == 1) = false := rfl
  have z2 : ((5 : Int) == 2) = false := rfl
  have z3 : ((5 : Int) == 3) = false := rfl
  have z4 : ((5 : Int) == 4) = false := rfl
  have z5 : ((5 : Int) == 5) = true := rfl
  obtain ⟨Y, hY⟩ : ∃ Y, W.alloc (.cells #[.int .i64 5, .int .i64 N] 80) = Y := ⟨_, rfl⟩
  obtain ⟨Bo, hBo⟩ : ∃ Bo, W.heap.size = Bo := ⟨_, rfl⟩
  have HYB := Hid.mk (And.intro hY hBo)
  rw [hY, hBo] at hA g0
  have HA := Hid.mk hA
  have HK : Hid (L.live.length ≤ 1000000 ∧ L.kept.length ≤ 1000000 ∧ S.last ≤ 1152921504606846976) := ⟨hll, hkl, hla⟩
  have HOK := Hid.mk ok
  have HPI := Hid.mk hI
  clear hA h hY hBo hI hll hkl hla ok
  go_enter Try.func36, Try.ntmps36
  go_upto_region 1 with (fail)
  rw [HYB.out.1, HYB.out.2]
  go_upto_region 26 with (fail)
  have c0 := ((((((HA.out.drew.pick 5 rfl).pick 5 rfl).pick 5 rfl).pick 5 rfl).pick 4 rfl).pick 5 rfl)
  have k0 := HA.out.cell (b := x) (j := 0) (List.Mem.tail _ (List.Mem.tail _ (List.Mem.tail _ (List.Mem.tail _ (List.Mem.tail _ (List.Mem.head _)))))) rfl
  have k1 := HA.out.cell (b := Bo) (j := 1) (List.Mem.head _) rfl
  go_region_held3 (fun W' => W'.cell? ⟨x, 0, none⟩ = some (.pointer (some ⟨p, 0, none⟩)) ∧ W'.cell? ⟨Bo, 1, none⟩ = some (.int .i64 N)) (first | exact ⟨f0, f1⟩ | exact ⟨k0, k1⟩) ((go_at_call 12; refine (take_sep (w := w) (F := [bx Bo (.cells #[.int .i64 5, .int .i64 N] 80), lkA b p sz ca L, rsA pr S, qlA q pr sz ca L, bx x (pl24 p b pr q)]) c0 N HK.out.2.2).mono ?_; rintro e wx ⟨hx, rfl⟩; have f0 := hx.cell (b := x) (j := 0) (List.Mem.tail _ (List.Mem.tail _ (List.Mem.tail _ (List.Mem.tail _ (List.Mem.tail _ (List.Mem.head _)))))) rfl; have f1 := hx.cell (b := Bo) (j := 1) (List.Mem.tail _ (List.Mem.head _)) rfl))
  have H1 := Hid.mk hx
  clear c0 k0 k1 f0 f1 hx HA
  go_upto_region 27 with (fail)
  have c0 := ((((((H1.out.drew.pick 5 rfl).pick 5 rfl).pick 4 rfl).pick 4 rfl).pick 4 rfl).pick 5 rfl)
  have k0 := H1.out.cell (b := x) (j := 2) (List.Mem.tail _ (List.Mem.tail _ (List.Mem.tail _ (List.Mem.tail _ (List.Mem.tail _ (List.Mem.head _)))))) rfl
  have k1 := H1.out.cell (b := Bo) (j := 1) (List.Mem.tail _ (List.Mem.head _)) rfl
  go_region_held3 (fun W' => W'.cell? ⟨x, 2, none⟩ = some (.pointer (some ⟨pr, 0, none⟩)) ∧ W'.cell? ⟨Bo, 1, none⟩ = some (.int .i64 N)) (first | exact ⟨f0, f1⟩ | exact ⟨k0, k1⟩) ((go_at_call 49; refine (rtake_sep (w := w) (F := [spA p (S.take N).2, bx Bo (.cells #[.int .i64 5, .int .i64 N] 80), lkA b p sz ca L, qlA q pr sz ca L, bx x (pl24 p b pr q)]) c0 N HK.out.2.2).mono ?_; rintro e wx ⟨hy, rfl⟩; have f0 := hy.cell (b := x) (j := 2) (List.Mem.tail _ (List.Mem.tail _ (List.Mem.tail _ (List.Mem.tail _ (List.Mem.tail _ (List.Mem.head _)))))) rfl; have f1 := hy.cell (b := Bo) (j := 1) (List.Mem.tail _ (List.Mem.tail _ (List.Mem.head _))) rfl))
  have HF : Hid (Sep w [spA p (S.take N).2, lkA b p sz ca L, rsA pr (S.take N).2, qlA q pr sz ca L, bx x (pl24 p b pr q)] _) := ((((((hy.lose 2).pick 4 rfl).pick 4 rfl).pick 2 rfl).pick 4 rfl).pick 4 rfl)
  clear c0 k0 k1 f0 f1 hy H1
  go_wp2_with fail
  go_ret
  exact ⟨rfl, _, _, _, _, _, _, HF.out, HI.out⟩
set_option maxRecDepth 100000 in
set_option maxHeartbeats 4000000 in
theorem do24_kx {w W : World} {x p b pr q k : Nat} {sz ca N kd : Int} {S : Sp} {L : Lk} (h : StP w x p b pr q sz ca S L W) (hI : PInv S L k) (ok : Spok S) (hk : k ≤ 1000) (h0 : ¬ kd = 0) (h1 : ¬ kd = 1) (h2 : ¬ kd = 2) (h3 : ¬ kd = 3) (h4 : ¬ kd = 4) (h5 : ¬ kd = 5) :
    Calls Try.prog 36 #[.pointer (some ⟨x, 0, none⟩), .agg #[.int .i64 kd, .int .i64 N]] W (DoP w x sz ca (k + 1)) := by
  have hll : L.live.length ≤ 1000000 := by have := hI.few; omega
  have hkl : L.kept.length ≤ 1000000 := by have := hI.few; omega
  have hla : S.last ≤ 1152921504606846976 := by have := hI.last; omega
  have z0 : (kd == 0) = false := by simpa using h0
  have z1 : (kd == 1) = false := by simpa using h1
  have z2 : (kd == 2) = false := by simpa using h2
  have z3 : (kd == 3) = false := by simpa using h3
  have z4 : (kd == 4) = false := by simpa using h4
  have z5 : (kd == 5) = false := by simpa using h5
  have hA := h.alloc (.cells #[.int .i64 kd, .int .i64 N] 80)
  have g0 := hA.cell (b := W.heap.size) (j := 0) (List.Mem.head _) rfl
  obtain ⟨Y, hY⟩ : ∃ Y, W.alloc (.cells #[.int .i64 kd, .int .i64 N] 80) = Y := ⟨_, rfl⟩
  obtain ⟨Bo, hBo⟩ : ∃ Bo, W.heap.size = Bo := ⟨_, rfl⟩
  have HYB := Hid.mk (And.intro hY hBo)
  rw [hY, hBo] at hA g0
  have HA := Hid.mk hA
  have HK : Hid (L.live.length ≤ 1000000 ∧ L.kept.length ≤ 1000000 ∧ S.last ≤ 1152921504606846976) := ⟨hll, hkl, hla⟩
  have HOK := Hid.mk ok
  have HPI := Hid.mk hI
  clear hA h hY hBo hI hll hkl hla ok
  go_enter Try.func36, Try.ntmps36
  go_upto_region 1 with (fail)
  rw [HYB.out.1, HYB.out.2]
  clear h0 h1 h2 h3 h4 h5
  go_wp2_with fail
  go_ret
  exact ⟨rfl, _, _, _, _, _, _, HA.out.tl, HPI.out.step⟩
end Go.Proofs.Ytkooogllajmkeaa
/- A play's step (24): a copy, a word. -/
namespace Go.Proofs.Ytkooogllajmkeaa
open Go.RowKit
set_option pp.deepTerms true
attribute [local go_sem ↓] Go.wp_at_zero Go.wp_at_succ
section
variable {w W : World} {F : List Asr} {p pr : Nat} {S : Sp}
theorem copy_sep (h : Sep w (spA p S :: F) W) : Calls Try.prog 28 #[.pointer (some ⟨p, 0, none⟩)] W fun e w' => ∃ p2, Sep w (spA p2 S :: spA p S :: F) w' ∧ e = .returned (.pointer (some ⟨p2, 0, none⟩)) := by
  obtain ⟨fs, hf⟩ := h.sp
  refine (copy_spc hf).mono ?_
  rintro e w' ⟨hb, p2, fs', rfl, h1, h2⟩
  exact ⟨p2, h.new hb (A := spA p2 S) (fs := fs') h1 h2, rfl⟩
theorem rcopy_sep (h : Sep w (rsA pr S :: F) W) : Calls Try.prog 56 #[.pointer (some ⟨pr, 0, none⟩)] W fun e w' => ∃ p2, Sep w (rsA p2 S :: rsA pr S :: F) w' ∧ e = .returned (.pointer (some ⟨p2, 0, none⟩)) := by
  obtain ⟨fs, hf⟩ := h.rs
  refine (rcopy_spc hf).mono ?_
  rintro e w' ⟨hb, p2, fs', rfl, h1, h2⟩
  exact ⟨p2, h.new hb (A := rsA p2 S) (fs := fs') h1 h2, rfl⟩
end
set_option maxRecDepth 100000 in
set_option maxHeartbeats 4000000 in
theorem do24_k4 {w W : World} {x p b pr q k : Nat} {sz ca N : Int} {S : Sp} {L : Lk} (h : StP w x p b pr q sz ca S L W) (hI : PInv S L k) (ok : Spok S) (hk : k ≤ 1000) :
    Calls Try.prog 36 #[.pointer (some ⟨x, 0, none⟩), .agg #[.int .i64 4, .int .i64 N]] W (DoP w x sz ca (k + 1)) := by
  have hll : L.live.length ≤ 1000000 := by have := hI.few; omega
  have hkl : L.kept.length ≤ 1000000 := by have := hI.few; omega
  have hla : S.last ≤ 1152921504606846976 := by have := hI.last; omega
  have hA := h.alloc (.cells #[.int .i64 4, .int .i64 N] 80)
  have g0 := hA.cell (b := W.heap.size) (j := 0) (List.Mem.head _) rfl
  have z0 : ((4 : Int) == 0) = false := rfl
  have z1 : ((4 : Int) == 1) = false := rfl
  have z2 : ((4 : Int) == 2) = false := rfl
  have z3 : ((4 : Int) == 3) = false := rfl
  have z4 : ((4 : Int) == 4) = true := rfl
  obtain ⟨Y, hY⟩ : ∃ Y, W.alloc (.cells #[.int .i64 4, .int .i64 N] 80) = Y := ⟨_, rfl⟩
  obtain ⟨Bo, hBo⟩ : ∃ Bo, W.heap.size = Bo := ⟨_, rfl⟩
  have HYB := Hid.mk (And.intro hY hBo)
  rw [hY, hBo] at hA g0
  have HA := Hid.mk hA
  have HK : Hid (L.live.length ≤ 1000000 ∧ L.kept.length ≤ 1000000 ∧ S.last ≤ 1152921504606846976) := ⟨hll, hkl, hla⟩
  have HOK := Hid.mk ok
  have HPI := Hid.mk hI
  clear hA h hY hBo hI hll hkl hla ok
  go_enter Try.func36, Try.ntmps36
  go_upto_region 1 with (fail)
  rw [HYB.out.1, HYB.out.2]
  have k0 := HA.out.cell (b := x) (j := 0) (List.Mem.tail _ (List.Mem.tail _ (List.Mem.tail _ (List.Mem.tail _ (List.Mem.tail _ (List.Mem.head _)))))) rfl
  have k1 := HA.out.cell (b := x) (j := 1) (List.Mem.tail _ (List.Mem.tail _ (List.Mem.tail _ (List.Mem.tail _ (List.Mem.tail _ (List.Mem.head _)))))) rfl
  have HC := Hid.mk (copy_sep ((((((HA.out.pick 5 rfl).pick 5 rfl).pick 5 rfl).pick 5 rfl).pick 4 rfl).pick 5 rfl))
  go_wp2_with fail
  refine HC.out.mono ?_
  rintro e w1 ⟨p2, h1, rfl⟩
  have k0 := h1.cell (b := x) (j := 0) (List.Mem.tail _ (List.Mem.tail _ (List.Mem.tail _ (List.Mem.tail _ (List.Mem.tail _ (List.Mem.tail _ (List.Mem.head _))))))) rfl
  have k1 := h1.cell (b := x) (j := 1) (List.Mem.tail _ (List.Mem.tail _ (List.Mem.tail _ (List.Mem.tail _ (List.Mem.tail _ (List.Mem.tail _ (List.Mem.head _))))))) rfl
  have HC := Hid.mk (copy24_sep (((((((h1.pick 6 rfl).pick 6 rfl).pick 6 rfl).pick 5 rfl).pick 4 rfl).pick 6 rfl).pick 6 rfl) HK.out.1 HK.out.2.1 p2)
  clear h1
  go_wp2_with fail
  refine HC.out.mono ?_
  rintro e w2 ⟨b2, h2, rfl⟩
  have k0 := h2.cell (b := x) (j := 0) (List.Mem.tail _ (List.Mem.tail _ (List.Mem.tail _ (List.Mem.tail _ (List.Mem.tail _ (List.Mem.tail _ (List.Mem.tail _ (List.Mem.head _)))))))) rfl
  have k1 := h2.cell (b := x) (j := 1) (List.Mem.tail _ (List.Mem.tail _ (List.Mem.tail _ (List.Mem.tail _ (List.Mem.tail _ (List.Mem.tail _ (List.Mem.tail _ (List.Mem.head _)))))))) rfl
  have kf := h2.free (b := x) (List.Mem.tail _ (List.Mem.tail _ (List.Mem.tail _ (List.Mem.tail _ (List.Mem.tail _ (List.Mem.tail _ (List.Mem.tail _ (List.Mem.head _))))))))
  have h3 : Sep w [bx x (.cells #[.pointer (some ⟨p2, 0, none⟩), .pointer (some ⟨b2, 0, none⟩), .pointer (some ⟨pr, 0, none⟩), .pointer (some ⟨q, 0, none⟩)] 78), lkA b2 p2 sz ca L, spA p S, lkA b p sz ca L, spA p2 S, bx Bo (.cells #[.int .i64 4, .int .i64 N] 80), rsA pr S, qlA q pr sz ca L] ((w2.setCell ⟨x, 1, none⟩ (.pointer (some ⟨b2, 0, none⟩))).setCell ⟨x, 0, none⟩ (.pointer (some ⟨p2, 0, none⟩))) := ((((((((((h2.pick 6 rfl).pick 6 rfl).pick 6 rfl).pick 6 rfl).pick 6 rfl).pick 6 rfl).pick 6 rfl).pick 7 rfl)).store 1 (.pointer (some ⟨b2, 0, none⟩))).store 0 (.pointer (some ⟨p2, 0, none⟩))
  have k2 := h3.cell (b := x) (j := 2) (List.Mem.head _) rfl
  have k3 := h3.cell (b := x) (j := 3) (List.Mem.head _) rfl
  have HC := Hid.mk (rcopy_sep ((((((((h3.pick 7 rfl).pick 6 rfl).pick 6 rfl).pick 6 rfl).pick 6 rfl).pick 6 rfl).pick 6 rfl).pick 7 rfl))
  clear h2 h3 HA
  go_wp2_with fail
  refine HC.out.mono ?_
  rintro e w3 ⟨pr2, h4, rfl⟩
  have k2 := h4.cell (b := x) (j := 2) (List.Mem.tail _ (List.Mem.tail _ (List.Mem.head _))) rfl
  have k3 := h4.cell (b := x) (j := 3) (List.Mem.tail _ (List.Mem.tail _ (List.Mem.head _))) rfl
  have HC := Hid.mk (qcopy_sep (((((((((h4.pick 7 rfl).pick 7 rfl).pick 7 rfl).pick 7 rfl).pick 7 rfl).pick 7 rfl).pick 7 rfl).pick 7 rfl).pick 8 rfl) HK.out.1 HK.out.2.1 pr2)
  clear h4 k0 k1 kf
  go_wp2_with fail
  refine HC.out.mono ?_
  rintro e w4 ⟨q2, h5, rfl⟩
  have k2 := h5.cell (b := x) (j := 2) (List.Mem.tail _ (List.Mem.tail _ (List.Mem.tail _ (List.Mem.tail _ (List.Mem.head _))))) rfl
  have k3 := h5.cell (b := x) (j := 3) (List.Mem.tail _ (List.Mem.tail _ (List.Mem.tail _ (List.Mem.tail _ (List.Mem.head _))))) rfl
  have kf := h5.free (b := x) (List.Mem.tail _ (List.Mem.tail _ (List.Mem.tail _ (List.Mem.tail _ (List.Mem.head _)))))
  have h6 : Sep w [bx x (pl24 p2 b2 pr2 q2), qlA q2 pr2 sz ca L, qlA q pr sz ca L, rsA pr2 S, rsA pr S, lkA b2 p2 sz ca L, spA p S, lkA b p sz ca L, spA p2 S, bx Bo (.cells #[.int .i64 4, .int .i64 N] 80)] ((w4.setCell ⟨x, 3, none⟩ (.pointer (some ⟨q2, 0, none⟩))).setCell ⟨x, 2, none⟩ (.pointer (some ⟨pr2, 0, none⟩))) := ((((((((((((h5.pick 9 rfl).pick 9 rfl).pick 9 rfl).pick 9 rfl).pick 9 rfl).pick 8 rfl).pick 8 rfl).pick 8 rfl).pick 8 rfl).pick 9 rfl)).store 3 (.pointer (some ⟨q2, 0, none⟩))).store 2 (.pointer (some ⟨pr2, 0, none⟩))
  have HI := Hid.mk (HPI.out.pop HOK.out ca)
  have HC := Hid.mk (pop_sep ((((((((((h6.pick 9 rfl).pick 9 rfl).pick 7 rfl).pick 7 rfl).pick 7 rfl).pick 7 rfl).pick 7 rfl).pick 7 rfl).pick 9 rfl).pick 9 rfl) HK.out.1 HK.out.2.1)
  clear h5 h6
  go_wp2_with fail
  refine HC.out.mono ?_
  rintro e w5 ⟨h7, rfl⟩
  have HC := Hid.mk (push_sep h7 1 (by have := HI.out.1.few; omega) (by have := HI.out.1.few; omega) (by have := HI.out.1.last; omega))
  clear h7 k2 k3 kf
  go_wp2_with fail
  refine HC.out.mono ?_
  rintro e w6 ⟨h8, rfl⟩
  have HF : Hid (Sep w [spA p2 S, lkA b2 p2 sz ca L, rsA pr2 S, qlA q2 pr2 sz ca L, bx x (pl24 p2 b2 pr2 q2)] _) := ((((((((((h8.lose 9).lose 6).lose 4).lose 1).lose 0).pick 0 rfl).pick 1 rfl).pick 2 rfl).pick 3 rfl).pick 4 rfl)
  clear h8 HC
  go_wp2_with fail
  go_ret
  exact ⟨rfl, _, _, _, _, _, _, HF.out, HPI.out.step⟩
set_option maxRecDepth 100000 in
set_option maxHeartbeats 4000000 in
theorem do24_k3 {w W : World} {x p b pr q k : Nat} {sz ca N : Int} {S : Sp} {L : Lk} (h : StP w x p b pr q sz ca S L W) (hI : PInv S L k) (ok : Spok S) (hk : k ≤ 1000) (hN : I64 N) :
    Calls Try.prog 36 #[.pointer (some ⟨x, 0, none⟩), .agg #[.int .i64 3, .int .i64 N]] W (DoP w x sz ca (k + 1)) := by
  have hll : L.live.length ≤ 1000000 := by have := hI.few; omega
  have hkl : L.kept.length ≤ 1000000 := by have := hI.few; omega
  have hla : S.last ≤ 1152921504606846976 := by have := hI.last; omega
  have HN := Hid.mk hN
  have hA := h.alloc (.cells #[.int .i64 3, .int .i64 N] 80)
  have g0 := hA.cell (b := W.heap.size) (j := 0) (List.Mem.head _) rfl
  have z0 : ((3 : Int) == 0) = false := rfl
  have z1 : ((3 : Int) == 1) = false := rfl
  have z2 : ((3 : Int) == 2) = false := rfl
  have z3 : ((3 : Int) == 3) = true := rfl
  obtain ⟨Y, hY⟩ : ∃ Y, W.alloc (.cells #[.int .i64 3, .int .i64 N] 80) = Y := ⟨_, rfl⟩
  obtain ⟨Bo, hBo⟩ : ∃ Bo, W.heap.size = Bo := ⟨_, rfl⟩
  have HYB := Hid.mk (And.intro hY hBo)
  rw [hY, hBo] at hA g0
  have HA := Hid.mk hA
  have HK : Hid (L.live.length ≤ 1000000 ∧ L.kept.length ≤ 1000000 ∧ S.last ≤ 1152921504606846976) := ⟨hll, hkl, hla⟩
  have HOK := Hid.mk ok
  have HPI := Hid.mk hI
  clear hA h hY hBo hI hll hkl hla ok
  go_enter Try.func36, Try.ntmps36
  go_upto_region 1 with (fail)
  rw [HYB.out.1, HYB.out.2]
  have k1 := HA.out.cell (b := x) (j := 1) (List.Mem.tail _ (List.Mem.tail _ (List.Mem.tail _ (List.Mem.tail _ (List.Mem.tail _ (List.Mem.head _)))))) rfl
  have HC := Hid.mk (top_sep ((((((HA.out.pick 5 rfl).pick 5 rfl).pick 5 rfl).pick 3 rfl).pick 5 rfl).pick 5 rfl) HK.out.1)
  clear HA
  go_wp2_with fail
  refine HC.out.mono ?_
  rintro e w1 ⟨h1, -, rfl⟩
  clear HC
  by_cases hne : L.live = []
  · have ht : topOf L.live = ((0, 0), false) := by rw [hne]; rfl
    rw [ht]
    have h2 := h1.alloc (.cells #[.int .i64 0, .int .i64 0] 39)
    have k3 := h2.cell (b := x) (j := 3) (List.Mem.tail _ (List.Mem.tail _ (List.Mem.tail _ (List.Mem.tail _ (List.Mem.tail _ (List.Mem.tail _ (List.Mem.head _))))))) rfl
    obtain ⟨ao, c, ak, ck, hQ⟩ := ql_open (h2.pick 5 rfl)
    have e3 := hQ.cell (b := q) (j := 3) (List.Mem.head _) rfl
    have hl0 : L.live.length = 0 := by simp [hne]
    rw [hl0] at e3
    have HF : Hid (Sep w [spA p S, lkA b p sz ca L, rsA pr S, qlA q pr sz ca L, bx x (pl24 p b pr q)] _) := ((((((h1.lose 2).pick 4 rfl).pick 4 rfl).pick 4 rfl).pick 4 rfl).pick 4 rfl)
    have HF2 := Hid.mk (HF.out.keep ((Below.refl _ _).alloc (Nat.le_refl _) (.cells #[.int .i64 0, .int .i64 0] 39)))
    clear h1 h2 hQ ht hne hl0
    go_wp2_with fail
    go_ret
    exact ⟨rfl, _, _, _, _, _, _, HF2.out, HPI.out.step⟩
  · obtain ⟨pre, y, hpre, ht⟩ := topOf_some hne
    obtain ⟨t1, t2⟩ := y
    have hmem : (t1, t2) ∈ L.live := by rw [hpre]; simp
    have hO := HPI.out.reg HOK.out (List.mem_append.2 (.inl hmem))
    have hlast := HPI.out.last
    simp only at hO
    obtain ⟨o1, o2, o3, o4⟩ := hO
    rw [ht]
    have h2 := h1.alloc (.cells #[.int .i64 t1, .int .i64 t2] 39)
    obtain ⟨X2, hX2⟩ : ∃ X2, w1.alloc (.cells #[.int .i64 t1, .int .i64 t2] 39) = X2 := ⟨_, rfl⟩
    obtain ⟨B9, hB9⟩ : ∃ B9, w1.heap.size = B9 := ⟨_, rfl⟩
    have HXB := Hid.mk (And.intro hX2 hB9)
    rw [hX2, hB9] at h2
    have k0 := h2.cell (b := B9) (j := 0) (List.Mem.head _) rfl
    have k1 := h2.cell (b := B9) (j := 1) (List.Mem.head _) rfl
    have k2 := h2.cell (b := Bo) (j := 1) (List.Mem.tail _ (List.Mem.tail _ (List.Mem.tail _ (List.Mem.head _)))) rfl
    have HA2 := Hid.mk h2
    obtain ⟨n1, n2, n3, n4⟩ := pos_of (N := N) o2
    have hne0 : ¬ t2 = 0 := by omega
    have w2 : IntKind.i64.wrap (N.tmod t2 + t2) = N.tmod t2 + t2 := by rw [IntKind.wrap_i64]; omega
    have w4 : IntKind.i64.wrap (t1 + (N.tmod t2 + t2).tmod t2) = t1 + (N.tmod t2 + t2).tmod t2 := by rw [IntKind.wrap_i64]; omega
    have HAT : Hid (I64 (t1 + (N.tmod t2 + t2).tmod t2)) := by unfold Hid I64; omega
    clear h1 h2 hX2 hB9 ht hne hpre hmem n1 n2 n3 n4 o1 o2 o3 o4 hlast
    go_upto_region 14 with (fail)
    rw [HXB.out.1, HXB.out.2]
    go_quiet (fail)
    clear w2 w4 hne0 k0 k1
    have HA3 := Hid.mk (HA2.out.keep (below_drewN (Below.refl _ _) nq))
    obtain ⟨X3, hX3⟩ : ∃ X3, X2.drewN nq = X3 := ⟨_, rfl⟩
    have k2 := HA3.out.cell (b := Bo) (j := 1) (List.Mem.tail _ (List.Mem.tail _ (List.Mem.tail _ (List.Mem.head _)))) rfl
    rw [hX3] at HA3 k2 ⊢
    obtain ⟨A, hAt⟩ : ∃ A, t1 + (N.tmod t2 + t2).tmod t2 = A := ⟨_, rfl⟩
    rw [hAt] at HAT ⊢
    clear hX3 hAt
    have h4 := HA3.out.alloc (.cells #[.int .i64 1, .int .i64 N] 29)
    obtain ⟨X4, hX4⟩ : ∃ X4, X3.alloc (.cells #[.int .i64 1, .int .i64 N] 29) = X4 := ⟨_, rfl⟩
    obtain ⟨B12, hB12⟩ : ∃ B12, X3.heap.size = B12 := ⟨_, rfl⟩
    have HX4 := Hid.mk (And.intro hX4 hB12)
    rw [hX4, hB12] at h4
    have HA4 := Hid.mk h4
    have HIP := Hid.mk (HPI.out.put HOK.out A (1, N))
    have zz : ((S.put A (1, N)).1 == (S.put A (1, N)).1) = true := by simp
    clear h4 hX4 hB12
    go_upto_region 16 with (fail)
    rw [HX4.out.1, HX4.out.2]
    clear k2
    have c0 := ((((((((HA4.out.drew.pick 7 rfl).pick 7 rfl).pick 7 rfl).pick 7 rfl).pick 7 rfl).pick 6 rfl).pick 6 rfl).pick 7 rfl)
    have k0 := HA4.out.cell (b := x) (j := 0) (List.Mem.tail _ (List.Mem.tail _ (List.Mem.tail _ (List.Mem.tail _ (List.Mem.tail _ (List.Mem.tail _ (List.Mem.tail _ (List.Mem.head _)))))))) rfl
    have k1 := HA4.out.cell (b := x) (j := 2) (List.Mem.tail _ (List.Mem.tail _ (List.Mem.tail _ (List.Mem.tail _ (List.Mem.tail _ (List.Mem.tail _ (List.Mem.tail _ (List.Mem.head _)))))))) rfl
    have k2 := HA4.out.cell (b := B12) (j := 0) (List.Mem.head _) rfl
    have k3 := HA4.out.cell (b := B12) (j := 1) (List.Mem.head _) rfl
    go_region_held3 (fun W' => W'.cell? ⟨x, 0, none⟩ = some (.pointer (some ⟨p, 0, none⟩)) ∧ W'.cell? ⟨x, 2, none⟩ = some (.pointer (some ⟨pr, 0, none⟩)) ∧ W'.cell? ⟨B12, 0, none⟩ = some (.int .i64 1) ∧ W'.cell? ⟨B12, 1, none⟩ = some (.int .i64 N)) (first | exact ⟨v0, v1, v2, v3⟩ | exact ⟨f0, f1, f2, f3⟩ | exact ⟨k0, k1, k2, k3⟩) (first | (go_at_call 17; refine (put_sep (w := w) (F := [bx B12 (.cells #[.int .i64 1, .int .i64 N] 29), bx B9 (.cells #[.int .i64 t1, .int .i64 t2] 39), lkA b p sz ca L, bx Bo (.cells #[.int .i64 3, .int .i64 N] 80), rsA pr S, qlA q pr sz ca L, bx x (pl24 p b pr q)]) c0 A 1 N).mono ?_; rintro e wx ⟨hx, rfl⟩; have f0 := hx.cell (b := x) (j := 0) (List.Mem.tail _ (List.Mem.tail _ (List.Mem.tail _ (List.Mem.tail _ (List.Mem.tail _ (List.Mem.tail _ (List.Mem.tail _ (List.Mem.head _)))))))) rfl; have f1 := hx.cell (b := x) (j := 2) (List.Mem.tail _ (List.Mem.tail _ (List.Mem.tail _ (List.Mem.tail _ (List.Mem.tail _ (List.Mem.tail _ (List.Mem.tail _ (List.Mem.head _)))))))) rfl; have f2 := hx.cell (b := B12) (j := 0) (List.Mem.tail _ (List.Mem.head _)) rfl; have f3 := hx.cell (b := B12) (j := 1) (List.Mem.tail _ (List.Mem.head _)) rfl) | (go_at_call 51; refine (rput_sep (w := w) (F := [spA p (S.put A (1, N)).2, bx B12 (.cells #[.int .i64 1, .int .i64 N] 29), bx B9 (.cells #[.int .i64 t1, .int .i64 t2] 39), lkA b p sz ca L, bx Bo (.cells #[.int .i64 3, .int .i64 N] 80), qlA q pr sz ca L, bx x (pl24 p b pr q)]) ((((((((hx.pick 7 rfl).pick 7 rfl).pick 6 rfl).pick 6 rfl).pick 6 rfl).pick 6 rfl).pick 6 rfl).pick 7 rfl) A 1 N HAT.out).mono ?_; rintro e wy ⟨hy, rfl⟩; have v0 := hy.cell (b := x) (j := 0) (List.Mem.tail _ (List.Mem.tail _ (List.Mem.tail _ (List.Mem.tail _ (List.Mem.tail _ (List.Mem.tail _ (List.Mem.tail _ (List.Mem.head _)))))))) rfl; have v1 := hy.cell (b := x) (j := 2) (List.Mem.tail _ (List.Mem.tail _ (List.Mem.tail _ (List.Mem.tail _ (List.Mem.tail _ (List.Mem.tail _ (List.Mem.tail _ (List.Mem.head _)))))))) rfl; have v2 := hy.cell (b := B12) (j := 0) (List.Mem.tail _ (List.Mem.tail _ (List.Mem.head _))) rfl; have v3 := hy.cell (b := B12) (j := 1) (List.Mem.tail _ (List.Mem.tail _ (List.Mem.head _))) rfl))
    all_goals
      have HF : Hid (Sep w [spA p (S.put A (1, N)).2, lkA b p sz ca L, rsA pr (S.put A (1, N)).2, qlA q pr sz ca L, bx x (pl24 p b pr q)] _) := ((((((((hy.lose 5).lose 3).lose 2).pick 4 rfl).pick 4 rfl).pick 2 rfl).pick 4 rfl).pick 4 rfl)
      clear c0 k0 k1 f0 f1 v0 v1 hx hy
      go_wp2_with fail
      go_ret
      exact ⟨rfl, _, _, _, _, _, _, HF.out, HIP.out⟩
end Go.Proofs.Ytkooogllajmkeaa
/- Have a play's space and link the same as the document's (24)? -/
namespace Go.Proofs.Ytkooogllajmkeaa
open Go.RowKit
set_option pp.deepTerms true
attribute [local go_sem ↓] Go.wp_at_zero Go.wp_at_succ
section
variable {w W : World} {F l : List Asr} {p pr q b : Nat} {S : Sp} {L : Lk} {sz ca : Int}
theorem do24_any {x k : Nat} {kd N : Int} (h : StP w x p b pr q sz ca S L W) (hI : PInv S L k) (ok : Spok S) (hk : k ≤ 1000) (hs : 1 ≤ sz ∧ sz ≤ 65536) (hN : I64 N) :
    Calls Try.prog 36 #[.pointer (some ⟨x, 0, none⟩), .agg #[.int .i64 kd, .int .i64 N]] W (DoP w x sz ca (k + 1)) := by
  by_cases h0 : kd = 0
  · subst h0; exact do24_k0 h hI hk hs
  by_cases h1 : kd = 1
  · subst h1; exact do24_k1 h hI ok hk
  by_cases h2 : kd = 2
  · subst h2; exact do24_k2 h hI ok hk
  by_cases h3 : kd = 3
  · subst h3; exact do24_k3 h hI ok hk hN
  by_cases h4 : kd = 4
  · subst h4; exact do24_k4 h hI ok hk
  by_cases h5 : kd = 5
  · subst h5; exact do24_k5 h hI ok hk
  exact do24_kx h hI ok hk h0 h1 h2 h3 h4 h5
theorem Sep.ok (h : Sep w l W) (hm : spA p S ∈ l) : Spok S := by
  obtain ⟨fs, q, -⟩ := h.mem hm
  have q' : Spc W p S fs := q
  exact q'.ok
theorem rs_row (h : Sep w l W) (hm : rsA pr S ∈ l) : ∃ ao c, W.cell? ⟨pr, 0, none⟩ = some (.slice ao (tells S.regs).length c) ∧ Rd W (.slice ao (tells S.regs).length c) (tells S.regs) := by
  obtain ⟨fs, ⟨rv, wv, ls, h2, ok, hwd, hr, hgs⟩, -⟩ := h.mem hm
  have := h2.row
  rw [gcells_tells, ← hr] at this
  have hR := Rd.of_row this (by rw [hr]; simp [tells])
  obtain ⟨ao, c, e⟩ := hR.shape
  subst e
  exact ⟨ao, c, h2.cell0, hR⟩
theorem ql_rows (h : Sep w l W) (hm : qlA q pr sz ca L ∈ l) : ∃ ao c ak ck, W.cell? ⟨q, 3, none⟩ = some (.slice ao L.live.length c) ∧ Rd W (.slice ao L.live.length c) L.live ∧ W.cell? ⟨q, 4, none⟩ = some (.slice ak L.kept.length ck) ∧ Rd W (.slice ak L.kept.length ck) L.kept := by
  obtain ⟨fs, ⟨lv, kv, f1, f2, rfl, ⟨-, hb⟩, ⟨f3, f4, rfl, ⟨-, h3⟩, ⟨-, h4⟩, -⟩, -⟩, -⟩ := h.mem hm
  obtain ⟨ao, c, rfl⟩ := own_shape h3
  obtain ⟨ak, ck, rfl⟩ := own_shape h4
  refine ⟨ao, c, ak, ck, by rw [cell_of_row W q 3 _ _ _ hb]; rfl, Rd.of_row h3 rfl, by rw [cell_of_row W q 4 _ _ _ hb]; rfl, Rd.of_row h4 rfl⟩
/-- a row as a block whose contents are no matter -/
theorem Sep.unrow {g m c n base : Nat} {T : TypeId} {xs : List Value} (h : Sep w (rw_ base T n (.slice (some ⟨g, 0, none⟩) m c) m xs :: F) W) : ∃ cur, m * n ≤ cur.size ∧ Sep w (bx g (.cells cur T) :: F) W := by
  have ho := h.owns (List.Mem.head _)
  obtain ⟨hl, ⟨q, -⟩ | ⟨g', cap, cur, q, hb, hg, h1, h2, h3, h4⟩⟩ := ho
  · simp at q
  · simp only [Value.slice.injEq, Option.some.injEq, Addr.mk.injEq, and_true, true_and] at q
    obtain ⟨rfl, rfl⟩ := q
    refine ⟨cur, by rw [h3]; exact Nat.mul_le_mul_right _ h1, h.turn (fun fs hf _ => ?_)⟩
    obtain ⟨rfl, -⟩ := hf
    exact ⟨[g], ⟨rfl, hg⟩, Kp.refl _ _, fun x hx => .inl (by simpa [Value.ownBlock] using hx)⟩
theorem regs_few (ok : Spok S) : (tells S.regs).length ≤ 4194304 := by
  obtain ⟨ls, hr, ok⟩ := ok
  rw [hr]
  simpa [tells] using ok.count
theorem regions_sep (h : Sep w l W) (hm : spA p S ∈ l) : Calls Try.prog 14 #[.pointer (some ⟨p, 0, none⟩)] W fun e w' => Below W.heap.size W w' ∧ ∃ ao c, e = .returned (.slice ao (tells S.regs).length c) ∧ Rd w' (.slice ao (tells S.regs).length c) (tells S.regs) := by
  obtain ⟨fs, q, -⟩ := h.mem hm
  have q' : Spc W p S fs := q
  refine (regions_spc q').mono ?_
  rintro e w' ⟨hb, v, rfl, hv, -⟩
  have hR := Rd.of_row hv (by simp [tells])
  obtain ⟨ao, c, rfl⟩ := hR.shape
  exact ⟨hb, ao, c, rfl, hR⟩
end
end Go.Proofs.Ytkooogllajmkeaa
