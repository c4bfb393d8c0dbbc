/- Parts Hb Hc, put together. -/
import Derived.Test.YtkooogllajmkeaaMo16
import Derived.Deep.RegionHeld3
import Derived.Deep.DrawnRows
import Derived.Deep.AppendLies
/- The document's Push (24). -/
namespace Go.Proofs.Ytkooogllajmkeaa
open Go.RowKit
set_option pp.deepTerms true
attribute [local go_sem ↓] Go.wp_at_zero Go.wp_at_succ
section
variable {w W : World} {F : List Asr} {q pr : Nat} {S : Sp} {L : Lk} {sz ca : Int}
set_option maxRecDepth 100000 in
set_option maxHeartbeats 4000000 in
theorem qpush_no (h : Sep w (qlA q pr sz ca L :: F) W) (m : Int) (hm : m < 1 ∨ 65536 < m) : Calls Try.prog 69 #[.pointer (some ⟨q, 0, none⟩), .int .i64 m] W fun e w' => Sep w (qlA q pr sz ca L :: F) w' ∧ e = .returned (.tuple #[.agg #[.int .i64 0, .int .i64 0], .int .i64 240]) := by
  have HH := Hid.mk h
  have hb0 := fun o => (Below.refl W.heap.size W).alloc (Nat.le_refl _) o
  clear h
  rcases Int.lt_or_le m 1 with q | q
  · have d1 : decide (m < 1) = true := by simpa using q
    clear hm q
    go_enter Try.func69, Try.ntmps69
    go_wp2_with fail
    refine bodyPost_ret (v := .tuple #[.agg #[.int .i64 0, .int .i64 0], .int .i64 240]) (by simp [results, Try.results69, go_sem]) rfl ⟨HH.out.keep (hb0 _), rfl⟩
  · have d1 : decide (m < 1) = false := by simpa using q
    have d2 : decide (m > 65536) = true := by simp; omega
    clear hm q
    go_enter Try.func69, Try.ntmps69
    go_wp2_with fail
    refine bodyPost_ret (v := .tuple #[.agg #[.int .i64 0, .int .i64 0], .int .i64 240]) (by simp [results, Try.results69, go_sem]) rfl ⟨HH.out.keep (hb0 _), rfl⟩
end
def QPush (w : World) (q pr : Nat) (sz ca m : Int) (R : Sp) (L : Lk) (F : List Asr) (e : Ending) (w' : World) : Prop :=
  Sep w (rsA pr (pushL R L sz m).2.1 :: qlA q pr sz ca (pushL R L sz m).2.2 :: F) w' ∧ e = .returned (.tuple #[.agg #[.int .i64 (pushL R L sz m).1.1.1, .int .i64 (pushL R L sz m).1.1.2], .int .i64 (pushL R L sz m).1.2])
theorem rd_take {W : World} {b : Nat} {g n c k : Nat} {xs : List (Int × Int)} (h : W.ownsRow b 39 2 (.slice (some ⟨g, 0, none⟩) n c) n (wcells xs)) (hn : xs.length = n) (hk : k ≤ n) : Rd W (.slice (some ⟨g, 0, none⟩) k c) (xs.take k) := by
  have h1 := row_cut h hk
  rw [← wcells_take] at h1
  have hl : (xs.take k).length = k := by rw [List.length_take, hn]; omega
  exact Rd.of_row (v := .slice (some ⟨g, 0, none⟩) k c) (by rw [hl] at *; exact h1) (by rw [hl])
theorem rd_drop {W : World} {b : Nat} {g n c k : Nat} {xs : List (Int × Int)} (h : W.ownsRow b 39 2 (.slice (some ⟨g, 0, none⟩) n c) n (wcells xs)) (hn : xs.length = n) (hk : k ≤ n) :
    ∃ ad : Addr, (if c = k then some (⟨g, 0, none⟩ : Addr) else some ⟨g, k * 2, none⟩) = some ad ∧ Rd W (.slice (some ad) (n - k) (c - k)) (xs.drop k) := by
  have hl : (xs.drop k).length = n - k := by rw [List.length_drop, hn]
  obtain ⟨hc, hg⟩ : n ≤ c ∧ g < W.heap.size := by
    rcases h.2 with ⟨q, _⟩ | ⟨g', cap', cur, q, _, hg, hc, _⟩
    · simp at q
    · simp only [Value.slice.injEq, Option.some.injEq, Addr.mk.injEq, and_true, true_and] at q
      obtain ⟨rfl, rfl⟩ := q
      exact ⟨hc, lt_of_heap hg⟩
  by_cases hck : c = k
  · refine ⟨⟨g, 0, none⟩, if_pos hck, .inr ⟨g, 0, c - k, by rw [hl], hg, fun j hj => ?_⟩⟩
    rw [hl] at hj; omega
  · refine ⟨⟨g, k * 2, none⟩, if_neg hck, .inr ⟨g, k * 2, c - k, by rw [hl], hg, fun j hj => ?_⟩⟩
    rw [hl] at hj
    have hjk : k + j < xs.length := by omega
    rw [List.getElem_drop]
    have q1 := row_cell h (j := (k + j) * 2) (v := .int .i64 xs[k + j].1) (wcells_fst hjk)
    have q2 := row_cell h (j := (k + j) * 2 + 1) (v := .int .i64 xs[k + j].2) (wcells_snd hjk)
    rw [show (k + j) * 2 = k * 2 + j * 2 by omega] at q1 q2
    exact ⟨q1, q2⟩
section
variable {w W : World} {F : List Asr} {q pr : Nat} {S R : Sp} {L : Lk} {sz ca : Int}
set_option maxRecDepth 100000 in
set_option maxHeartbeats 4000000 in
theorem qpush_ok (h : Sep w (rsA pr R :: qlA q pr sz ca L :: F) W) (m : Int) (hm : 1 ≤ m ∧ m ≤ 65536) (hs : 1 ≤ sz ∧ sz ≤ 65536) (hll : L.live.length ≤ 1000000) (hkl : L.kept.length ≤ 1000000) (hla : R.last ≤ 1152921504606846976) :
    Calls Try.prog 69 #[.pointer (some ⟨q, 0, none⟩), .int .i64 m] W (QPush w q pr sz ca m R L F) := by
  obtain ⟨i0, hi0, hz0, hz1, hz2⟩ := info_parts infoR
  have hA : Sep w (qlA q pr sz ca L :: bx W.heap.size (.cells #[.int .i64 0, .int .i64 0] 39) :: rsA pr R :: F) (W.alloc (.cells #[.int .i64 0, .int .i64 0] 39)) := (((h.pick 1 rfl).alloc (.cells #[.int .i64 0, .int .i64 0] 39)).pick 1 rfl)
  obtain ⟨ao, c, ak, ck, hX⟩ := ql_open hA
  have hwW : w.heap.size ≤ W.heap.size := h.size.size
  have c1 := hX.cell (b := q) (j := 1) (List.Mem.head _) rfl
  have c3 := hX.cell (b := q) (j := 3) (List.Mem.head _) rfl
  have c4 := hX.cell (b := q) (j := 4) (List.Mem.head _) rfl
  have hkr := hX.owns (base := 0) (T := 39) (n := 2) (v := .slice ak L.kept.length ck) (m := L.kept.length) (xs := wcells L.kept) (List.Mem.tail _ (List.Mem.tail _ (List.Mem.head _)))
  have d1 : decide (m < 1) = false := by simp; omega
  have d2 : decide (m > 65536) = false := by simp; omega
  obtain ⟨n, hn⟩ : ∃ n, L.kept.length = n := ⟨_, rfl⟩
  rw [hn] at c4 hkr hX hkl
  have HN := Hid.mk hn
  have HKR := Hid.mk hkr
  have HX := Hid.mk hX
  have HH := Hid.mk h
  clear hA hX h hn hkr
  obtain ⟨X, hXe⟩ : ∃ X, W.alloc (.cells #[.int .i64 0, .int .i64 0] 39) = X := ⟨_, rfl⟩
  obtain ⟨B4, hB4⟩ : ∃ B4, W.heap.size = B4 := ⟨_, rfl⟩
  have HXB := Hid.mk (And.intro hXe hB4)
  rw [hXe] at c1 c3 c4 HKR HX
  rw [hB4] at HX
  clear hXe hB4
  go_enter Try.func69, Try.ntmps69
  go_upto_region 1 with (fail)
  rw [HXB.out.1, HXB.out.2]
  go_wp2_with fail
  go_loop [6] (fun i => ∃ k : Nat, k ≤ n ∧ i = .int .i64 ((k : Int) - 1) ∧ Hid (∀ j (hj : j < L.kept.length), k ≤ j → ¬ m ≤ L.kept[j].2)) (fun i => (intOf i + 1).toNat)
  case atStart => exact ⟨n, Nat.le_refl _, rfl, fun j hj hk => absurd hj (by have := HN.out; omega)⟩
  case round =>
    obtain ⟨k, hk, rfl, HNO⟩ := hrel
    rcases Nat.eq_zero_or_pos k with hk0 | hk0
    · subst hk0
      have hf := fit_no (xs := L.kept) (m := m) (fun j hj => HNO.out j hj (Nat.zero_le _))
      have HF := Hid.mk hf
      clear hf HNO hk
      by_cases hsm : sz < m
      · have z1 : decide (m > sz) = true := by simpa using hsm
        have HT := Hid.mk (HX.out.pick 4 rfl)
        have c0 := HX.out.cell (b := q) (j := 0) (List.Mem.head _) rfl
        have hT := rtake_sep HT.out m hla
        obtain ⟨⟨nb, er⟩, ht⟩ : ∃ t, (R.take m).1 = t := ⟨_, rfl⟩
        have hp : pushL R L sz m = if er = 0 then (((nb, m), 0), (R.take m).2, ⟨L.live ++ [(nb, m)], L.kept⟩) else (((0, 0), er), (R.take m).2, L) := by
          unfold pushL
          rw [if_neg (by omega), HF.out]
          simp only
          rw [show max sz m = m by omega, ht]
        obtain ⟨R', hR'⟩ : ∃ R', (R.take m).2 = R' := ⟨_, rfl⟩
        rw [ht, hR'] at hT
        rw [hR'] at hp
        have HP := Hid.mk hp
        have HT2 := Hid.mk hT
        clear ht hR' hp hT HT
        go_wp2_with fail
        refine HT2.out.mono ?_
        rintro e w1 ⟨h1, rfl⟩
        clear HT2
        by_cases he : er = 0
        · subst he
          have z2 : ((0 : Int) != 0) = false := rfl
          have P0 : Sep w (rw_ 0 39 2 (.slice ao L.live.length c) L.live.length (wcells L.live) :: bx q (.cells #[.pointer (some ⟨pr, 0, none⟩), .int .i64 sz, .int .i64 ca, .slice ao L.live.length c, .slice ak n ck] 131) :: bx w1.heap.size (.cells #[.int .i64 nb, .int .i64 m] 39) :: rsA pr R' :: rw_ 0 39 2 (.slice ak n ck) n (wcells L.kept) :: bx B4 (.cells #[.int .i64 0, .int .i64 0] 39) :: F) (w1.alloc (.cells #[.int .i64 nb, .int .i64 m] 39)) := ((h1.alloc (.cells #[.int .i64 nb, .int .i64 m] 39)).pick 2 rfl).pick 3 rfl
          obtain ⟨X2, hX2⟩ : ∃ X2, w1.alloc (.cells #[.int .i64 nb, .int .i64 m] 39) = X2 := ⟨_, rfl⟩
          obtain ⟨B7, hB7⟩ : ∃ B7, w1.heap.size = B7 := ⟨_, rfl⟩
          have HX2 := Hid.mk (And.intro hX2 hB7)
          rw [hX2] at P0
          rw [hB7] at P0
          have HP0 := Hid.mk P0
          clear hX2 hB7 P0 h1 c0 c1 c3 c4
          go_upto_region 20 with (fail)
          rw [HX2.out.1, HX2.out.2]
          have hS := HP0.out
          have s0 := hS.cell (b := q) (j := 3) (List.Mem.tail _ (List.Mem.head _)) rfl
          have s1 := hS.cell (b := B7) (j := 0) (List.Mem.tail _ (List.Mem.tail _ (List.Mem.head _))) rfl
          have s2 := hS.cell (b := B7) (j := 1) (List.Mem.tail _ (List.Mem.tail _ (List.Mem.head _))) rfl
          have HROW := Hid.mk (hS.owns (List.Mem.head _))
          have HS0 := Hid.mk hS
          clear hS
          refine wp_region_L 10 (fun W' => W'.cell? ⟨q, 3, none⟩ = some (.slice ao L.live.length c) ∧ W'.cell? ⟨B7, 0, none⟩ = some (.int .i64 nb) ∧ W'.cell? ⟨B7, 1, none⟩ = some (.int .i64 m)) (by kernel_rfl) ⟨s0, s1, s2⟩ (fun hHeld => ?_)
          refine wpAnyL_take (i := 0) (v := ?_) rfl (by kernel_rfl) (by kernel_rfl) (by kernel_rfl) (by kernel_rfl) (fun _ _ _ h => h) (Or.inl ⟨by rfl, ?_⟩) (by assumption) ?_
          rotate_left
          · (intro w hSw; (try dsimp only at hSw); go_simp <;> with_reducible rfl)
          (try simp only [Act.put, List.getElem_toArray, List.getElem_cons_zero, List.getElem_cons_succ, List.setIfInBounds_toArray, List.set_cons_zero, List.set_cons_succ])
          refine wpAnyL_take (i := 1) (v := ?_) rfl (by kernel_rfl) (by kernel_rfl) (by kernel_rfl) (by kernel_rfl) (fun _ _ _ h => h) (Or.inl ⟨by rfl, ?_⟩) (by assumption) ?_
          rotate_left
          · (intro w hSw; (try dsimp only at hSw); go_simp <;> with_reducible rfl)
          (try simp only [Act.put, List.getElem_toArray, List.getElem_cons_zero, List.getElem_cons_succ, List.setIfInBounds_toArray, List.set_cons_zero, List.set_cons_succ])
          refine wpAnyL_take (i := 2) (v := ?_) rfl (by kernel_rfl) (by kernel_rfl) (by kernel_rfl) (by kernel_rfl) (fun _ _ _ h => h) (Or.inl ⟨by rfl, ?_⟩) (by assumption) ?_
          rotate_left
          · (intro w hSw; (try dsimp only at hSw); go_simp <;> with_reducible rfl)
          (try simp only [Act.put, List.getElem_toArray, List.getElem_cons_zero, List.getElem_cons_succ, List.setIfInBounds_toArray, List.set_cons_zero, List.set_cons_succ])
          refine wpAnyL_take (i := 3) (v := ?_) rfl (by kernel_rfl) (by kernel_rfl) (by kernel_rfl) (by kernel_rfl) (fun _ _ _ h => h) (Or.inl ⟨by rfl, ?_⟩) (by assumption) ?_
          rotate_left
          · (intro w hSw; (try dsimp only at hSw); go_simp <;> with_reducible rfl)
          (try simp only [Act.put, List.getElem_toArray, List.getElem_cons_zero, List.getElem_cons_succ, List.setIfInBounds_toArray, List.set_cons_zero, List.set_cons_succ])
          refine wpAnyL_take (i := 4) (v := ?_) rfl (by kernel_rfl) (by kernel_rfl) (by kernel_rfl) (by kernel_rfl) (fun _ _ _ h => h) (Or.inl ⟨by rfl, ?_⟩) (by assumption) ?_
          rotate_left
          · (intro w hSw; (try dsimp only at hSw); go_simp <;> with_reducible rfl)
          (try simp only [Act.put, List.getElem_toArray, List.getElem_cons_zero, List.getElem_cons_succ, List.setIfInBounds_toArray, List.set_cons_zero, List.set_cons_succ])
          refine wpAnyL_take (i := 5) (v := ?_) rfl (by kernel_rfl) (by kernel_rfl) (by kernel_rfl) (by kernel_rfl) (fun _ _ _ h => h) (Or.inl ⟨by rfl, ?_⟩) (by assumption) ?_
          rotate_left
          · (intro w hSw; (try dsimp only at hSw); go_simp <;> with_reducible rfl)
          (try simp only [Act.put, List.getElem_toArray, List.getElem_cons_zero, List.getElem_cons_succ, List.setIfInBounds_toArray, List.set_cons_zero, List.set_cons_succ])
          refine wpAnyL_only (i := 6) (by kernel_rfl) rfl (fun K hK => ?_)
          go_simp
          refine hK _ _ (fun _ => ⟨alloc_cell s0, alloc_cell s1, alloc_cell s2⟩) (fun hHeld0 => ?_)
          have hHeld := hHeld0 rfl
          clear hK K hHeld0
          (try simp only [Act.put, List.getElem_toArray, List.getElem_cons_zero, List.getElem_cons_succ, List.setIfInBounds_toArray, List.set_cons_zero, List.set_cons_succ])
          refine wpAnyL_only (i := 7) (by kernel_rfl) rfl (fun K hK => ?_)
          refine step_append_lies _ (by rfl) _ _ _ (by rfl) 0 39 i0 (.agg #[.int .i64 0, .int .i64 0]) 2 16 Try.underlying36 hi0 hz0 hz1 hz2 rfl (by omega) (.slice ao L.live.length c) L.live.length (wcells L.live) (by rfl) ((HROW.out.alloc _).drew) ⟨X2.heap.size, 0, none⟩ 1 1 [.int .i64 nb, .int .i64 m] (by rfl) (by rfl) (two_new _ _ _ _) (by simp [Value.oneCell']) (by omega) (by unfold maxLen; omega) (by omega) (Nat.zero_le _) (X2.heap.size + 1) (by simp) ?_
          intro g2 cap2 w2 hown2 hg2 hat2 hlt2
          have HG := Hid.mk (HS0.out.grown (v' := .slice (some ⟨g2, 0, none⟩) (L.live.length + 1) cap2) (ob := .cells #[.int .i64 nb, .int .i64 m] 39) hown2 ⟨hg2.os, hg2.tape, hg2.output, hg2.size, hg2.block⟩ (hat2.imp (fun e => e.symm) (fun e => congrArg some e)))
          have t0 := HG.out.cell (b := q) (j := 3) (List.Mem.tail _ (List.Mem.head _)) rfl
          have t1 := HG.out.cell (b := B7) (j := 0) (List.Mem.tail _ (List.Mem.tail _ (List.Mem.head _))) rfl
          have t2 := HG.out.cell (b := B7) (j := 1) (List.Mem.tail _ (List.Mem.tail _ (List.Mem.head _))) rfl
          have tf := HG.out.free (b := q) (List.Mem.tail _ (List.Mem.head _)) 3
          refine hK _ _ (fun _ => ⟨t0, t1, t2⟩) (fun hHeld0 => ?_)
          have hHeld := hHeld0 rfl
          clear hK K hHeld0
          (try simp only [Act.put, List.getElem_toArray, List.getElem_cons_zero, List.getElem_cons_succ, List.setIfInBounds_toArray, List.set_cons_zero, List.set_cons_succ])
          refine wpAnyL_only (i := 8) (by kernel_rfl) rfl (fun K hK => ?_)
          go_simp
          refine hK _ _ (fun _ => ⟨t0, t1, t2⟩) (fun hHeld0 => ?_)
          have hHeld := hHeld0 rfl
          clear hK K hHeld0
          (try simp only [Act.put, List.getElem_toArray, List.getElem_cons_zero, List.getElem_cons_succ, List.setIfInBounds_toArray, List.set_cons_zero, List.set_cons_succ])
          refine wpAnyL_only (i := 9) (by kernel_rfl) rfl (fun K hK => ?_)
          go_simp
          refine hK _ _ (fun _ => ⟨t0, t1, t2⟩) (fun hHeld0 => ?_)
          have hHeld := hHeld0 rfl
          clear hK K hHeld0
          (try simp only [Act.put, List.getElem_toArray, List.getElem_cons_zero, List.getElem_cons_succ, List.setIfInBounds_toArray, List.set_cons_zero, List.set_cons_succ])
          refine wpAnyL_only (i := 10) (by kernel_rfl) rfl (fun K hK => ?_)
          go_simp
          refine hK _ _ (fun q => by cases q) (fun hHeld0 => ?_)
          clear hK K hHeld0
          refine wpAnyL_done (by kernel_rfl) ?_
          clear hown2 hg2 hat2 hlt2 t0 t1 t2 tf s0 s1 s2 HROW HS0
          have P12 : Sep w (bx B4 (.cells #[.int .i64 0, .int .i64 0] 39) :: bx q (.cells #[.pointer (some ⟨pr, 0, none⟩), .int .i64 sz, .int .i64 ca, .slice (some ⟨g2, 0, none⟩) (L.live.length + 1) cap2, .slice ak n ck] 131) :: rw_ 0 39 2 (.slice (some ⟨g2, 0, none⟩) (L.live.length + 1) cap2) (L.live.length + 1) (wcells L.live ++ [.int .i64 nb, .int .i64 m]) ::
            bx B7 (.cells #[.int .i64 nb, .int .i64 m] 39) :: rsA pr R' :: rw_ 0 39 2 (.slice ak n ck) n (wcells L.kept) :: F) (w2.setCell ⟨q, 3, none⟩ (.slice (some ⟨g2, 0, none⟩) (L.live.length + 1) cap2)) := ((HG.out.pick 1 rfl).store 3 _).pick 5 rfl
          clear HG
          have b0 := P12.cell (b := B7) (j := 0) (List.Mem.tail _ (List.Mem.tail _ (List.Mem.tail _ (List.Mem.head _)))) rfl
          have b1 := P12.cell (b := B7) (j := 1) (List.Mem.tail _ (List.Mem.tail _ (List.Mem.tail _ (List.Mem.head _)))) rfl
          have r0 := P12.cell (b := B4) (j := 0) (List.Mem.head _) rfl
          have r1 := P12.cell (b := B4) (j := 1) (List.Mem.head _) rfl
          have rf := P12.free (b := B4) (List.Mem.head _)
          have HP12 := Hid.mk P12
          clear P12
          go_wp2_with fail
          refine bodyPost_ret (v := .tuple #[.agg #[.int .i64 nb, .int .i64 m], .int .i64 0]) (by simp [results, Try.results69, go_sem, r0, r1]) rfl ?_
          have P13 : Sep w (bx q (.cells #[.pointer (some ⟨pr, 0, none⟩), .int .i64 sz, .int .i64 ca, .slice (some ⟨g2, 0, none⟩) (L.live.length + 1) cap2, .slice ak n ck] 131) :: rw_ 0 39 2 (.slice (some ⟨g2, 0, none⟩) (L.live.length + 1) cap2) (L.live.length + 1) (wcells L.live ++ [.int .i64 nb, .int .i64 m]) ::
            rw_ 0 39 2 (.slice ak n ck) n (wcells L.kept) :: rsA pr R' :: F) _ := (((((HP12.out.store 0 (.int .i64 nb)).store 1 (.int .i64 m)).tl.lose 2).pick 3 rfl).pick 2 rfl).pick 2 rfl
          have e1 : wcells L.live ++ [Value.int .i64 nb, .int .i64 m] = wcells (L.live ++ [(nb, m)]) := by simp [wcells, wcell]
          rw [e1] at P13
          unfold QPush
          rw [HP.out, if_pos trivial]
          exact ⟨(ql_close (L := ⟨L.live ++ [(nb, m)], L.kept⟩) P13 (by simp) HN.out.symm).pick 1 rfl, rfl⟩
        · have z2 : (er != 0) = true := by simpa using he
          have r0 := h1.cell (b := B4) (j := 0) (List.Mem.tail _ (List.Mem.tail _ (List.Mem.tail _ (List.Mem.tail _ (List.Mem.head _))))) rfl
          have r1 := h1.cell (b := B4) (j := 1) (List.Mem.tail _ (List.Mem.tail _ (List.Mem.tail _ (List.Mem.tail _ (List.Mem.head _))))) rfl
          have rf := h1.free (b := B4) (List.Mem.tail _ (List.Mem.tail _ (List.Mem.tail _ (List.Mem.tail _ (List.Mem.head _)))))
          have HP1 := Hid.mk h1
          clear h1 c0 c1 c3 c4
          go_wp2_with fail
          refine bodyPost_ret (v := .tuple #[.agg #[.int .i64 0, .int .i64 0], .int .i64 er]) (by simp [results, Try.results69, go_sem, r0, r1]) rfl ?_
          have P13 : Sep w (bx q (.cells #[.pointer (some ⟨pr, 0, none⟩), .int .i64 sz, .int .i64 ca, .slice ao L.live.length c, .slice ak n ck] 131) :: rw_ 0 39 2 (.slice ao L.live.length c) L.live.length (wcells L.live) ::
            rw_ 0 39 2 (.slice ak n ck) n (wcells L.kept) :: rsA pr R' :: F) _ := (((((HP1.out.pick 4 rfl).store 0 (.int .i64 0)).store 1 (.int .i64 0)).tl.pick 3 rfl).pick 3 rfl).pick 3 rfl
          unfold QPush
          rw [HP.out, if_neg he]
          exact ⟨(ql_close (L := L) P13 rfl HN.out.symm).pick 1 rfl, rfl⟩
      · have z1 : decide (m > sz) = false := by simpa using hsm
        have HT := Hid.mk (HX.out.pick 4 rfl)
        have c0 := HX.out.cell (b := q) (j := 0) (List.Mem.head _) rfl
        have hT := rtake_sep HT.out sz hla
        obtain ⟨⟨nb, er⟩, ht⟩ : ∃ t, (R.take sz).1 = t := ⟨_, rfl⟩
        have hp : pushL R L sz m = if er = 0 then (((nb, sz), 0), (R.take sz).2, ⟨L.live ++ [(nb, sz)], L.kept⟩) else (((0, 0), er), (R.take sz).2, L) := by
          unfold pushL
          rw [if_neg (by omega), HF.out]
          simp only
          rw [show max sz m = sz by omega, ht]
        obtain ⟨R', hR'⟩ : ∃ R', (R.take sz).2 = R' := ⟨_, rfl⟩
        rw [ht, hR'] at hT
        rw [hR'] at hp
        have HP := Hid.mk hp
        have HT2 := Hid.mk hT
        clear ht hR' hp hT HT
        go_wp2_with fail
        refine HT2.out.mono ?_
        rintro e w1 ⟨h1, rfl⟩
        clear HT2
        by_cases he : er = 0
        · subst he
          have z2 : ((0 : Int) != 0) = false := rfl
          have P0 : Sep w (rw_ 0 39 2 (.slice ao L.live.length c) L.live.length (wcells L.live) :: bx q (.cells #[.pointer (some ⟨pr, 0, none⟩), .int .i64 sz, .int .i64 ca, .slice ao L.live.length c, .slice ak n ck] 131) :: bx w1.heap.size (.cells #[.int .i64 nb, .int .i64 sz] 39) :: rsA pr R' :: rw_ 0 39 2 (.slice ak n ck) n (wcells L.kept) :: bx B4 (.cells #[.int .i64 0, .int .i64 0] 39) :: F) (w1.alloc (.cells #[.int .i64 nb, .int .i64 sz] 39)) := ((h1.alloc (.cells #[.int .i64 nb, .int .i64 sz] 39)).pick 2 rfl).pick 3 rfl
          obtain ⟨X2, hX2⟩ : ∃ X2, w1.alloc (.cells #[.int .i64 nb, .int .i64 sz] 39) = X2 := ⟨_, rfl⟩
          obtain ⟨B7, hB7⟩ : ∃ B7, w1.heap.size = B7 := ⟨_, rfl⟩
          have HX2 := Hid.mk (And.intro hX2 hB7)
          rw [hX2] at P0
          rw [hB7] at P0
          have HP0 := Hid.mk P0
          clear hX2 hB7 P0 h1 c0 c1 c3 c4
          go_upto_region 20 with (fail)
          rw [HX2.out.1, HX2.out.2]
          have hS := HP0.out
          have s0 := hS.cell (b := q) (j := 3) (List.Mem.tail _ (List.Mem.head _)) rfl
          have s1 := hS.cell (b := B7) (j := 0) (List.Mem.tail _ (List.Mem.tail _ (List.Mem.head _))) rfl
          have s2 := hS.cell (b := B7) (j := 1) (List.Mem.tail _ (List.Mem.tail _ (List.Mem.head _))) rfl
          have HROW := Hid.mk (hS.owns (List.Mem.head _))
          have HS0 := Hid.mk hS
          clear hS
          refine wp_region_L 10 (fun W' => W'.cell? ⟨q, 3, none⟩ = some (.slice ao L.live.length c) ∧ W'.cell? ⟨B7, 0, none⟩ = some (.int .i64 nb) ∧ W'.cell? ⟨B7, 1, none⟩ = some (.int .i64 sz)) (by kernel_rfl) ⟨s0, s1, s2⟩ (fun hHeld => ?_)
          refine wpAnyL_take (i := 0) (v := ?_) rfl (by kernel_rfl) (by kernel_rfl) (by kernel_rfl) (by kernel_rfl) (fun _ _ _ h => h) (Or.inl ⟨by rfl, ?_⟩) (by assumption) ?_
          rotate_left
          · (intro w hSw; (try dsimp only at hSw); go_simp <;> with_reducible rfl)
          (try simp only [Act.put, List.getElem_toArray, List.getElem_cons_zero, List.getElem_cons_succ, List.setIfInBounds_toArray, List.set_cons_zero, List.set_cons_succ])
          refine wpAnyL_take (i := 1) (v := ?_) rfl (by kernel_rfl) (by kernel_rfl) (by kernel_rfl) (by kernel_rfl) (fun _ _ _ h => h) (Or.inl ⟨by rfl, ?_⟩) (by assumption) ?_
          rotate_left
          · (intro w hSw; (try dsimp only at hSw); go_simp <;> with_reducible rfl)
          (try simp only [Act.put, List.getElem_toArray, List.getElem_cons_zero, List.getElem_cons_succ, List.setIfInBounds_toArray, List.set_cons_zero, List.set_cons_succ])
          refine wpAnyL_take (i := 2) (v := ?_) rfl (by kernel_rfl) (by kernel_rfl) (by kernel_rfl) (by kernel_rfl) (fun _ _ _ h => h) (Or.inl ⟨by rfl, ?_⟩) (by assumption) ?_
          rotate_left
          · (intro w hSw; (try dsimp only at hSw); go_simp <;> with_reducible rfl)
          (try simp only [Act.put, List.getElem_toArray, List.getElem_cons_zero, List.getElem_cons_succ, List.setIfInBounds_toArray, List.set_cons_zero, List.set_cons_succ])
          refine wpAnyL_take (i := 3) (v := ?_) rfl (by kernel_rfl) (by kernel_rfl) (by kernel_rfl) (by kernel_rfl) (fun _ _ _ h => h) (Or.inl ⟨by rfl, ?_⟩) (by assumption) ?_
          rotate_left
          · (intro w hSw; (try dsimp only at hSw); go_simp <;> with_reducible rfl)
          (try simp only [Act.put, List.getElem_toArray, List.getElem_cons_zero, List.getElem_cons_succ, List.setIfInBounds_toArray, List.set_cons_zero, List.set_cons_succ])
          refine wpAnyL_take (i := 4) (v := ?_) rfl (by kernel_rfl) (by kernel_rfl) (by kernel_rfl) (by kernel_rfl) (fun _ _ _ h => h) (Or.inl ⟨by rfl, ?_⟩) (by assumption) ?_
          rotate_left
          · (intro w hSw; (try dsimp only at hSw); go_simp <;> with_reducible rfl)
          (try simp only [Act.put, List.getElem_toArray, List.getElem_cons_zero, List.getElem_cons_succ, List.setIfInBounds_toArray, List.set_cons_zero, List.set_cons_succ])
          refine wpAnyL_take (i := 5) (v := ?_) rfl (by kernel_rfl) (by kernel_rfl) (by kernel_rfl) (by kernel_rfl) (fun _ _ _ h => h) (Or.inl ⟨by rfl, ?_⟩) (by assumption) ?_
          rotate_left
          · (intro w hSw; (try dsimp only at hSw); go_simp <;> with_reducible rfl)
          (try simp only [Act.put, List.getElem_toArray, List.getElem_cons_zero, List.getElem_cons_succ, List.setIfInBounds_toArray, List.set_cons_zero, List.set_cons_succ])
          refine wpAnyL_only (i := 6) (by kernel_rfl) rfl (fun K hK => ?_)
          go_simp
          refine hK _ _ (fun _ => ⟨alloc_cell s0, alloc_cell s1, alloc_cell s2⟩) (fun hHeld0 => ?_)
          have hHeld := hHeld0 rfl
          clear hK K hHeld0
          (try simp only [Act.put, List.getElem_toArray, List.getElem_cons_zero, List.getElem_cons_succ, List.setIfInBounds_toArray, List.set_cons_zero, List.set_cons_succ])
          refine wpAnyL_only (i := 7) (by kernel_rfl) rfl (fun K hK => ?_)
          refine step_append_lies _ (by rfl) _ _ _ (by rfl) 0 39 i0 (.agg #[.int .i64 0, .int .i64 0]) 2 16 Try.underlying36 hi0 hz0 hz1 hz2 rfl (by omega) (.slice ao L.live.length c) L.live.length (wcells L.live) (by rfl) ((HROW.out.alloc _).drew) ⟨X2.heap.size, 0, none⟩ 1 1 [.int .i64 nb, .int .i64 sz] (by rfl) (by rfl) (two_new _ _ _ _) (by simp [Value.oneCell']) (by omega) (by unfold maxLen; omega) (by omega) (Nat.zero_le _) (X2.heap.size + 1) (by simp) ?_
          intro g2 cap2 w2 hown2 hg2 hat2 hlt2
          have HG := Hid.mk (HS0.out.grown (v' := .slice (some ⟨g2, 0, none⟩) (L.live.length + 1) cap2) (ob := .cells #[.int .i64 nb, .int .i64 sz] 39) hown2 ⟨hg2.os, hg2.tape, hg2.output, hg2.size, hg2.block⟩ (hat2.imp (fun e => e.symm) (fun e => congrArg some e)))
          have t0 := HG.out.cell (b := q) (j := 3) (List.Mem.tail _ (List.Mem.head _)) rfl
          have t1 := HG.out.cell (b := B7) (j := 0) (List.Mem.tail _ (List.Mem.tail _ (List.Mem.head _))) rfl
          have t2 := HG.out.cell (b := B7) (j := 1) (List.Mem.tail _ (List.Mem.tail _ (List.Mem.head _))) rfl
          have tf := HG.out.free (b := q) (List.Mem.tail _ (List.Mem.head _)) 3
          refine hK _ _ (fun _ => ⟨t0, t1, t2⟩) (fun hHeld0 => ?_)
          have hHeld := hHeld0 rfl
          clear hK K hHeld0
          (try simp only [Act.put, List.getElem_toArray, List.getElem_cons_zero, List.getElem_cons_succ, List.setIfInBounds_toArray, List.set_cons_zero, List.set_cons_succ])
          refine wpAnyL_only (i := 8) (by kernel_rfl) rfl (fun K hK => ?_)
          go_simp
          refine hK _ _ (fun _ => ⟨t0, t1, t2⟩) (fun hHeld0 => ?_)
          have hHeld := hHeld0 rfl
          clear hK K hHeld0
          (try simp only [Act.put, List.getElem_toArray, List.getElem_cons_zero, List.getElem_cons_succ, List.setIfInBounds_toArray, List.set_cons_zero, List.set_cons_succ])
          refine wpAnyL_only (i := 9) (by kernel_rfl) rfl (fun K hK => ?_)
          go_simp
          refine hK _ _ (fun _ => ⟨t0, t1, t2⟩) (fun hHeld0 => ?_)
          have hHeld := hHeld0 rfl
          clear hK K hHeld0
          (try simp only [Act.put, List.getElem_toArray, List.getElem_cons_zero, List.getElem_cons_succ, List.setIfInBounds_toArray, List.set_cons_zero, List.set_cons_succ])
          refine wpAnyL_only (i := 10) (by kernel_rfl) rfl (fun K hK => ?_)
          go_simp
          refine hK _ _ (fun q => by cases q) (fun hHeld0 => ?_)
          clear hK K hHeld0
          refine wpAnyL_done (by kernel_rfl) ?_
          clear hown2 hg2 hat2 hlt2 t0 t1 t2 tf s0 s1 s2 HROW HS0
          have P12 : Sep w (bx B4 (.cells #[.int .i64 0, .int .i64 0] 39) :: bx q (.cells #[.pointer (some ⟨pr, 0, none⟩), .int .i64 sz, .int .i64 ca, .slice (some ⟨g2, 0, none⟩) (L.live.length + 1) cap2, .slice ak n ck] 131) :: rw_ 0 39 2 (.slice (some ⟨g2, 0, none⟩) (L.live.length + 1) cap2) (L.live.length + 1) (wcells L.live ++ [.int .i64 nb, .int .i64 sz]) ::
            bx B7 (.cells #[.int .i64 nb, .int .i64 sz] 39) :: rsA pr R' :: rw_ 0 39 2 (.slice ak n ck) n (wcells L.kept) :: F) (w2.setCell ⟨q, 3, none⟩ (.slice (some ⟨g2, 0, none⟩) (L.live.length + 1) cap2)) := ((HG.out.pick 1 rfl).store 3 _).pick 5 rfl
          clear HG
          have b0 := P12.cell (b := B7) (j := 0) (List.Mem.tail _ (List.Mem.tail _ (List.Mem.tail _ (List.Mem.head _)))) rfl
          have b1 := P12.cell (b := B7) (j := 1) (List.Mem.tail _ (List.Mem.tail _ (List.Mem.tail _ (List.Mem.head _)))) rfl
          have r0 := P12.cell (b := B4) (j := 0) (List.Mem.head _) rfl
          have r1 := P12.cell (b := B4) (j := 1) (List.Mem.head _) rfl
          have rf := P12.free (b := B4) (List.Mem.head _)
          have HP12 := Hid.mk P12
          clear P12
          go_wp2_with fail
          refine bodyPost_ret (v := .tuple #[.agg #[.int .i64 nb, .int .i64 sz], .int .i64 0]) (by simp [results, Try.results69, go_sem, r0, r1]) rfl ?_
          have P13 : Sep w (bx q (.cells #[.pointer (some ⟨pr, 0, none⟩), .int .i64 sz, .int .i64 ca, .slice (some ⟨g2, 0, none⟩) (L.live.length + 1) cap2, .slice ak n ck] 131) :: rw_ 0 39 2 (.slice (some ⟨g2, 0, none⟩) (L.live.length + 1) cap2) (L.live.length + 1) (wcells L.live ++ [.int .i64 nb, .int .i64 sz]) ::
            rw_ 0 39 2 (.slice ak n ck) n (wcells L.kept) :: rsA pr R' :: F) _ := (((((HP12.out.store 0 (.int .i64 nb)).store 1 (.int .i64 sz)).tl.lose 2).pick 3 rfl).pick 2 rfl).pick 2 rfl
          have e1 : wcells L.live ++ [Value.int .i64 nb, .int .i64 sz] = wcells (L.live ++ [(nb, sz)]) := by simp [wcells, wcell]
          rw [e1] at P13
          unfold QPush
          rw [HP.out, if_pos trivial]
          exact ⟨(ql_close (L := ⟨L.live ++ [(nb, sz)], L.kept⟩) P13 (by simp) HN.out.symm).pick 1 rfl, rfl⟩
        · have z2 : (er != 0) = true := by simpa using he
          have r0 := h1.cell (b := B4) (j := 0) (List.Mem.tail _ (List.Mem.tail _ (List.Mem.tail _ (List.Mem.tail _ (List.Mem.head _))))) rfl
          have r1 := h1.cell (b := B4) (j := 1) (List.Mem.tail _ (List.Mem.tail _ (List.Mem.tail _ (List.Mem.tail _ (List.Mem.head _))))) rfl
          have rf := h1.free (b := B4) (List.Mem.tail _ (List.Mem.tail _ (List.Mem.tail _ (List.Mem.tail _ (List.Mem.head _)))))
          have HP1 := Hid.mk h1
          clear h1 c0 c1 c3 c4
          go_wp2_with fail
          refine bodyPost_ret (v := .tuple #[.agg #[.int .i64 0, .int .i64 0], .int .i64 er]) (by simp [results, Try.results69, go_sem, r0, r1]) rfl ?_
          have P13 : Sep w (bx q (.cells #[.pointer (some ⟨pr, 0, none⟩), .int .i64 sz, .int .i64 ca, .slice ao L.live.length c, .slice ak n ck] 131) :: rw_ 0 39 2 (.slice ao L.live.length c) L.live.length (wcells L.live) ::
            rw_ 0 39 2 (.slice ak n ck) n (wcells L.kept) :: rsA pr R' :: F) _ := (((((HP1.out.pick 4 rfl).store 0 (.int .i64 0)).store 1 (.int .i64 0)).tl.pick 3 rfl).pick 3 rfl).pick 3 rfl
          unfold QPush
          rw [HP.out, if_neg he]
          exact ⟨(ql_close (L := L) P13 rfl HN.out.symm).pick 1 rfl, rfl⟩
    · obtain ⟨i, rfl⟩ : ∃ i, k = i + 1 := ⟨k - 1, by omega⟩
      have hi1 : i < L.kept.length := by have := HN.out; omega
      obtain ⟨g, ck', ev⟩ := row_shape HKR.out (by omega)
      simp only [Value.slice.injEq, true_and] at ev
      obtain ⟨rfl, rfl⟩ := ev
      have e0 := row_cell HKR.out (j := i * 2) (v := .int .i64 L.kept[i].1) (wcells_fst hi1)
      have e1 := row_cell HKR.out (j := i * 2 + 1) (v := .int .i64 L.kept[i].2) (wcells_snd hi1)
      obtain ⟨⟨y1, y2⟩, hy⟩ : ∃ y, L.kept[i] = y := ⟨_, rfl⟩
      rw [hy] at e0 e1
      simp only at e0 e1
      have hcap : n ≤ ck := by
        rcases HKR.out.2 with ⟨q, _⟩ | ⟨g', cap', cur, q, _, _, hc, _⟩
        · simp at q
        · simp only [Value.slice.injEq] at q
          omega
      by_cases hm2 : m ≤ y2
      · have hf := fit_at (xs := L.kept) (m := m) hi1 (by rw [hy]; exact hm2) (fun j hj hij => HNO.out j hj hij)
        have HF := Hid.mk (And.intro hf hy)
        clear hf hy HNO
        have z1 : decide (y2 ≥ m) = true := by simpa using hm2
        have w1 : IntKind.i64.wrap (((i + 1 : Nat) : Int) - 1) = (i : Int) := by rw [IntKind.wrap_i64]; omega
        have P0 := HX.out.alloc (.cells #[.int .i64 y1, .int .i64 y2] 39)
        have hkr1 := P0.owns (base := 0) (T := 39) (n := 2) (v := .slice (some ⟨g, 0, none⟩) n ck) (m := n) (xs := wcells L.kept) (List.Mem.tail _ (List.Mem.tail _ (List.Mem.tail _ (List.Mem.head _))))
        have p4 := P0.cell (b := q) (j := 4) (List.Mem.tail _ (List.Mem.head _)) rfl
        obtain ⟨X1, hX1⟩ : ∃ X1, X.alloc (.cells #[.int .i64 y1, .int .i64 y2] 39) = X1 := ⟨_, rfl⟩
        obtain ⟨B7, hB7⟩ : ∃ B7, X.heap.size = B7 := ⟨_, rfl⟩
        have HX1 := Hid.mk (And.intro hX1 hB7)
        rw [hX1] at P0 hkr1 p4
        rw [hB7] at P0
        have hRd1 := rd_take hkr1 HN.out (show i ≤ n by omega)
        have HP0 := Hid.mk P0
        have hic : i ≤ ck := by omega
        clear hX1 hB7 hkr1 P0
        go_upto_region 9 with (fail)
        rw [HX1.out.1, HX1.out.2]
        clear e0 e1 c4 c3 c1
        go_wp2_with (at_builtin; refine wpList_append_rd rfl _ _ rfl 0 _ _ (xs := []) (ys := L.kept.take i) rfl rfl (World.ownsRow_nil _ _ _ _) hRd1 ?m1 (Nat.zero_le _) ?_)
        case m1 => have := HN.out; simp; omega
        intro v9 w9 hown9' hg9 hat9
        have hown9 : w9.ownsRow 0 39 2 v9 (L.kept.take i).length (wcells (L.kept.take i)) := by simpa using hown9'
        clear hown9'
        have P9 := (HP0.out.rnil 0 39 2).grown' hown9 hg9 hat9
        have hkr9 := P9.owns (base := 0) (T := 39) (n := 2) (v := .slice (some ⟨g, 0, none⟩) n ck) (m := n) (xs := wcells L.kept) (List.Mem.tail _ (List.Mem.tail _ (List.Mem.tail _ (List.Mem.tail _ (List.Mem.head _)))))
        have p4 := P9.cell (b := q) (j := 4) (List.Mem.tail _ (List.Mem.tail _ (List.Mem.head _))) rfl
        obtain ⟨ad, had, hRd2⟩ := rd_drop hkr9 HN.out (show i + 1 ≤ n by omega)
        have hwk : IntKind.i64.wrap ((i : Int) + 1) = i + 1 := by rw [IntKind.wrap_i64]; omega
        have hic1 : i + 1 ≤ ck := by omega
        have hin1 : i + 1 ≤ n := by omega
        have HP9 := Hid.mk P9
        have HO9 := Hid.mk hown9
        clear hkr9 P9 hown9 hg9 hat9 hRd1
        go_wp2_with (at_builtin; refine wpList_append_rd rfl _ _ rfl 0 _ _ (xs := L.kept.take i) (ys := L.kept.drop (i + 1)) rfl rfl HO9.out hRd2 ?m2 (Nat.zero_le _) ?_)
        case m2 => have := HN.out; simp; omega
        intro v10 w10 hown10' hg10 hat10
        have hown10 : w10.ownsRow 0 39 2 v10 (L.kept.take i ++ L.kept.drop (i + 1)).length (wcells (L.kept.take i ++ L.kept.drop (i + 1))) := by simpa using hown10'
        clear hown10'
        obtain ⟨a10, c10, rfl⟩ := own_shape hown10
        obtain ⟨n10, hn10⟩ : ∃ n10, (L.kept.take i ++ L.kept.drop (i + 1)).length = n10 := ⟨_, rfl⟩
        rw [hn10] at hown10 hat10 ⊢
        have HN10 := Hid.mk hn10
        clear hn10
        have P10 := HP9.out.grown' hown10 hg10 hat10
        have p4 := P10.cell (b := q) (j := 4) (List.Mem.tail _ (List.Mem.tail _ (List.Mem.head _))) rfl
        have pf := P10.free (b := q) (List.Mem.tail _ (List.Mem.tail _ (List.Mem.head _))) 4
        have P11 : Sep w (rw_ 0 39 2 (.slice ao L.live.length c) L.live.length (wcells L.live) :: bx q (.cells #[.pointer (some ⟨pr, 0, none⟩), .int .i64 sz, .int .i64 ca, .slice ao L.live.length c, (.slice a10 n10 c10)] 131) ::
          rw_ 0 39 2 (.slice a10 n10 c10) n10 (wcells (L.kept.take i ++ L.kept.drop (i + 1))) :: bx B7 (.cells #[.int .i64 y1, .int .i64 y2] 39) :: bx B4 (.cells #[.int .i64 0, .int .i64 0] 39) :: rsA pr R :: F) (w10.setCell ⟨q, 4, none⟩ (.slice a10 n10 c10)) := (((P10.pick 2 rfl).store 4 (.slice a10 n10 c10)).pick 3 rfl).lose 4
        have HP11 := Hid.mk P11
        clear P10 P11 hown10 hg10 hat10 hRd2
        go_upto_region 11 with (fail)
        obtain ⟨X2, hX2⟩ : ∃ X2, w10.setCell ⟨q, 4, none⟩ (.slice a10 n10 c10) = X2 := ⟨_, rfl⟩
        rw [hX2] at HP11 ⊢
        clear hX2 p4 pf
        have hS := HP11.out
        have s0 := hS.cell (b := q) (j := 3) (List.Mem.tail _ (List.Mem.head _)) rfl
        have s1 := hS.cell (b := B7) (j := 0) (List.Mem.tail _ (List.Mem.tail _ (List.Mem.tail _ (List.Mem.head _)))) rfl
        have s2 := hS.cell (b := B7) (j := 1) (List.Mem.tail _ (List.Mem.tail _ (List.Mem.tail _ (List.Mem.head _)))) rfl
        have HROW := Hid.mk (hS.owns (List.Mem.head _))
        have HS0 := Hid.mk hS
        clear hS
        refine wp_region_L 10 (fun W' => W'.cell? ⟨q, 3, none⟩ = some (.slice ao L.live.length c) ∧ W'.cell? ⟨B7, 0, none⟩ = some (.int .i64 y1) ∧ W'.cell? ⟨B7, 1, none⟩ = some (.int .i64 y2)) (by kernel_rfl) ⟨s0, s1, s2⟩ (fun hHeld => ?_)
        refine wpAnyL_take (i := 0) (v := ?_) rfl (by kernel_rfl) (by kernel_rfl) (by kernel_rfl) (by kernel_rfl) (fun _ _ _ h => h) (Or.inl ⟨by rfl, ?_⟩) (by assumption) ?_
        rotate_left
        · (intro w hSw; (try dsimp only at hSw); go_simp <;> with_reducible rfl)
        (try simp only [Act.put, List.getElem_toArray, List.getElem_cons_zero, List.getElem_cons_succ, List.setIfInBounds_toArray, List.set_cons_zero, List.set_cons_succ])
        refine wpAnyL_take (i := 1) (v := ?_) rfl (by kernel_rfl) (by kernel_rfl) (by kernel_rfl) (by kernel_rfl) (fun _ _ _ h => h) (Or.inl ⟨by rfl, ?_⟩) (by assumption) ?_
        rotate_left
        · (intro w hSw; (try dsimp only at hSw); go_simp <;> with_reducible rfl)
        (try simp only [Act.put, List.getElem_toArray, List.getElem_cons_zero, List.getElem_cons_succ, List.setIfInBounds_toArray, List.set_cons_zero, List.set_cons_succ])
        refine wpAnyL_take (i := 2) (v := ?_) rfl (by kernel_rfl) (by kernel_rfl) (by kernel_rfl) (by kernel_rfl) (fun _ _ _ h => h) (Or.inl ⟨by rfl, ?_⟩) (by assumption) ?_
        rotate_left
        · (intro w hSw; (try dsimp only at hSw); go_simp <;> with_reducible rfl)
        (try simp only [Act.put, List.getElem_toArray, List.getElem_cons_zero, List.getElem_cons_succ, List.setIfInBounds_toArray, List.set_cons_zero, List.set_cons_succ])
        refine wpAnyL_take (i := 3) (v := ?_) rfl (by kernel_rfl) (by kernel_rfl) (by kernel_rfl) (by kernel_rfl) (fun _ _ _ h => h) (Or.inl ⟨by rfl, ?_⟩) (by assumption) ?_
        rotate_left
        · (intro w hSw; (try dsimp only at hSw); go_simp <;> with_reducible rfl)
        (try simp only [Act.put, List.getElem_toArray, List.getElem_cons_zero, List.getElem_cons_succ, List.setIfInBounds_toArray, List.set_cons_zero, List.set_cons_succ])
        refine wpAnyL_take (i := 4) (v := ?_) rfl (by kernel_rfl) (by kernel_rfl) (by kernel_rfl) (by kernel_rfl) (fun _ _ _ h => h) (Or.inl ⟨by rfl, ?_⟩) (by assumption) ?_
        rotate_left
        · (intro w hSw; (try dsimp only at hSw); go_simp <;> with_reducible rfl)
        (try simp only [Act.put, List.getElem_toArray, List.getElem_cons_zero, List.getElem_cons_succ, List.setIfInBounds_toArray, List.set_cons_zero, List.set_cons_succ])
        refine wpAnyL_take (i := 5) (v := ?_) rfl (by kernel_rfl) (by kernel_rfl) (by kernel_rfl) (by kernel_rfl) (fun _ _ _ h => h) (Or.inl ⟨by rfl, ?_⟩) (by assumption) ?_
        rotate_left
        · (intro w hSw; (try dsimp only at hSw); go_simp <;> with_reducible rfl)
        (try simp only [Act.put, List.getElem_toArray, List.getElem_cons_zero, List.getElem_cons_succ, List.setIfInBounds_toArray, List.set_cons_zero, List.set_cons_succ])
        refine wpAnyL_only (i := 6) (by kernel_rfl) rfl (fun K hK => ?_)
        go_simp
        refine hK _ _ (fun _ => ⟨alloc_cell s0, alloc_cell s1, alloc_cell s2⟩) (fun hHeld0 => ?_)
        have hHeld := hHeld0 rfl
        clear hK K hHeld0
        (try simp only [Act.put, List.getElem_toArray, List.getElem_cons_zero, List.getElem_cons_succ, List.setIfInBounds_toArray, List.set_cons_zero, List.set_cons_succ])
        refine wpAnyL_only (i := 7) (by kernel_rfl) rfl (fun K hK => ?_)
        refine step_append_lies _ (by rfl) _ _ _ (by rfl) 0 39 i0 (.agg #[.int .i64 0, .int .i64 0]) 2 16 Try.underlying36 hi0 hz0 hz1 hz2 rfl (by omega) (.slice ao L.live.length c) L.live.length (wcells L.live) (by rfl) ((HROW.out.alloc _).drew) ⟨X2.heap.size, 0, none⟩ 1 1 [.int .i64 y1, .int .i64 y2] (by rfl) (by rfl) (two_new _ _ _ _) (by simp [Value.oneCell']) (by omega) (by unfold maxLen; omega) (by omega) (Nat.zero_le _) (X2.heap.size + 1) (by simp) ?_
        intro g2 cap2 w2 hown2 hg2 hat2 hlt2
        have HG := Hid.mk (HS0.out.grown (v' := .slice (some ⟨g2, 0, none⟩) (L.live.length + 1) cap2) (ob := .cells #[.int .i64 y1, .int .i64 y2] 39) hown2 ⟨hg2.os, hg2.tape, hg2.output, hg2.size, hg2.block⟩ (hat2.imp (fun e => e.symm) (fun e => congrArg some e)))
        have t0 := HG.out.cell (b := q) (j := 3) (List.Mem.tail _ (List.Mem.head _)) rfl
        have t1 := HG.out.cell (b := B7) (j := 0) (List.Mem.tail _ (List.Mem.tail _ (List.Mem.tail _ (List.Mem.head _)))) rfl
        have t2 := HG.out.cell (b := B7) (j := 1) (List.Mem.tail _ (List.Mem.tail _ (List.Mem.tail _ (List.Mem.head _)))) rfl
        have tf := HG.out.free (b := q) (List.Mem.tail _ (List.Mem.head _)) 3
        refine hK _ _ (fun _ => ⟨t0, t1, t2⟩) (fun hHeld0 => ?_)
        have hHeld := hHeld0 rfl
        clear hK K hHeld0
        (try simp only [Act.put, List.getElem_toArray, List.getElem_cons_zero, List.getElem_cons_succ, List.setIfInBounds_toArray, List.set_cons_zero, List.set_cons_succ])
        refine wpAnyL_only (i := 8) (by kernel_rfl) rfl (fun K hK => ?_)
        go_simp
        refine hK _ _ (fun _ => ⟨t0, t1, t2⟩) (fun hHeld0 => ?_)
        have hHeld := hHeld0 rfl
        clear hK K hHeld0
        (try simp only [Act.put, List.getElem_toArray, List.getElem_cons_zero, List.getElem_cons_succ, List.setIfInBounds_toArray, List.set_cons_zero, List.set_cons_succ])
        refine wpAnyL_only (i := 9) (by kernel_rfl) rfl (fun K hK => ?_)
        go_simp
        refine hK _ _ (fun _ => ⟨t0, t1, t2⟩) (fun hHeld0 => ?_)
        have hHeld := hHeld0 rfl
        clear hK K hHeld0
        (try simp only [Act.put, List.getElem_toArray, List.getElem_cons_zero, List.getElem_cons_succ, List.setIfInBounds_toArray, List.set_cons_zero, List.set_cons_succ])
        refine wpAnyL_only (i := 10) (by kernel_rfl) rfl (fun K hK => ?_)
        go_simp
        refine hK _ _ (fun q => by cases q) (fun hHeld0 => ?_)
        clear hK K hHeld0
        refine wpAnyL_done (by kernel_rfl) ?_
        clear hown2 hg2 hat2 hlt2 t0 t1 t2 tf s0 s1 s2 HROW HS0
        have P12 : Sep w (bx B4 (.cells #[.int .i64 0, .int .i64 0] 39) :: bx q (.cells #[.pointer (some ⟨pr, 0, none⟩), .int .i64 sz, .int .i64 ca, .slice (some ⟨g2, 0, none⟩) (L.live.length + 1) cap2, (.slice a10 n10 c10)] 131) :: rw_ 0 39 2 (.slice (some ⟨g2, 0, none⟩) (L.live.length + 1) cap2) (L.live.length + 1) (wcells L.live ++ [.int .i64 y1, .int .i64 y2]) ::
          rw_ 0 39 2 (.slice a10 n10 c10) n10 (wcells (L.kept.take i ++ L.kept.drop (i + 1))) :: bx B7 (.cells #[.int .i64 y1, .int .i64 y2] 39) :: rsA pr R :: F) (w2.setCell ⟨q, 3, none⟩ (.slice (some ⟨g2, 0, none⟩) (L.live.length + 1) cap2)) := ((HG.out.pick 1 rfl).store 3 _).pick 4 rfl
        clear HG
        have b0 := P12.cell (b := B7) (j := 0) (List.Mem.tail _ (List.Mem.tail _ (List.Mem.tail _ (List.Mem.tail _ (List.Mem.head _))))) rfl
        have b1 := P12.cell (b := B7) (j := 1) (List.Mem.tail _ (List.Mem.tail _ (List.Mem.tail _ (List.Mem.tail _ (List.Mem.head _))))) rfl
        have r0 := P12.cell (b := B4) (j := 0) (List.Mem.head _) rfl
        have r1 := P12.cell (b := B4) (j := 1) (List.Mem.head _) rfl
        have rf := P12.free (b := B4) (List.Mem.head _)
        have HP12 := Hid.mk P12
        clear P12
        go_wp2_with fail
        refine bodyPost_ret (v := .tuple #[.agg #[.int .i64 y1, .int .i64 y2], .int .i64 0]) (by simp [results, Try.results69, go_sem, r0, r1]) rfl ?_
        have P13 := ((HP12.out.store 0 (.int .i64 y1)).store 1 (.int .i64 y2)).tl.lose 3
        have e1 : wcells L.live ++ [Value.int .i64 y1, .int .i64 y2] = wcells (L.live ++ [(y1, y2)]) := by simp [wcells, wcell]
        have e2 : (L.kept.take i ++ L.kept.drop (i + 1)) = L.kept.eraseIdx i := by rw [List.eraseIdx_eq_take_drop_succ]
        rw [e1, e2] at P13
        have hp : pushL R L sz m = (((y1, y2), 0), R, ⟨L.live ++ [(y1, y2)], L.kept.eraseIdx i⟩) := by
          unfold pushL
          rw [if_neg (by omega), HF.out.1]
          simp only
          rw [List.getElem?_eq_getElem (by have := HN.out; omega), HF.out.2]
          rfl
        unfold QPush
        rw [hp]
        exact ⟨(ql_close (L := ⟨L.live ++ [(y1, y2)], L.kept.eraseIdx i⟩) P13 (by simp) (by rw [← HN10.out, List.eraseIdx_eq_take_drop_succ])).pick 1 rfl, rfl⟩
      · have HNO2 : Hid (∀ j (hj : j < L.kept.length), i ≤ j → ¬ m ≤ L.kept[j].2) := fun j hj hij => by
          rcases Nat.lt_or_eq_of_le hij with q | rfl
          · exact HNO.out j hj q
          · rw [hy]; exact hm2
        have z1 : decide (y2 ≥ m) = false := by simpa using hm2
        clear hy HNO hi1
        go_wp2_with fail
        exact ⟨⟨i, by omega, rfl, HNO2⟩, by simp [intOf]⟩
end
end Go.Proofs.Ytkooogllajmkeaa
/- The document's Pop, Free, Words, Copy (24). -/
namespace Go.Proofs.Ytkooogllajmkeaa
open Go.RowKit
set_option pp.deepTerms true
attribute [local go_sem ↓] Go.wp_at_zero Go.wp_at_succ
/-- what the document's pop does -/
def popQ (S : Sp) (L : Lk) (ca : Int) : Int × Sp × Lk :=
  match L.live.getLast? with
  | none => (240, S, L)
  | some r => if (L.kept.length : Int) < ca then (0, (S.drop r.1 r.2).2, ⟨L.live.dropLast, L.kept ++ [r]⟩) else (0, ((S.drop r.1 r.2).2.let_ r.1).2, ⟨L.live.dropLast, L.kept⟩)
def QPop (w : World) (q pr : Nat) (sz ca : Int) (R : Sp) (L : Lk) (F : List Asr) (e : Ending) (w' : World) : Prop :=
  Sep w (rsA pr (popQ R L ca).2.1 :: qlA q pr sz ca (popQ R L ca).2.2 :: F) w' ∧ e = .returned (.int .i64 (popQ R L ca).1)
section
variable {w W : World} {F : List Asr} {q pr : Nat} {S R : Sp} {L : Lk} {sz ca : Int}
set_option maxRecDepth 100000 in
set_option maxHeartbeats 4000000 in
theorem qpop_ok (h : Sep w (rsA pr R :: qlA q pr sz ca L :: F) W) (hll : L.live.length ≤ 1000000) (hkl : L.kept.length ≤ 1000000) (hin : ∀ r ∈ L.live, I64 r.1) :
    Calls Try.prog 70 #[.pointer (some ⟨q, 0, none⟩)] W (QPop w q pr sz ca R L F) := by
  obtain ⟨i0, hi0, hz0, hz1, hz2⟩ := info_parts infoR
  have hA : Sep w (qlA q pr sz ca L :: rsA pr R :: F) W := h.pick 1 rfl
  obtain ⟨ao, c, ak, ck, hX⟩ := ql_open hA
  have c2 := hX.cell (b := q) (j := 2) (List.Mem.head _) rfl
  have c3 := hX.cell (b := q) (j := 3) (List.Mem.head _) rfl
  have cf := hX.free (b := q) (List.Mem.head _) 3
  by_cases hn : L.live = []
  · have hl0 : L.live.length = 0 := by simp [hn]
    have HH := Hid.mk h
    rw [hl0] at c3
    have hp : popQ R L ca = (240, R, L) := by unfold popQ; rw [hn]; rfl
    have HP := Hid.mk hp
    clear hA hX h hn hl0 hp
    go_enter Try.func70, Try.ntmps70
    go_wp2_with fail
    go_ret
    unfold QPop
    rw [HP.out]
    exact ⟨HH.out, rfl⟩
  · obtain ⟨pre, x, hpx, -⟩ := topOf_some hn
    obtain ⟨y1, y2⟩ := x
    have hx1 : I64 y1 := hin (y1, y2) (by rw [hpx]; simp)
    have hg : L.live.getLast? = some (y1, y2) := by rw [hpx]; simp
    have hd : L.live.dropLast = pre := by rw [hpx]; simp
    obtain ⟨n, hnl⟩ : ∃ n, pre.length = n := ⟨_, rfl⟩
    have hl : L.live.length = n + 1 := by rw [hpx]; simp [hnl]
    have hrow := hX.owns (base := 0) (T := 39) (n := 2) (v := .slice ao L.live.length c) (m := L.live.length) (xs := wcells L.live) (List.Mem.tail _ (List.Mem.head _))
    rw [hl] at hrow c3 hX hll
    obtain ⟨g, c', ev⟩ := row_shape hrow (by omega)
    simp only [Value.slice.injEq, true_and] at ev
    obtain ⟨rfl, rfl⟩ := ev
    have hcap : n + 1 ≤ c := by
      rcases hrow.2 with ⟨q, _⟩ | ⟨g', cap', cur, q, _, _, hc, _⟩
      · simp at q
      · simp only [Value.slice.injEq] at q
        omega
    have hxn : L.live[n]'(by omega) = (y1, y2) := by
      have : L.live[n]? = some (y1, y2) := by rw [hpx, ← hnl]; simp
      exact (List.getElem?_eq_some_iff.1 this).2
    have e0 := row_cell hrow (j := n * 2) (v := .int .i64 (L.live[n]'(by omega)).1) (wcells_fst (by omega))
    have e1 := row_cell hrow (j := n * 2 + 1) (v := .int .i64 (L.live[n]'(by omega)).2) (wcells_snd (by omega))
    rw [hxn] at e0 e1
    simp only at e0 e1
    have hcut := row_cut hrow (show n ≤ n + 1 by omega)
    have hpre : (wcells L.live).take (n * 2) = wcells pre := by rw [← wcells_take, hpx, List.take_left' hnl]
    rw [hpre] at hcut
    obtain ⟨B, hB⟩ : ∃ B, W.heap.size = B := ⟨_, rfl⟩
    obtain ⟨X, hXe⟩ : ∃ X, W.alloc (.cells #[.int .i64 y1, .int .i64 y2] 39) = X := ⟨_, rfl⟩
    have HXB := Hid.mk (And.intro hXe hB)
    have P1 : Sep w (rsA pr R :: bx q (.cells #[.pointer (some ⟨pr, 0, none⟩), .int .i64 sz, .int .i64 ca, .slice (some ⟨g, 0, none⟩) n c, .slice ak L.kept.length ck] 131) :: rw_ 0 39 2 (.slice (some ⟨g, 0, none⟩) n c) n (wcells pre) ::
      bx B (.cells #[.int .i64 y1, .int .i64 y2] 39) :: rw_ 0 39 2 (.slice ak L.kept.length ck) L.kept.length (wcells L.kept) :: F) (X.setCell ⟨q, 3, none⟩ (.slice (some ⟨g, 0, none⟩) n c)) := by
      have Q0 := hX.alloc (.cells #[.int .i64 y1, .int .i64 y2] 39)
      rw [hXe, hB] at Q0
      have hcutX : X.ownsRow 0 39 2 (.slice (some ⟨g, 0, none⟩) n c) n (wcells pre) := by rw [← hXe]; exact hcut.alloc _
      have Q1 := (Q0.pick 2 rfl).rerow (v' := .slice (some ⟨g, 0, none⟩) n c) (fun b hb => hb) hcutX
      exact ((Q1.pick 2 rfl).store 3 _).pick 4 rfl
    have hXa := hX.alloc (.cells #[.int .i64 y1, .int .i64 y2] 39)
    have a3 := hXa.cell (b := q) (j := 3) (List.Mem.tail _ (List.Mem.head _)) rfl
    have af := hXa.free (b := q) (List.Mem.tail _ (List.Mem.head _)) 3
    have HP1 := Hid.mk P1
    have HD := Hid.mk (And.intro hg hd)
    have HNL := Hid.mk hnl
    have hw1 : IntKind.i64.wrap (((n + 1 : Nat) : Int) - 1) = (n : Int) := by rw [IntKind.wrap_i64]; omega
    have hw2 : IntKind.i64.wrap ((n : Int) + 1 - 1) = (n : Int) := by rw [IntKind.wrap_i64]; omega
    have z0 : (((n + 1 : Nat) : Int) == 0) = false := by simp; omega
    have z0' : ((n : Int) + 1 == 0) = false := by simp; omega
    clear hA hX h hn hpx hg hd hnl hl hrow hxn hcut hpre P1 hXa hXe hB hin
    go_enter Try.func70, Try.ntmps70
    go_upto_region 6 with (fail)
    rw [HXB.out.1, HXB.out.2]
    obtain ⟨m, hm⟩ : ∃ m, L.kept.length = m := ⟨_, rfl⟩
    rw [hm] at HP1 c3 hkl
    have HM := Hid.mk hm
    obtain ⟨X2, hX2⟩ : ∃ X2, X.setCell ⟨q, 3, none⟩ (.slice (some ⟨g, 0, none⟩) n c) = X2 := ⟨_, rfl⟩
    rw [hX2] at HP1 ⊢
    have k0 := HP1.out.cell (b := q) (j := 0) (List.Mem.tail _ (List.Mem.head _)) rfl
    have k1 := HP1.out.cell (b := B) (j := 0) (List.Mem.tail _ (List.Mem.tail _ (List.Mem.tail _ (List.Mem.head _)))) rfl
    have k2 := HP1.out.cell (b := B) (j := 1) (List.Mem.tail _ (List.Mem.tail _ (List.Mem.tail _ (List.Mem.head _)))) rfl
    have d0 := HP1.out.drew
    clear hX2 hm c2 c3 cf e0 e1 a3 af hw1 hw2 z0
    go_region_held3 (fun W' => W'.cell? ⟨q, 0, none⟩ = some (.pointer (some ⟨pr, 0, none⟩)) ∧ W'.cell? ⟨B, 0, none⟩ = some (.int .i64 y1) ∧ W'.cell? ⟨B, 1, none⟩ = some (.int .i64 y2)) (first | exact ⟨f0, f1, f2⟩ | exact ⟨k0, k1, k2⟩) ((go_at_call 53; refine (rdrop_sep (w := w) (pr := pr) (S := R) (F := bx q (.cells #[.pointer (some ⟨pr, 0, none⟩), .int .i64 sz, .int .i64 ca, .slice (some ⟨g, 0, none⟩) n c, .slice ak m ck] 131) :: rw_ 0 39 2 (.slice (some ⟨g, 0, none⟩) n c) n (wcells pre) :: bx B (.cells #[.int .i64 y1, .int .i64 y2] 39) :: rw_ 0 39 2 (.slice ak m ck) m (wcells L.kept) :: F) ?_ y1 y2 hx1).mono ?_; exact d0; rintro e wx ⟨hx, rfl⟩; have f0 := hx.cell (b := q) (j := 0) (List.Mem.tail _ (List.Mem.head _)) rfl; have f1 := hx.cell (b := B) (j := 0) (List.Mem.tail _ (List.Mem.tail _ (List.Mem.tail _ (List.Mem.head _)))) rfl; have f2 := hx.cell (b := B) (j := 1) (List.Mem.tail _ (List.Mem.tail _ (List.Mem.tail _ (List.Mem.head _)))) rfl))
    obtain ⟨R1, hR1⟩ : ∃ R1, (R.drop y1 y2).2 = R1 := ⟨_, rfl⟩
    rw [hR1] at hx
    have HR1 := Hid.mk hR1
    have k4 := hx.cell (b := q) (j := 4) (List.Mem.tail _ (List.Mem.head _)) rfl
    have k2' := hx.cell (b := q) (j := 2) (List.Mem.tail _ (List.Mem.head _)) rfl
    have HX1 := Hid.mk hx
    clear k0 k1 k2 d0 f0 f1 f2 hx hR1 HP1
    by_cases hca : (m : Int) < ca
    · have z1 : decide ((m : Int) < ca) = true := by simpa using hca
      have hpq : popQ R L ca = (0, R1, ⟨pre, L.kept ++ [(y1, y2)]⟩) := by
        unfold popQ
        rw [HD.out.1]
        simp only
        rw [HM.out, if_pos hca, HR1.out, HD.out.2]
      have HPQ := Hid.mk hpq
      clear hpq
      go_upto_region 7 with (fail)
      go_quiet (fail)
      have HX3 := Hid.mk (HX1.out.keep (below_drewN (Below.refl _ _) nq))
      have hRd := Rd.of_row (HX3.out.owns (base := 0) (T := 39) (n := 2) (v := .slice ak m ck) (m := m) (xs := wcells L.kept) (List.Mem.tail _ (List.Mem.tail _ (List.Mem.tail _ (List.Mem.tail _ (List.Mem.head _)))))) HM.out.symm
      have k4 := HX3.out.cell (b := q) (j := 4) (List.Mem.tail _ (List.Mem.head _)) rfl
      clear k2'
      go_wp2_with (at_builtin; refine wpList_append_rd rfl _ _ rfl 0 _ _ (xs := []) (ys := L.kept) rfl rfl (World.ownsRow_nil _ _ _ _) hRd ?m1 (Nat.zero_le _) ?_)
      case m1 => have := HM.out; simp; omega
      intro v9 w9 hown9' hg9 hat9
      have hown9 : w9.ownsRow 0 39 2 v9 m (wcells L.kept) := by
        rw [HM.out] at hown9'
        exact hown9'
      obtain ⟨a9, c9, rfl⟩ := own_shape hown9
      have P9 := (HX3.out.rnil 0 39 2).grown' hown9 hg9 hat9
      have b0 := P9.cell (b := B) (j := 0) (List.Mem.tail _ (List.Mem.tail _ (List.Mem.tail _ (List.Mem.tail _ (List.Mem.head _))))) rfl
      have b1 := P9.cell (b := B) (j := 1) (List.Mem.tail _ (List.Mem.tail _ (List.Mem.tail _ (List.Mem.tail _ (List.Mem.head _))))) rfl
      have HP9 := Hid.mk P9
      have ho9 := hown9.alloc (.cells #[.int .i64 y1, .int .i64 y2] 39)
      have HO9 := Hid.mk ho9
      clear hown9' hown9 P9 hg9 hat9 hRd ho9
      go_wp2_with (at_builtin; refine wpList_append_own_at _ rfl _ _ 36 rfl 0 39 i0 (.agg #[.int .i64 0, .int .i64 0]) 2 16 Try.underlying36 hi0 hz0 hz1 hz2 rfl (by decide) _ _ _ rfl HO9.out ⟨w9.heap.size, 0, none⟩ 1 1 [.int .i64 y1, .int .i64 y2] rfl rfl (two_new _ _ _ _) (by simp [Value.oneCell']) ?m3 ?b3 (Nat.zero_le _) ?_)
      case m3 => unfold maxLen; omega
      case b3 => omega
      intro v10 w10 hown10 hg10 hnn10 hat10
      obtain ⟨a10, c10, rfl⟩ := own_shape hown10
      have P10 := HP9.out.grown (ob := .cells #[.int .i64 y1, .int .i64 y2] 39) hown10 hg10 (by simpa using hat10)
      have k4 := P10.cell (b := q) (j := 4) (List.Mem.tail _ (List.Mem.tail _ (List.Mem.head _))) rfl
      have kf := P10.free (b := q) (List.Mem.tail _ (List.Mem.tail _ (List.Mem.head _))) 4
      have P11 : Sep w (bx q (.cells #[.pointer (some ⟨pr, 0, none⟩), .int .i64 sz, .int .i64 ca, .slice (some ⟨g, 0, none⟩) n c, .slice a10 (m + 1) c10] 131) :: rw_ 0 39 2 (.slice (some ⟨g, 0, none⟩) n c) n (wcells pre) :: rw_ 0 39 2 (.slice a10 (m + 1) c10) (m + 1) (wcells L.kept ++ [.int .i64 y1, .int .i64 y2]) :: rsA pr R1 :: F) (w10.setCell ⟨q, 4, none⟩ (.slice a10 (m + 1) c10)) := ((((P10.pick 2 rfl).store 4 (.slice a10 (m + 1) c10)).lose 5).lose 4).perm (List.Perm.cons _ (List.Perm.trans (List.Perm.cons _ (List.Perm.swap _ _ _)) (List.Perm.swap _ _ _)))
      have HP11 := Hid.mk P11
      clear P10 P11 hown10 hg10 hnn10 hat10 b0 b1
      go_wp2_with fail
      go_ret
      have e1 : wcells L.kept ++ [Value.int .i64 y1, .int .i64 y2] = wcells (L.kept ++ [(y1, y2)]) := by simp [wcells, wcell]
      have P12 := HP11.out
      rw [e1] at P12
      unfold QPop
      rw [HPQ.out]
      exact ⟨(ql_close (L := ⟨pre, L.kept ++ [(y1, y2)]⟩) P12 HNL.out.symm (by simp [HM.out])).pick 1 rfl, rfl⟩
    · have z1 : decide ((m : Int) < ca) = false := by simpa using hca
      have hpq : popQ R L ca = (0, (R1.let_ y1).2, ⟨pre, L.kept⟩) := by
        unfold popQ
        rw [HD.out.1]
        simp only
        rw [HM.out, if_neg hca, HR1.out, HD.out.2]
      have HPQ := Hid.mk hpq
      clear hpq
      go_upto_region 7 with (fail)
      go_quiet (fail)
      have HX3 := Hid.mk (HX1.out.keep (below_drewN (Below.refl _ _) nq))
      have k0 := HX3.out.cell (b := q) (j := 0) (List.Mem.tail _ (List.Mem.head _)) rfl
      have k1 := HX3.out.cell (b := B) (j := 0) (List.Mem.tail _ (List.Mem.tail _ (List.Mem.tail _ (List.Mem.head _)))) rfl
      have d0 := HX3.out.drew
      obtain ⟨X3, hX3⟩ : ∃ X3, wx.drewN nq = X3 := ⟨_, rfl⟩
      rw [hX3] at HX3 k0 k1 d0 ⊢
      clear hX3 k4 k2'
      go_wp2_with fail
      go_region_held3 (fun W' => W'.cell? ⟨q, 0, none⟩ = some (.pointer (some ⟨pr, 0, none⟩)) ∧ W'.cell? ⟨B, 0, none⟩ = some (.int .i64 y1)) (first | exact ⟨f0, f1⟩ | exact ⟨k0, k1⟩) ((go_at_call 50; refine (rlet_sep (w := w) (pr := pr) (S := R1) (F := bx q (.cells #[.pointer (some ⟨pr, 0, none⟩), .int .i64 sz, .int .i64 ca, .slice (some ⟨g, 0, none⟩) n c, .slice ak m ck] 131) :: rw_ 0 39 2 (.slice (some ⟨g, 0, none⟩) n c) n (wcells pre) :: bx B (.cells #[.int .i64 y1, .int .i64 y2] 39) :: rw_ 0 39 2 (.slice ak m ck) m (wcells L.kept) :: F) ?_ y1).mono ?_; exact d0; rintro e wy ⟨hy, rfl⟩; have f0 := hy.cell (b := q) (j := 0) (List.Mem.tail _ (List.Mem.head _)) rfl; have f1 := hy.cell (b := B) (j := 0) (List.Mem.tail _ (List.Mem.tail _ (List.Mem.tail _ (List.Mem.head _)))) rfl))
      have HY := Hid.mk hy
      clear hy f0 f1 k0 k1 d0
      go_wp2_with fail
      go_ret
      have P12 : Sep w (bx q (.cells #[.pointer (some ⟨pr, 0, none⟩), .int .i64 sz, .int .i64 ca, .slice (some ⟨g, 0, none⟩) n c, .slice ak m ck] 131) :: rw_ 0 39 2 (.slice (some ⟨g, 0, none⟩) n c) n (wcells pre) :: rw_ 0 39 2 (.slice ak m ck) m (wcells L.kept) :: rsA pr (R1.let_ y1).2 :: F) wy := ((HY.out.lose 3).rot [_] [_, _, _])
      unfold QPop
      rw [HPQ.out]
      exact ⟨(ql_close (L := ⟨pre, L.kept⟩) P12 HNL.out.symm HM.out.symm).pick 1 rfl, rfl⟩
end
end Go.Proofs.Ytkooogllajmkeaa
