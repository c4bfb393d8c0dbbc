/- Parts Gi Gj Gk, put together. -/
import Derived.Test.YtkooogllajmkeaaMo13
import Derived.Deep.RegionHeld3
import Derived.Deep.DrawnRows
/- A link's Push. -/
namespace Go.Proofs.Ytkooogllajmkeaa
open Go.RowKit
set_option pp.deepTerms true
attribute [local go_sem ↓] Go.wp_at_zero Go.wp_at_succ
section
variable {w W W' : World} {p b : Nat} {sz ca : Int} {S S' : Sp} {L L' : Lk} {E : List (Nat × Obj)}
theorem Seg.c0 (h : Seg w p b sz ca S L E W) : W.cell? ⟨b, 0, none⟩ = some (.pointer (some ⟨p, 0, none⟩)) := by
  obtain ⟨lv, kv, hk⟩ := h.link
  exact hk.c.1
theorem Seg.on_link (h : Seg w p b sz ca S L E W) : ∃ lv kv, LkAt W b p sz ca L lv kv ∧ ∀ W' L', LStp W b p sz ca (lfoot b lv kv) L' W' → Seg w p b sz ca S L' E W' := by
  obtain ⟨fs, hs, h1, ⟨lv, kv, hk, rfl⟩, h3, h4, h5, h6, h7⟩ := h
  exact ⟨lv, kv, hk, fun W' L' hl => Seg.lstp h1 h3 h4 h5 h6 h7 hl⟩
theorem Seg.on_space (h : Seg w p b sz ca S L E W) : ∃ fs, Spc W p S fs ∧ ∀ W' S', Stp W p fs S' W' → Seg w p b sz ca S' L E W' := by
  obtain ⟨fs, hs, h1, h2, h3, h4, h5, h6, h7⟩ := h
  exact ⟨fs, h1, fun W' S' hl => Seg.sstp h2 h3 h4 h5 h6 h7 hl⟩
theorem Seg.notin {lv kv : Value} (h : Seg w p b sz ca S L E W) (hk : LkAt W b p sz ca L lv kv) {B : Nat} {o : Obj} (hm : (B, o) ∈ E) : lv.ownBlock ≠ some B := by
  obtain ⟨fs, hs, h1, ⟨lv', kv', hk', rfl⟩, h3, h4, h5, h6, h7⟩ := h
  have e := hk'.head.symm.trans hk.head
  simp only [Option.some.injEq, Obj.cells.injEq, Array.mk.injEq, List.cons.injEq, and_true, true_and] at e
  obtain ⟨rfl, rfl⟩ := e
  exact fun q => (h7 _ hm).2.1 (by simp [lfoot, q])
theorem Seg.notin2 {lv kv : Value} (h : Seg w p b sz ca S L E W) (hk : LkAt W b p sz ca L lv kv) {B : Nat} {o : Obj} (hm : (B, o) ∈ E) : kv.ownBlock ≠ some B := by
  obtain ⟨fs, hs, h1, ⟨lv', kv', hk', rfl⟩, h3, h4, h5, h6, h7⟩ := h
  have e := hk'.head.symm.trans hk.head
  simp only [Option.some.injEq, Obj.cells.injEq, Array.mk.injEq, List.cons.injEq, and_true, true_and] at e
  obtain ⟨rfl, rfl⟩ := e
  exact fun q => (h7 _ hm).2.1 (by simp [lfoot, q])
set_option maxRecDepth 100000 in
set_option maxHeartbeats 4000000 in
theorem push_no (h : Seg w p b sz ca S L E W) (m : Int) (hm : m < 1 ∨ 65536 < m) : Calls Try.prog 31 #[.pointer (some ⟨b, 0, none⟩), .int .i64 m] W fun e w' => Seg w p b sz ca S L E w' ∧ Below W.heap.size W w' ∧ e = .returned (.tuple #[.agg #[.int .i64 0, .int .i64 0], .int .i64 240]) := by
  obtain ⟨lv, kv, hk⟩ := h.link
  have c0 := hk.c.1
  have HH := Hid.mk h
  have hb0 := fun o => (Below.refl W.heap.size W).alloc (Nat.le_refl _) o
  clear h hk
  rcases Int.lt_or_le m 1 with q | q
  · have d1 : decide (m < 1) = true := by simpa using q
    clear hm q
    go_enter Try.func31, Try.ntmps31
    go_wp2_with fail
    refine (none24_any (alloc_cell c0)).mono ?_
    rintro e w1 ⟨rfl, rfl⟩
    go_wp2_with fail
    refine bodyPost_ret (v := .tuple #[.agg #[.int .i64 0, .int .i64 0], .int .i64 240]) (by simp [results, Try.results31, go_sem]) rfl ⟨HH.out.keep (hb0 _), hb0 _, rfl⟩
  · have d1 : decide (m < 1) = false := by simpa using q
    have d2 : decide (m > 65536) = true := by simp; omega
    clear hm q
    go_enter Try.func31, Try.ntmps31
    go_wp2_with fail
    refine (none24_any (alloc_cell c0)).mono ?_
    rintro e w1 ⟨rfl, rfl⟩
    go_wp2_with fail
    refine bodyPost_ret (v := .tuple #[.agg #[.int .i64 0, .int .i64 0], .int .i64 240]) (by simp [results, Try.results31, go_sem]) rfl ⟨HH.out.keep (hb0 _), hb0 _, rfl⟩
set_option maxRecDepth 100000 in
set_option maxHeartbeats 4000000 in
theorem push_fit (h : Seg w p b sz ca S L E W) (m : Int) (hm : 1 ≤ m ∧ m ≤ 65536) (hll : L.live.length ≤ 1000000) (hkl : L.kept.length ≤ 1000000) {i : Nat} {y1 y2 : Int} (hf : fitAt L.kept m = some i) (hy : L.kept[i]? = some (y1, y2)) :
    Calls Try.prog 31 #[.pointer (some ⟨b, 0, none⟩), .int .i64 m] W fun e w' => Seg w p b sz ca S ⟨L.live ++ [(y1, y2)], L.kept.eraseIdx i⟩ E w' ∧ e = .returned (.tuple #[.agg #[.int .i64 y1, .int .i64 y2], .int .i64 0]) := by
  obtain ⟨i0, hi, hz0, hz1, hz2⟩ := info_parts infoR
  have hA := h.alloc (.cells #[.int .i64 0, .int .i64 0] 39)
  have hwW := h.size.size
  have HEL : Hid (∀ x ∈ E, x.1 ≠ W.heap.size) := fun x hx => by have := h.ltE x hx; omega
  obtain ⟨lv, kv, hk, hon⟩ := hA.on_link
  have c0 := hk.c.1
  have hfit := fit_any (b := b) (o := 4) hk.head rfl hk.kept (by omega) m hm.1
  unfold FitPost at hfit
  rw [hf] at hfit
  have HF := Hid.mk hfit
  have HON := Hid.mk hon
  have HK := Hid.mk hk
  have HY := Hid.mk hy
  have d1 : decide (m < 1) = false := by simp; omega
  have d2 : decide (m > 65536) = false := by simp; omega
  clear hfit hon hk h hA hm hy
  go_enter Try.func31, Try.ntmps31
  go_wp2_with fail
  refine (none24_any c0).mono ?_
  rintro e w1 ⟨rfl, rfl⟩
  go_wp2_with fail
  refine HF.out.mono ?_
  rintro e w1 ⟨hrow, y1', y2', hy', rfl⟩
  rw [HY.out] at hy'
  simp only [Option.some.injEq, Prod.mk.injEq] at hy'
  obtain ⟨rfl, rfl⟩ := hy'
  have hG0 := HON.out _ _ (lk_kept HK.out hrow)
  have hRl := hG0.ltE _ (List.Mem.head _)
  simp only at hRl
  have hG := hG0.alloc (.cells #[.int .i64 y1, .int .i64 y2] 39)
  clear hrow HON HK HF HY c0 d1 d2 hG0
  go_upto_region 12 with (fail)
  obtain ⟨X, hX⟩ : ∃ X, w1.alloc (.cells #[.int .i64 y1, .int .i64 y2] 39) = X := ⟨_, rfl⟩
  obtain ⟨Bx, hBx⟩ : ∃ Bx, w1.heap.size = Bx := ⟨_, rfl⟩
  have hBW : Bx ≠ W.heap.size := by omega
  rw [hX] at hG ⊢
  rw [hBx] at hG ⊢
  clear hX hBx
  obtain ⟨lv, kv, hk, hon⟩ := hG.on_link
  have HON := Hid.mk hon
  have HK := Hid.mk hk
  have s0 := hk.c.2.2.2.1
  have s1 := hG.box (j := 0) (List.Mem.head _) rfl
  have s2 := hG.box (j := 1) (List.Mem.head _) rfl
  have HG := Hid.mk hG
  obtain ⟨ao, cap, e0⟩ := own_shape hk.live
  subst e0
  clear hk hon hG
  refine wp_region_L 14 (fun W' => W'.cell? ⟨b, 3, none⟩ = some (.slice ao L.live.length cap) ∧ W'.cell? ⟨Bx, 0, none⟩ = some (.int .i64 y1) ∧ W'.cell? ⟨Bx, 1, none⟩ = some (.int .i64 y2)) (by kernel_rfl) ⟨s0, s1, s2⟩ (fun hHeld => ?_)
  refine wpAnyL_take (i := 0) (v := ?_) rfl (by kernel_rfl) (by kernel_rfl) (by kernel_rfl) (by kernel_rfl) (fun _ _ _ h => h) (Or.inl ⟨by rfl, ?_⟩) (by assumption) ?_
  rotate_left
  · (intro w hSw; (try dsimp only at hSw); go_simp <;> with_reducible rfl)
  (try simp only [Act.put, List.getElem_toArray, List.getElem_cons_zero, List.setIfInBounds_toArray, List.set_cons_zero, List.set_cons_succ])
  refine wpAnyL_take (i := 1) (v := ?_) rfl (by kernel_rfl) (by kernel_rfl) (by kernel_rfl) (by kernel_rfl) (fun _ _ _ h => h) (Or.inl ⟨by rfl, ?_⟩) (by assumption) ?_
  rotate_left
  · (intro w hSw; (try dsimp only at hSw); go_simp <;> with_reducible rfl)
  (try simp only [Act.put, List.getElem_toArray, List.getElem_cons_zero, List.getElem_cons_succ, List.setIfInBounds_toArray, List.set_cons_zero, List.set_cons_succ])
  refine wpAnyL_take (i := 2) (v := ?_) rfl (by kernel_rfl) (by kernel_rfl) (by kernel_rfl) (by kernel_rfl) (fun _ _ _ h => h) (Or.inl ⟨by rfl, ?_⟩) (by assumption) ?_
  rotate_left
  · (intro w hSw; (try dsimp only at hSw); go_simp <;> with_reducible rfl)
  (try simp only [Act.put, List.getElem_toArray, List.getElem_cons_zero, List.getElem_cons_succ, List.setIfInBounds_toArray, List.set_cons_zero, List.set_cons_succ])
  refine wpAnyL_take (i := 3) (v := ?_) rfl (by kernel_rfl) (by kernel_rfl) (by kernel_rfl) (by kernel_rfl) (fun _ _ _ h => h) (Or.inl ⟨by rfl, ?_⟩) (by assumption) ?_
  rotate_left
  · (intro w hSw; (try dsimp only at hSw); go_simp <;> with_reducible rfl)
  (try simp only [Act.put, List.getElem_toArray, List.getElem_cons_zero, List.getElem_cons_succ, List.setIfInBounds_toArray, List.set_cons_zero, List.set_cons_succ])
  refine wpAnyL_take (i := 4) (v := ?_) rfl (by kernel_rfl) (by kernel_rfl) (by kernel_rfl) (by kernel_rfl) (fun _ _ _ h => h) (Or.inl ⟨by rfl, ?_⟩) (by assumption) ?_
  rotate_left
  · (intro w hSw; (try dsimp only at hSw); go_simp <;> with_reducible rfl)
  (try simp only [Act.put, List.getElem_toArray, List.getElem_cons_zero, List.getElem_cons_succ, List.setIfInBounds_toArray, List.set_cons_zero, List.set_cons_succ])
  refine wpAnyL_take (i := 5) (v := ?_) rfl (by kernel_rfl) (by kernel_rfl) (by kernel_rfl) (by kernel_rfl) (fun _ _ _ h => h) (Or.inl ⟨by rfl, ?_⟩) (by assumption) ?_
  rotate_left
  · (intro w hSw; (try dsimp only at hSw); go_simp <;> with_reducible rfl)
  (try simp only [Act.put, List.getElem_toArray, List.getElem_cons_zero, List.getElem_cons_succ, List.setIfInBounds_toArray, List.set_cons_zero, List.set_cons_succ])
  refine wpAnyL_take (i := 6) (v := ?_) rfl (by kernel_rfl) (by kernel_rfl) (by kernel_rfl) (by kernel_rfl) (fun _ _ _ h => h) (Or.inl ⟨by rfl, ?_⟩) (by assumption) ?_
  rotate_left
  · (intro w hSw; (try dsimp only at hSw); go_simp <;> with_reducible rfl)
  (try simp only [Act.put, List.getElem_toArray, List.getElem_cons_zero, List.getElem_cons_succ, List.setIfInBounds_toArray, List.set_cons_zero, List.set_cons_succ])
  refine wpAnyL_take (i := 7) (v := ?_) rfl (by kernel_rfl) (by kernel_rfl) (by kernel_rfl) (by kernel_rfl) (fun _ _ _ h => h) (Or.inl ⟨by rfl, ?_⟩) (by assumption) ?_
  rotate_left
  · (intro w hSw; (try dsimp only at hSw); go_simp <;> with_reducible rfl)
  (try simp only [Act.put, List.getElem_toArray, List.getElem_cons_zero, List.getElem_cons_succ, List.setIfInBounds_toArray, List.set_cons_zero, List.set_cons_succ])
  refine wpAnyL_only (i := 8) (by kernel_rfl) rfl (fun K hK => ?_)
  go_simp
  refine hK _ _ (fun _ => ⟨alloc_cell s0, alloc_cell s1, alloc_cell s2⟩) (fun hHeld0 => ?_)
  have hHeld := hHeld0 rfl
  clear hK K hHeld0
  (try simp only [Act.put, List.getElem_toArray, List.getElem_cons_zero, List.getElem_cons_succ, List.setIfInBounds_toArray, List.set_cons_zero, List.set_cons_succ])
  refine wpAnyL_only (i := 9) (by kernel_rfl) rfl (fun K hK => ?_)
  refine step_append_lies _ (by rfl) _ _ _ (by rfl) 0 39 i0 (.agg #[.int .i64 0, .int .i64 0]) 2 16 Try.underlying36 hi hz0 hz1 hz2 rfl (by omega) (.slice ao L.live.length cap) L.live.length (wcells L.live) (by rfl) ((HK.out.live.alloc _).drew) ⟨X.heap.size, 0, none⟩ 1 1 [.int .i64 y1, .int .i64 y2] (by rfl) (by rfl) (two_new _ _ _ _) (by simp [Value.oneCell']) (by omega) (by unfold maxLen; omega) (by omega) (Nat.zero_le _) (X.heap.size + 1) (by simp) ?_
  intro g2 cap2 w2 hown2 hg2 hat2 hlt2
  have HL := Hid.mk (lk_push (ob := .cells #[.int .i64 y1, .int .i64 y2] 39) HK.out hown2 ⟨hg2.os, hg2.tape, hg2.output, hg2.size, hg2.block⟩ hat2)
  have hbo : (Value.slice ao L.live.length cap).ownBlock ≠ some b := fun e => (List.nodup_cons.1 HK.out.nodup).1 (by simp [e])
  have hb2 : w2.heap[b]? = some (.cells #[.pointer (some ⟨p, 0, none⟩), .int .i64 sz, .int .i64 ca, .slice ao L.live.length cap, kv] 97 (0, 0)) := (hg2.block b (by have := lt_of_heap HK.out.head; simp; omega) (fun e => hbo e.symm)).trans ((Below.heap_alloc _ _ _ (lt_of_heap HK.out.head)).trans HK.out.head)
  have t0 : w2.cell? ⟨b, 3, none⟩ = some (.slice ao L.live.length cap) := by rw [cell_of_row w2 b 3 _ _ _ hb2]; rfl
  have tf : w2.frozen? ⟨b, 3, none⟩ = false := frozen_of_row w2 b 3 _ _ hb2
  have hBo : (Value.slice ao L.live.length cap).ownBlock ≠ some (Bx) := HG.out.notin HK.out (List.Mem.head _)
  have t1 : w2.cell? ⟨Bx, 0, none⟩ = some (.int .i64 y1) := grown_cell hg2 (alloc_cell (o := .cells #[.int .i64 y1, .int .i64 y2] 39) s1) (fun e => hBo e.symm)
  have t2 : w2.cell? ⟨Bx, 1, none⟩ = some (.int .i64 y2) := grown_cell hg2 (alloc_cell (o := .cells #[.int .i64 y1, .int .i64 y2] 39) s2) (fun e => hBo e.symm)
  refine hK _ _ (fun _ => ⟨t0, t1, t2⟩) (fun hHeld0 => ?_)
  have hHeld := hHeld0 rfl
  clear hK K hHeld0
  (try simp only [Act.put, List.getElem_toArray, List.getElem_cons_zero, List.getElem_cons_succ, List.setIfInBounds_toArray, List.set_cons_zero, List.set_cons_succ])
  refine wpAnyL_only (i := 10) (by kernel_rfl) rfl (fun K hK => ?_)
  go_simp
  refine hK _ _ (fun _ => ⟨t0, t1, t2⟩) (fun hHeld0 => ?_)
  have hHeld := hHeld0 rfl
  clear hK K hHeld0
  (try simp only [Act.put, List.getElem_toArray, List.getElem_cons_zero, List.getElem_cons_succ, List.setIfInBounds_toArray, List.set_cons_zero, List.set_cons_succ])
  refine wpAnyL_only (i := 11) (by kernel_rfl) rfl (fun K hK => ?_)
  go_simp
  refine hK _ _ (fun _ => ⟨t0, t1, t2⟩) (fun hHeld0 => ?_)
  have hHeld := hHeld0 rfl
  clear hK K hHeld0
  (try simp only [Act.put, List.getElem_toArray, List.getElem_cons_zero, List.getElem_cons_succ, List.setIfInBounds_toArray, List.set_cons_zero, List.set_cons_succ])
  refine wpAnyL_only (i := 12) (by kernel_rfl) rfl (fun K hK => ?_)
  go_simp
  refine hK _ _ (fun _ => ⟨t0, t1, t2⟩) (fun hHeld0 => ?_)
  have hHeld := hHeld0 rfl
  clear hK K hHeld0
  (try simp only [Act.put, List.getElem_toArray, List.getElem_cons_zero, List.getElem_cons_succ, List.setIfInBounds_toArray, List.set_cons_zero, List.set_cons_succ])
  refine wpAnyL_only (i := 13) (by kernel_rfl) rfl (fun K hK => ?_)
  go_simp
  refine hK _ _ (fun _ => ⟨t0, t1, t2⟩) (fun hHeld0 => ?_)
  have hHeld := hHeld0 rfl
  clear hK K hHeld0
  (try simp only [Act.put, List.getElem_toArray, List.getElem_cons_zero, List.getElem_cons_succ, List.setIfInBounds_toArray, List.set_cons_zero, List.set_cons_succ])
  refine wpAnyL_only (i := 14) (by kernel_rfl) rfl (fun K hK => ?_)
  go_simp
  refine hK _ _ (fun q => by cases q) (fun hHeld0 => ?_)
  clear hK K hHeld0
  refine wpAnyL_done (by kernel_rfl) ?_
  have HS := Hid.mk (HON.out _ _ HL.out)
  clear HL hown2 hg2 hat2 hlt2 hbo hb2 t0 tf hBo t1 t2 s0 s1 s2
  have e0 := HS.out.box (j := 0) (List.Mem.head _) rfl
  have e1 := HS.out.box (j := 1) (List.Mem.head _) rfl
  have r0 := HS.out.box (j := 0) (List.Mem.tail _ (List.Mem.head _)) rfl
  have r1 := HS.out.box (j := 1) (List.Mem.tail _ (List.Mem.head _)) rfl
  have rf := HS.out.free (List.Mem.tail _ (List.Mem.head _))
  go_wp2_with fail
  refine bodyPost_ret (v := .tuple #[.agg #[.int .i64 y1, .int .i64 y2], .int .i64 0]) (by simp [results, Try.results31, go_sem, r0, r1]) rfl ⟨?_, rfl⟩
  exact ((((HS.out.sub (E' := (W.heap.size, (.cells #[.int .i64 0, .int .i64 0] 39)) :: E) (by intro x hx; exact List.mem_cons_of_mem _ hx)).store hwW HEL.out 0 (.int .i64 y1)).store hwW HEL.out 1 (.int .i64 y2))).sub (fun x hx => List.mem_cons_of_mem _ hx)
set_option maxRecDepth 100000 in
set_option maxHeartbeats 4000000 in
theorem push_take1 (h : Seg w p b sz ca S L E W) (m n : Int) (hm : 1 ≤ m ∧ m ≤ 65536) (hmx : (sz ≤ m ∧ n = m) ∨ (¬ sz ≤ m ∧ n = sz)) (hll : L.live.length ≤ 1000000) (hkl : L.kept.length ≤ 1000000) (hf : fitAt L.kept m = none) (hla : S.last ≤ 1152921504606846976) {nb er : Int} (ht : (S.take n).1 = (nb, er)) :
    Calls Try.prog 31 #[.pointer (some ⟨b, 0, none⟩), .int .i64 m] W fun e w' => (er = 0 ∧ Seg w p b sz ca (S.take n).2 ⟨L.live ++ [(nb, n)], L.kept⟩ E w' ∧ e = .returned (.tuple #[.agg #[.int .i64 nb, .int .i64 n], .int .i64 0])) ∨
      (er ≠ 0 ∧ Seg w p b sz ca (S.take n).2 L E w' ∧ e = .returned (.tuple #[.agg #[.int .i64 0, .int .i64 0], .int .i64 er])) := by
  obtain ⟨i0, hi, hz0, hz1, hz2⟩ := info_parts infoR
  have hA := h.alloc (.cells #[.int .i64 0, .int .i64 0] 39)
  have hwW := h.size.size
  have HEL : Hid (∀ x ∈ E, x.1 ≠ W.heap.size) := fun x hx => by have := h.ltE x hx; omega
  have HEL2 : Hid (∀ x ∈ E, x.1 < W.heap.size) := h.ltE
  obtain ⟨lv, kv, hk, hon⟩ := hA.on_link
  have c0 := hk.c.1
  have hfit := fit_any (b := b) (o := 4) hk.head rfl hk.kept (by omega) m hm.1
  unfold FitPost at hfit
  rw [hf] at hfit
  have HF := Hid.mk hfit
  have HT := Hid.mk ht
  have d1 : decide (m < 1) = false := by simp; omega
  have d2 : decide (m > 65536) = false := by simp; omega
  have HA := Hid.mk hA
  clear hfit hon hk h hA hm hf ht
  go_enter Try.func31, Try.ntmps31
  go_wp2_with fail
  refine (none24_any c0).mono ?_
  rintro e w1 ⟨rfl, rfl⟩
  go_wp2_with fail
  refine HF.out.mono ?_
  rintro e w1 ⟨hb1, rfl⟩
  have hG0 := HA.out.keep hb1
  have hRl := hG0.ltE _ (List.Mem.head _)
  simp only at hRl
  have hG1 := hG0.alloc (.cells #[.int .i64 0, .int .i64 0] 39)
  obtain ⟨lv1, kv1, hk1⟩ := hG1.link
  have c0' := hk1.c.1
  have c1' := hk1.c.2.1
  clear HF c0 d1 d2 hk1 hG1 HA hb1
  rcases hmx with ⟨hms, hn⟩ | ⟨hms, hn⟩
  all_goals
    have HN := Hid.mk hn
    clear hn
    go_wp2_with fail
    try rw [← HN.out]
    obtain ⟨Bx, hBx⟩ : ∃ Bx, w1.heap.size = Bx := ⟨_, rfl⟩
    have hG2 := hG0.alloc (.cells #[.int .i64 0, .int .i64 n] 39)
    obtain ⟨X0, hX0⟩ : ∃ X0, w1.alloc (.cells #[.int .i64 0, .int .i64 n] 39) = X0 := ⟨_, rfl⟩
    have hBW : Bx ≠ W.heap.size := by omega
    have hBW2 : W.heap.size < Bx := by omega
    have hBw : w.heap.size ≤ Bx := by omega
    rw [hX0] at hG2 ⊢
    rw [hBx] at hG2 ⊢
    clear hX0 hBx hRl hG0 c0' c1'
    obtain ⟨lv1, kv1, hk1⟩ := hG2.link
    have c0 := hk1.c.1
    have z1 := hG2.box (j := 1) (List.Mem.head _) rfl
    have b0 := hG2.keep (Below.refl _ _).drew
    obtain ⟨fs, hsp, hon⟩ := b0.on_space
    have HEB : Hid (∀ x ∈ (W.heap.size, Obj.cells #[.int .i64 0, .int .i64 0] 39) :: E, x.1 ≠ Bx) := by
      intro x hx
      rcases List.mem_cons.1 hx with rfl | hx
      · exact fun e => hBW e.symm
      · have := HEL2.out x hx; omega
    clear hk1
    go_region_held3 (fun W' => W'.cell? ⟨b, 0, none⟩ = some (.pointer (some ⟨p, 0, none⟩)) ∧ W'.cell? ⟨Bx, 1, none⟩ = some (.int .i64 n)) (first | exact ⟨hG3.c0, hG3.box (j := 1) (List.Mem.head _) rfl⟩ | exact ⟨b0.c0, b0.box (j := 1) (List.Mem.head _) rfl⟩) ((go_at_call 12; refine (take_spc hsp n hla).mono ?_; rintro e w2 ⟨hst, rfl⟩; rw [HT.out]; have hG3 := hon _ _ hst))
    have hG3 := hon _ _ hst
    have u0 := hG3.box (j := 0) (List.Mem.head _) rfl
    have u1 := hG3.box (j := 1) (List.Mem.head _) rfl
    have uf := hG3.free (List.Mem.head _)
    have r0 := hG3.box (j := 0) (List.Mem.tail _ (List.Mem.head _)) rfl
    have r1 := hG3.box (j := 1) (List.Mem.tail _ (List.Mem.head _)) rfl
    have rf := hG3.free (List.Mem.tail _ (List.Mem.head _))
    clear hon hsp hst z1 c0 b0 hG2
    by_cases her : er = 0
    · subst her
      go_upto_region 12 with (fail)
      have hG := hG3.store hBw HEB.out 0 (.int .i64 nb)
      simp only [List.setIfInBounds_toArray, List.set_cons_zero] at hG
      obtain ⟨X, hX⟩ : ∃ X, w2.setCell ⟨Bx, 0, none⟩ (.int .i64 nb) = X := ⟨_, rfl⟩
      rw [hX] at hG ⊢
      clear hX hG3 u0 u1 uf r0 r1 rf
      obtain ⟨lv, kv, hk, hon⟩ := hG.on_link
      have HON := Hid.mk hon
      have HK := Hid.mk hk
      have s0 := hk.c.2.2.2.1
      have s1 := hG.box (j := 0) (List.Mem.head _) rfl
      have s2 := hG.box (j := 1) (List.Mem.head _) rfl
      have HG := Hid.mk hG
      obtain ⟨ao, cap, e0⟩ := own_shape hk.live
      subst e0
      clear hk hon hG
      refine wp_region_L 14 (fun W' => W'.cell? ⟨b, 3, none⟩ = some (.slice ao L.live.length cap) ∧ W'.cell? ⟨Bx, 0, none⟩ = some (.int .i64 nb) ∧ W'.cell? ⟨Bx, 1, none⟩ = some (.int .i64 n)) (by kernel_rfl) ⟨s0, s1, s2⟩ (fun hHeld => ?_)
      refine wpAnyL_take (i := 0) (v := ?_) rfl (by kernel_rfl) (by kernel_rfl) (by kernel_rfl) (by kernel_rfl) (fun _ _ _ h => h) (Or.inl ⟨by rfl, ?_⟩) (by assumption) ?_
      rotate_left
      · (intro w hSw; (try dsimp only at hSw); go_simp <;> with_reducible rfl)
      (try simp only [Act.put, List.getElem_toArray, List.getElem_cons_zero, List.setIfInBounds_toArray, List.set_cons_zero, List.set_cons_succ])
      refine wpAnyL_take (i := 1) (v := ?_) rfl (by kernel_rfl) (by kernel_rfl) (by kernel_rfl) (by kernel_rfl) (fun _ _ _ h => h) (Or.inl ⟨by rfl, ?_⟩) (by assumption) ?_
      rotate_left
      · (intro w hSw; (try dsimp only at hSw); go_simp <;> with_reducible rfl)
      (try simp only [Act.put, List.getElem_toArray, List.getElem_cons_zero, List.getElem_cons_succ, List.setIfInBounds_toArray, List.set_cons_zero, List.set_cons_succ])
      refine wpAnyL_take (i := 2) (v := ?_) rfl (by kernel_rfl) (by kernel_rfl) (by kernel_rfl) (by kernel_rfl) (fun _ _ _ h => h) (Or.inl ⟨by rfl, ?_⟩) (by assumption) ?_
      rotate_left
      · (intro w hSw; (try dsimp only at hSw); go_simp <;> with_reducible rfl)
      (try simp only [Act.put, List.getElem_toArray, List.getElem_cons_zero, List.getElem_cons_succ, List.setIfInBounds_toArray, List.set_cons_zero, List.set_cons_succ])
      refine wpAnyL_take (i := 3) (v := ?_) rfl (by kernel_rfl) (by kernel_rfl) (by kernel_rfl) (by kernel_rfl) (fun _ _ _ h => h) (Or.inl ⟨by rfl, ?_⟩) (by assumption) ?_
      rotate_left
      · (intro w hSw; (try dsimp only at hSw); go_simp <;> with_reducible rfl)
      (try simp only [Act.put, List.getElem_toArray, List.getElem_cons_zero, List.getElem_cons_succ, List.setIfInBounds_toArray, List.set_cons_zero, List.set_cons_succ])
      refine wpAnyL_take (i := 4) (v := ?_) rfl (by kernel_rfl) (by kernel_rfl) (by kernel_rfl) (by kernel_rfl) (fun _ _ _ h => h) (Or.inl ⟨by rfl, ?_⟩) (by assumption) ?_
      rotate_left
      · (intro w hSw; (try dsimp only at hSw); go_simp <;> with_reducible rfl)
      (try simp only [Act.put, List.getElem_toArray, List.getElem_cons_zero, List.getElem_cons_succ, List.setIfInBounds_toArray, List.set_cons_zero, List.set_cons_succ])
      refine wpAnyL_take (i := 5) (v := ?_) rfl (by kernel_rfl) (by kernel_rfl) (by kernel_rfl) (by kernel_rfl) (fun _ _ _ h => h) (Or.inl ⟨by rfl, ?_⟩) (by assumption) ?_
      rotate_left
      · (intro w hSw; (try dsimp only at hSw); go_simp <;> with_reducible rfl)
      (try simp only [Act.put, List.getElem_toArray, List.getElem_cons_zero, List.getElem_cons_succ, List.setIfInBounds_toArray, List.set_cons_zero, List.set_cons_succ])
      refine wpAnyL_take (i := 6) (v := ?_) rfl (by kernel_rfl) (by kernel_rfl) (by kernel_rfl) (by kernel_rfl) (fun _ _ _ h => h) (Or.inl ⟨by rfl, ?_⟩) (by assumption) ?_
      rotate_left
      · (intro w hSw; (try dsimp only at hSw); go_simp <;> with_reducible rfl)
      (try simp only [Act.put, List.getElem_toArray, List.getElem_cons_zero, List.getElem_cons_succ, List.setIfInBounds_toArray, List.set_cons_zero, List.set_cons_succ])
      refine wpAnyL_take (i := 7) (v := ?_) rfl (by kernel_rfl) (by kernel_rfl) (by kernel_rfl) (by kernel_rfl) (fun _ _ _ h => h) (Or.inl ⟨by rfl, ?_⟩) (by assumption) ?_
      rotate_left
      · (intro w hSw; (try dsimp only at hSw); go_simp <;> with_reducible rfl)
      (try simp only [Act.put, List.getElem_toArray, List.getElem_cons_zero, List.getElem_cons_succ, List.setIfInBounds_toArray, List.set_cons_zero, List.set_cons_succ])
      refine wpAnyL_only (i := 8) (by kernel_rfl) rfl (fun K hK => ?_)
      go_simp
      refine hK _ _ (fun _ => ⟨alloc_cell s0, alloc_cell s1, alloc_cell s2⟩) (fun hHeld0 => ?_)
      have hHeld := hHeld0 rfl
      clear hK K hHeld0
      (try simp only [Act.put, List.getElem_toArray, List.getElem_cons_zero, List.getElem_cons_succ, List.setIfInBounds_toArray, List.set_cons_zero, List.set_cons_succ])
      refine wpAnyL_only (i := 9) (by kernel_rfl) rfl (fun K hK => ?_)
      refine step_append_lies _ (by rfl) _ _ _ (by rfl) 0 39 i0 (.agg #[.int .i64 0, .int .i64 0]) 2 16 Try.underlying36 hi hz0 hz1 hz2 rfl (by omega) (.slice ao L.live.length cap) L.live.length (wcells L.live) (by rfl) ((HK.out.live.alloc _).drew) ⟨X.heap.size, 0, none⟩ 1 1 [.int .i64 nb, .int .i64 n] (by rfl) (by rfl) (two_new _ _ _ _) (by simp [Value.oneCell']) (by omega) (by unfold maxLen; omega) (by omega) (Nat.zero_le _) (X.heap.size + 1) (by simp) ?_
      intro g2 cap2 w2 hown2 hg2 hat2 hlt2
      have HL := Hid.mk (lk_push (ob := .cells #[.int .i64 nb, .int .i64 n] 39) HK.out hown2 ⟨hg2.os, hg2.tape, hg2.output, hg2.size, hg2.block⟩ hat2)
      have hbo : (Value.slice ao L.live.length cap).ownBlock ≠ some b := fun e => (List.nodup_cons.1 HK.out.nodup).1 (by simp [e])
      have hb2 : w2.heap[b]? = some (.cells #[.pointer (some ⟨p, 0, none⟩), .int .i64 sz, .int .i64 ca, .slice ao L.live.length cap, kv] 97 (0, 0)) := (hg2.block b (by have := lt_of_heap HK.out.head; simp; omega) (fun e => hbo e.symm)).trans ((Below.heap_alloc _ _ _ (lt_of_heap HK.out.head)).trans HK.out.head)
      have t0 : w2.cell? ⟨b, 3, none⟩ = some (.slice ao L.live.length cap) := by rw [cell_of_row w2 b 3 _ _ _ hb2]; rfl
      have tf : w2.frozen? ⟨b, 3, none⟩ = false := frozen_of_row w2 b 3 _ _ hb2
      have hBo : (Value.slice ao L.live.length cap).ownBlock ≠ some (Bx) := HG.out.notin HK.out (List.Mem.head _)
      have t1 : w2.cell? ⟨Bx, 0, none⟩ = some (.int .i64 nb) := grown_cell hg2 (alloc_cell (o := .cells #[.int .i64 nb, .int .i64 n] 39) s1) (fun e => hBo e.symm)
      have t2 : w2.cell? ⟨Bx, 1, none⟩ = some (.int .i64 n) := grown_cell hg2 (alloc_cell (o := .cells #[.int .i64 nb, .int .i64 n] 39) s2) (fun e => hBo e.symm)
      refine hK _ _ (fun _ => ⟨t0, t1, t2⟩) (fun hHeld0 => ?_)
      have hHeld := hHeld0 rfl
      clear hK K hHeld0
      (try simp only [Act.put, List.getElem_toArray, List.getElem_cons_zero, List.getElem_cons_succ, List.setIfInBounds_toArray, List.set_cons_zero, List.set_cons_succ])
      refine wpAnyL_only (i := 10) (by kernel_rfl) rfl (fun K hK => ?_)
      go_simp
      refine hK _ _ (fun _ => ⟨t0, t1, t2⟩) (fun hHeld0 => ?_)
      have hHeld := hHeld0 rfl
      clear hK K hHeld0
      (try simp only [Act.put, List.getElem_toArray, List.getElem_cons_zero, List.getElem_cons_succ, List.setIfInBounds_toArray, List.set_cons_zero, List.set_cons_succ])
      refine wpAnyL_only (i := 11) (by kernel_rfl) rfl (fun K hK => ?_)
      go_simp
      refine hK _ _ (fun _ => ⟨t0, t1, t2⟩) (fun hHeld0 => ?_)
      have hHeld := hHeld0 rfl
      clear hK K hHeld0
      (try simp only [Act.put, List.getElem_toArray, List.getElem_cons_zero, List.getElem_cons_succ, List.setIfInBounds_toArray, List.set_cons_zero, List.set_cons_succ])
      refine wpAnyL_only (i := 12) (by kernel_rfl) rfl (fun K hK => ?_)
      go_simp
      refine hK _ _ (fun _ => ⟨t0, t1, t2⟩) (fun hHeld0 => ?_)
      have hHeld := hHeld0 rfl
      clear hK K hHeld0
      (try simp only [Act.put, List.getElem_toArray, List.getElem_cons_zero, List.getElem_cons_succ, List.setIfInBounds_toArray, List.set_cons_zero, List.set_cons_succ])
      refine wpAnyL_only (i := 13) (by kernel_rfl) rfl (fun K hK => ?_)
      go_simp
      refine hK _ _ (fun _ => ⟨t0, t1, t2⟩) (fun hHeld0 => ?_)
      have hHeld := hHeld0 rfl
      clear hK K hHeld0
      (try simp only [Act.put, List.getElem_toArray, List.getElem_cons_zero, List.getElem_cons_succ, List.setIfInBounds_toArray, List.set_cons_zero, List.set_cons_succ])
      refine wpAnyL_only (i := 14) (by kernel_rfl) rfl (fun K hK => ?_)
      go_simp
      refine hK _ _ (fun q => by cases q) (fun hHeld0 => ?_)
      clear hK K hHeld0
      refine wpAnyL_done (by kernel_rfl) ?_
      have HS := Hid.mk (HON.out _ _ HL.out)
      clear HL hown2 hg2 hat2 hlt2 hbo hb2 t0 tf hBo t1 t2 s0 s1 s2
      have e0 := HS.out.box (j := 0) (List.Mem.head _) rfl
      have e1 := HS.out.box (j := 1) (List.Mem.head _) rfl
      have r0 := HS.out.box (j := 0) (List.Mem.tail _ (List.Mem.head _)) rfl
      have r1 := HS.out.box (j := 1) (List.Mem.tail _ (List.Mem.head _)) rfl
      have rf := HS.out.free (List.Mem.tail _ (List.Mem.head _))
      go_wp2_with fail
      refine bodyPost_ret (v := .tuple #[.agg #[.int .i64 nb, .int .i64 n], .int .i64 0]) (by simp [results, Try.results31, go_sem, r0, r1]) rfl ⟨?_, rfl⟩
      exact ((((HS.out.sub (E' := (W.heap.size, (.cells #[.int .i64 0, .int .i64 0] 39)) :: E) (by intro x hx; exact List.mem_cons_of_mem _ hx)).store hwW HEL.out 0 (.int .i64 nb)).store hwW HEL.out 1 (.int .i64 n))).sub (fun x hx => List.mem_cons_of_mem _ hx)
    · have z2 : (er == 0) = false := by simpa using her
      go_wp2_with fail
      refine bodyPost_ret (v := .tuple #[.agg #[.int .i64 0, .int .i64 0], .int .i64 er]) (by simp [results, Try.results31, go_sem, r0, r1]) rfl (.inr ⟨her, ?_, rfl⟩)
      exact ((((hG3.sub (E' := (W.heap.size, (.cells #[.int .i64 0, .int .i64 0] 39)) :: E) (by intro x hx; exact List.mem_cons_of_mem _ hx)).store hwW HEL.out 0 (.int .i64 0)).store hwW HEL.out 1 (.int .i64 0))).sub (fun x hx => List.mem_cons_of_mem _ hx)
end
end Go.Proofs.Ytkooogllajmkeaa
/- A link's Pop. -/
namespace Go.Proofs.Ytkooogllajmkeaa
open Go.RowKit
set_option pp.deepTerms true
attribute [local go_sem ↓] Go.wp_at_zero Go.wp_at_succ
section
variable {w W W' : World} {p b : Nat} {sz ca : Int} {S S' : Sp} {L L' : Lk} {E : List (Nat × Obj)}
set_option maxRecDepth 100000 in
set_option maxHeartbeats 1000000 in
theorem pop_none (h : Seg w p b sz ca S L E W) (hl : L.live = []) : Calls Try.prog 32 #[.pointer (some ⟨b, 0, none⟩)] W fun e w' => Seg w p b sz ca S L E w' ∧ Below W.heap.size W w' ∧ e = .returned (.int .i64 240) := by
  obtain ⟨lv, kv, hk⟩ := h.link
  obtain ⟨c0, -, -, c3, -⟩ := hk.c
  have hla := hlast_any c3 hk.live (by rw [hl]; simp)
  have e : topOf L.live = ((0, 0), false) := by rw [hl]; rfl
  rw [e] at hla
  have HH := Hid.mk h
  clear h hk c3 e
  go_enter Try.func32, Try.ntmps32
  go_wp2_with fail
  refine (none24_any c0).mono ?_
  rintro e w1 ⟨rfl, rfl⟩
  go_wp2_with fail
  refine hla.mono ?_
  rintro e w1 ⟨hb1, rfl⟩
  have hb2 := fun o => hb1.alloc hb1.size o
  go_wp2_with fail
  go_ret
  exact ⟨HH.out.keep (hb2 _), hb2 _, rfl⟩
set_option maxRecDepth 100000 in
set_option maxHeartbeats 4000000 in
theorem pop_keep (h : Seg w p b sz ca S L E W) (hll : L.live.length ≤ 1000000) (hkl : L.kept.length ≤ 1000000) {y1 y2 : Int} (hy : topOf L.live = ((y1, y2), true)) (hca : (L.kept.length : Int) < ca) :
    Calls Try.prog 32 #[.pointer (some ⟨b, 0, none⟩)] W fun e w' => Seg w p b sz ca (S.drop y1 y2).2 ⟨L.live.dropLast, L.kept ++ [(y1, y2)]⟩ E w' ∧ e = .returned (.int .i64 0) := by
  obtain ⟨i0, hi, hz0, hz1, hz2⟩ := info_parts infoR
  obtain ⟨lv, kv, hk⟩ := h.link
  obtain ⟨c0, -, -, c3, -⟩ := hk.c
  have hla := hlast_any c3 hk.live (by omega)
  rw [hy] at hla
  have hne : 1 ≤ L.live.length := by
    rcases Nat.eq_zero_or_pos L.live.length with q | q
    · rw [List.eq_nil_of_length_eq_zero q] at hy; simp [topOf] at hy
    · exact q
  have hwW := h.size.size
  have HEL : Hid (∀ x ∈ E, x.1 < W.heap.size) := h.ltE
  have HH := Hid.mk h
  have HCA := Hid.mk hca
  clear h hk c3 hy hca
  go_enter Try.func32, Try.ntmps32
  go_wp2_with fail
  refine (none24_any c0).mono ?_
  rintro e w1 ⟨rfl, rfl⟩
  go_wp2_with fail
  refine hla.mono ?_
  rintro e w1 ⟨hb1, rfl⟩
  have hw1 := hb1.size
  have hG0 := (HH.out.keep hb1).alloc (.cells #[.int .i64 y1, .int .i64 y2] 39)
  obtain ⟨Bx, hBx⟩ : ∃ Bx, w1.heap.size = Bx := ⟨_, rfl⟩
  obtain ⟨X0, hX0⟩ : ∃ X0, w1.alloc (.cells #[.int .i64 y1, .int .i64 y2] 39) = X0 := ⟨_, rfl⟩
  have HXB := Hid.mk (And.intro hX0 hBx)
  rw [hX0, hBx] at hG0
  clear HH hla hb1 c0 hX0 hBx
  obtain ⟨lv1, kv1, hk1, hon1⟩ := hG0.on_link
  have hfw := fewer_any (b := b) (o := 3) hk1.head rfl hk1.live hne (by omega)
  have HON := Hid.mk hon1
  have HK := Hid.mk hk1
  have HFW := Hid.mk hfw
  clear hfw hon1 hk1
  go_wp2_with fail
  rw [HXB.out.1, HXB.out.2]
  refine HFW.out.mono ?_
  rintro e w2 ⟨hrow, u, rfl⟩
  have hG1 := HON.out _ _ (lk_liveRow HK.out hrow)
  clear HFW HON HK hG0 hrow
  obtain ⟨lv2, kv2, hk2⟩ := hG1.link
  obtain ⟨-, -, c2, -, c4⟩ := hk2.c
  obtain ⟨ak, ck, rfl⟩ := own_shape hk2.kept
  have c0 := hG1.c0
  have x0 := hG1.box (j := 0) (List.Mem.head _) rfl
  have x1 := hG1.box (j := 1) (List.Mem.head _) rfl
  have z9 : decide ((L.kept.length : Int) < ca) = true := by have := HCA.out; simp; omega
  have HG1 := Hid.mk hG1
  clear hk2 hG1
  simp only at c4
  go_upto_region 7 with (fail)
  go_quiet (fail)
  go_wp2_with fail
  have hG2 := HG1.out.keep (below_drewN (Below.refl _ _) nq)
  obtain ⟨Y, hY⟩ : ∃ Y, w2.drewN nq = Y := ⟨_, rfl⟩
  rw [hY] at hG2 ⊢
  clear hY c0 x0 x1 c2 c4 z9 HG1
  have c0 := hG2.c0
  have x0 := hG2.box (j := 0) (List.Mem.head _) rfl
  have x1 := hG2.box (j := 1) (List.Mem.head _) rfl
  have b0 := hG2.keep (Below.refl _ _).drew
  obtain ⟨fs, hsp, hon⟩ := b0.on_space
  go_region_held3 (fun W' => W'.cell? ⟨b, 0, none⟩ = some (.pointer (some ⟨p, 0, none⟩)) ∧ W'.cell? ⟨Bx, 0, none⟩ = some (.int .i64 y1) ∧ W'.cell? ⟨Bx, 1, none⟩ = some (.int .i64 y2)) (first | exact ⟨hG3.c0, hG3.box (j := 0) (List.Mem.head _) rfl, hG3.box (j := 1) (List.Mem.head _) rfl⟩ | exact ⟨b0.c0, b0.box (j := 0) (List.Mem.head _) rfl, b0.box (j := 1) (List.Mem.head _) rfl⟩) ((go_at_call 18; refine (drop_spc hsp y1 y2).mono ?_; rintro e w3 ⟨hst, rfl⟩; have hG3 := hon _ _ hst))
  have hG := hon _ _ hst
  clear hon hsp hst c0 x0 x1 b0 hG2 hG3
  obtain ⟨L1, hL1⟩ : ∃ L1 : Lk, (⟨L.live.dropLast, L.kept⟩ : Lk) = L1 := ⟨_, rfl⟩
  rw [hL1] at hG
  have hkl1 : L1.kept.length ≤ 1000000 := by rw [← hL1]; exact hkl
  have HL1 := Hid.mk hL1
  clear hL1
  go_upto_region 9 with (fail)
  obtain ⟨lv, kv, hk, hon⟩ := hG.on_link
  have HON := Hid.mk hon
  have HK := Hid.mk hk
  have s0 := hk.c.2.2.2.2
  have s1 := hG.box (j := 0) (List.Mem.head _) rfl
  have s2 := hG.box (j := 1) (List.Mem.head _) rfl
  have HG := Hid.mk hG
  obtain ⟨ao, cap, e0⟩ := own_shape hk.kept
  subst e0
  clear hk hon hG
  refine wp_region_L 14 (fun W' => W'.cell? ⟨b, 4, none⟩ = some (.slice ao L1.kept.length cap) ∧ W'.cell? ⟨Bx, 0, none⟩ = some (.int .i64 y1) ∧ W'.cell? ⟨Bx, 1, none⟩ = some (.int .i64 y2)) (by kernel_rfl) ⟨s0, s1, s2⟩ (fun hHeld => ?_)
  refine wpAnyL_take (i := 0) (v := ?_) rfl (by kernel_rfl) (by kernel_rfl) (by kernel_rfl) (by kernel_rfl) (fun _ _ _ h => h) (Or.inl ⟨by rfl, ?_⟩) (by assumption) ?_
  rotate_left
  · (intro w hSw; (try dsimp only at hSw); go_simp <;> with_reducible rfl)
  (try simp only [Act.put, List.getElem_toArray, List.getElem_cons_zero, List.setIfInBounds_toArray, List.set_cons_zero, List.set_cons_succ])
  refine wpAnyL_take (i := 1) (v := ?_) rfl (by kernel_rfl) (by kernel_rfl) (by kernel_rfl) (by kernel_rfl) (fun _ _ _ h => h) (Or.inl ⟨by rfl, ?_⟩) (by assumption) ?_
  rotate_left
  · (intro w hSw; (try dsimp only at hSw); go_simp <;> with_reducible rfl)
  (try simp only [Act.put, List.getElem_toArray, List.getElem_cons_zero, List.getElem_cons_succ, List.setIfInBounds_toArray, List.set_cons_zero, List.set_cons_succ])
  refine wpAnyL_take (i := 2) (v := ?_) rfl (by kernel_rfl) (by kernel_rfl) (by kernel_rfl) (by kernel_rfl) (fun _ _ _ h => h) (Or.inl ⟨by rfl, ?_⟩) (by assumption) ?_
  rotate_left
  · (intro w hSw; (try dsimp only at hSw); go_simp <;> with_reducible rfl)
  (try simp only [Act.put, List.getElem_toArray, List.getElem_cons_zero, List.getElem_cons_succ, List.setIfInBounds_toArray, List.set_cons_zero, List.set_cons_succ])
  refine wpAnyL_take (i := 3) (v := ?_) rfl (by kernel_rfl) (by kernel_rfl) (by kernel_rfl) (by kernel_rfl) (fun _ _ _ h => h) (Or.inl ⟨by rfl, ?_⟩) (by assumption) ?_
  rotate_left
  · (intro w hSw; (try dsimp only at hSw); go_simp <;> with_reducible rfl)
  (try simp only [Act.put, List.getElem_toArray, List.getElem_cons_zero, List.getElem_cons_succ, List.setIfInBounds_toArray, List.set_cons_zero, List.set_cons_succ])
  refine wpAnyL_take (i := 4) (v := ?_) rfl (by kernel_rfl) (by kernel_rfl) (by kernel_rfl) (by kernel_rfl) (fun _ _ _ h => h) (Or.inl ⟨by rfl, ?_⟩) (by assumption) ?_
  rotate_left
  · (intro w hSw; (try dsimp only at hSw); go_simp <;> with_reducible rfl)
  (try simp only [Act.put, List.getElem_toArray, List.getElem_cons_zero, List.getElem_cons_succ, List.setIfInBounds_toArray, List.set_cons_zero, List.set_cons_succ])
  refine wpAnyL_take (i := 5) (v := ?_) rfl (by kernel_rfl) (by kernel_rfl) (by kernel_rfl) (by kernel_rfl) (fun _ _ _ h => h) (Or.inl ⟨by rfl, ?_⟩) (by assumption) ?_
  rotate_left
  · (intro w hSw; (try dsimp only at hSw); go_simp <;> with_reducible rfl)
  (try simp only [Act.put, List.getElem_toArray, List.getElem_cons_zero, List.getElem_cons_succ, List.setIfInBounds_toArray, List.set_cons_zero, List.set_cons_succ])
  refine wpAnyL_take (i := 6) (v := ?_) rfl (by kernel_rfl) (by kernel_rfl) (by kernel_rfl) (by kernel_rfl) (fun _ _ _ h => h) (Or.inl ⟨by rfl, ?_⟩) (by assumption) ?_
  rotate_left
  · (intro w hSw; (try dsimp only at hSw); go_simp <;> with_reducible rfl)
  (try simp only [Act.put, List.getElem_toArray, List.getElem_cons_zero, List.getElem_cons_succ, List.setIfInBounds_toArray, List.set_cons_zero, List.set_cons_succ])
  refine wpAnyL_take (i := 7) (v := ?_) rfl (by kernel_rfl) (by kernel_rfl) (by kernel_rfl) (by kernel_rfl) (fun _ _ _ h => h) (Or.inl ⟨by rfl, ?_⟩) (by assumption) ?_
  rotate_left
  · (intro w hSw; (try dsimp only at hSw); go_simp <;> with_reducible rfl)
  (try simp only [Act.put, List.getElem_toArray, List.getElem_cons_zero, List.getElem_cons_succ, List.setIfInBounds_toArray, List.set_cons_zero, List.set_cons_succ])
  refine wpAnyL_only (i := 8) (by kernel_rfl) rfl (fun K hK => ?_)
  go_simp
  refine hK _ _ (fun _ => ⟨alloc_cell s0, alloc_cell s1, alloc_cell s2⟩) (fun hHeld0 => ?_)
  have hHeld := hHeld0 rfl
  clear hK K hHeld0
  (try simp only [Act.put, List.getElem_toArray, List.getElem_cons_zero, List.getElem_cons_succ, List.setIfInBounds_toArray, List.set_cons_zero, List.set_cons_succ])
  refine wpAnyL_only (i := 9) (by kernel_rfl) rfl (fun K hK => ?_)
  refine step_append_lies _ (by rfl) _ _ _ (by rfl) 0 39 i0 (.agg #[.int .i64 0, .int .i64 0]) 2 16 Try.underlying36 hi hz0 hz1 hz2 rfl (by omega) (.slice ao L1.kept.length cap) L1.kept.length (wcells L1.kept) (by rfl) ((HK.out.kept.alloc _).drew) ⟨w3.heap.size, 0, none⟩ 1 1 [.int .i64 y1, .int .i64 y2] (by rfl) (by rfl) (two_new _ _ _ _) (by simp [Value.oneCell']) (by omega) (by unfold maxLen; omega) (by omega) (Nat.zero_le _) (w3.heap.size + 1) (by simp) ?_
  intro g2 cap2 w2 hown2 hg2 hat2 hlt2
  have HL := Hid.mk (lk_keep1 (ob := .cells #[.int .i64 y1, .int .i64 y2] 39) HK.out hown2 ⟨hg2.os, hg2.tape, hg2.output, hg2.size, hg2.block⟩ hat2)
  have hbo : (Value.slice ao L1.kept.length cap).ownBlock ≠ some b := fun e => (List.nodup_cons.1 HK.out.nodup).1 (by simp [e])
  have hb2 : w2.heap[b]? = some (.cells #[.pointer (some ⟨p, 0, none⟩), .int .i64 sz, .int .i64 ca, lv, .slice ao L1.kept.length cap] 97 (0, 0)) := (hg2.block b (by have := lt_of_heap HK.out.head; simp; omega) (fun e => hbo e.symm)).trans ((Below.heap_alloc _ _ _ (lt_of_heap HK.out.head)).trans HK.out.head)
  have t0 : w2.cell? ⟨b, 4, none⟩ = some (.slice ao L1.kept.length cap) := by rw [cell_of_row w2 b 4 _ _ _ hb2]; rfl
  have tf : w2.frozen? ⟨b, 4, none⟩ = false := frozen_of_row w2 b 4 _ _ hb2
  have hBo : (Value.slice ao L1.kept.length cap).ownBlock ≠ some (Bx) := HG.out.notin2 HK.out (List.Mem.head _)
  have t1 : w2.cell? ⟨Bx, 0, none⟩ = some (.int .i64 y1) := grown_cell hg2 (alloc_cell (o := .cells #[.int .i64 y1, .int .i64 y2] 39) s1) (fun e => hBo e.symm)
  have t2 : w2.cell? ⟨Bx, 1, none⟩ = some (.int .i64 y2) := grown_cell hg2 (alloc_cell (o := .cells #[.int .i64 y1, .int .i64 y2] 39) s2) (fun e => hBo e.symm)
  refine hK _ _ (fun _ => ⟨t0, t1, t2⟩) (fun hHeld0 => ?_)
  have hHeld := hHeld0 rfl
  clear hK K hHeld0
  (try simp only [Act.put, List.getElem_toArray, List.getElem_cons_zero, List.getElem_cons_succ, List.setIfInBounds_toArray, List.set_cons_zero, List.set_cons_succ])
  refine wpAnyL_only (i := 10) (by kernel_rfl) rfl (fun K hK => ?_)
  go_simp
  refine hK _ _ (fun _ => ⟨t0, t1, t2⟩) (fun hHeld0 => ?_)
  have hHeld := hHeld0 rfl
  clear hK K hHeld0
  (try simp only [Act.put, List.getElem_toArray, List.getElem_cons_zero, List.getElem_cons_succ, List.setIfInBounds_toArray, List.set_cons_zero, List.set_cons_succ])
  refine wpAnyL_only (i := 11) (by kernel_rfl) rfl (fun K hK => ?_)
  go_simp
  refine hK _ _ (fun _ => ⟨t0, t1, t2⟩) (fun hHeld0 => ?_)
  have hHeld := hHeld0 rfl
  clear hK K hHeld0
  (try simp only [Act.put, List.getElem_toArray, List.getElem_cons_zero, List.getElem_cons_succ, List.setIfInBounds_toArray, List.set_cons_zero, List.set_cons_succ])
  refine wpAnyL_only (i := 12) (by kernel_rfl) rfl (fun K hK => ?_)
  go_simp
  refine hK _ _ (fun _ => ⟨t0, t1, t2⟩) (fun hHeld0 => ?_)
  have hHeld := hHeld0 rfl
  clear hK K hHeld0
  (try simp only [Act.put, List.getElem_toArray, List.getElem_cons_zero, List.getElem_cons_succ, List.setIfInBounds_toArray, List.set_cons_zero, List.set_cons_succ])
  refine wpAnyL_only (i := 13) (by kernel_rfl) rfl (fun K hK => ?_)
  go_simp
  refine hK _ _ (fun _ => ⟨t0, t1, t2⟩) (fun hHeld0 => ?_)
  have hHeld := hHeld0 rfl
  clear hK K hHeld0
  (try simp only [Act.put, List.getElem_toArray, List.getElem_cons_zero, List.getElem_cons_succ, List.setIfInBounds_toArray, List.set_cons_zero, List.set_cons_succ])
  refine wpAnyL_only (i := 14) (by kernel_rfl) rfl (fun K hK => ?_)
  go_simp
  refine hK _ _ (fun q => by cases q) (fun hHeld0 => ?_)
  clear hK K hHeld0
  refine wpAnyL_done (by kernel_rfl) ?_
  have HS := Hid.mk (HON.out _ _ HL.out)
  clear HL hown2 hg2 hat2 hlt2 hbo hb2 t0 tf hBo t1 t2 s0 s1 s2
  have hL1 := HL1.out
  subst hL1
  have HS2 := Hid.mk (HS.out.sub (E' := E) (fun x hx => List.mem_cons_of_mem _ hx))
  clear HS HG HON HK
  go_wp2_with fail
  go_ret
  exact ⟨HS2.out, rfl⟩
set_option maxRecDepth 100000 in
set_option maxHeartbeats 4000000 in
theorem pop_let (h : Seg w p b sz ca S L E W) (hll : L.live.length ≤ 1000000) (_hkl : L.kept.length ≤ 1000000) {y1 y2 : Int} (hy : topOf L.live = ((y1, y2), true)) (hca : ¬ (L.kept.length : Int) < ca) :
    Calls Try.prog 32 #[.pointer (some ⟨b, 0, none⟩)] W fun e w' => Seg w p b sz ca (S.let_ y1).2 ⟨L.live.dropLast, L.kept⟩ E w' ∧ e = .returned (.int .i64 0) := by
  obtain ⟨i0, hi, hz0, hz1, hz2⟩ := info_parts infoR
  obtain ⟨lv, kv, hk⟩ := h.link
  obtain ⟨c0, -, -, c3, -⟩ := hk.c
  have hla := hlast_any c3 hk.live (by omega)
  rw [hy] at hla
  have hne : 1 ≤ L.live.length := by
    rcases Nat.eq_zero_or_pos L.live.length with q | q
    · rw [List.eq_nil_of_length_eq_zero q] at hy; simp [topOf] at hy
    · exact q
  have hwW := h.size.size
  have HEL : Hid (∀ x ∈ E, x.1 < W.heap.size) := h.ltE
  have HH := Hid.mk h
  have HCA := Hid.mk hca
  clear h hk c3 hy hca
  go_enter Try.func32, Try.ntmps32
  go_wp2_with fail
  refine (none24_any c0).mono ?_
  rintro e w1 ⟨rfl, rfl⟩
  go_wp2_with fail
  refine hla.mono ?_
  rintro e w1 ⟨hb1, rfl⟩
  have hw1 := hb1.size
  have hG0 := (HH.out.keep hb1).alloc (.cells #[.int .i64 y1, .int .i64 y2] 39)
  obtain ⟨Bx, hBx⟩ : ∃ Bx, w1.heap.size = Bx := ⟨_, rfl⟩
  obtain ⟨X0, hX0⟩ : ∃ X0, w1.alloc (.cells #[.int .i64 y1, .int .i64 y2] 39) = X0 := ⟨_, rfl⟩
  have HXB := Hid.mk (And.intro hX0 hBx)
  rw [hX0, hBx] at hG0
  clear HH hla hb1 c0 hX0 hBx
  obtain ⟨lv1, kv1, hk1, hon1⟩ := hG0.on_link
  have hfw := fewer_any (b := b) (o := 3) hk1.head rfl hk1.live hne (by omega)
  have HON := Hid.mk hon1
  have HK := Hid.mk hk1
  have HFW := Hid.mk hfw
  clear hfw hon1 hk1
  go_wp2_with fail
  rw [HXB.out.1, HXB.out.2]
  refine HFW.out.mono ?_
  rintro e w2 ⟨hrow, u, rfl⟩
  have hG1 := HON.out _ _ (lk_liveRow HK.out hrow)
  clear HFW HON HK hG0 hrow
  obtain ⟨lv2, kv2, hk2⟩ := hG1.link
  obtain ⟨-, -, c2, -, c4⟩ := hk2.c
  obtain ⟨ak, ck, rfl⟩ := own_shape hk2.kept
  have c0 := hG1.c0
  have x0 := hG1.box (j := 0) (List.Mem.head _) rfl
  have x1 := hG1.box (j := 1) (List.Mem.head _) rfl
  have z9 : decide ((L.kept.length : Int) < ca) = false := by have := HCA.out; simp; omega
  have HG1 := Hid.mk hG1
  clear hk2 hG1
  simp only at c4
  go_upto_region 7 with (fail)
  go_quiet (fail)
  go_wp2_with fail
  have hG2 := HG1.out.keep (below_drewN (Below.refl _ _) nq)
  obtain ⟨Y, hY⟩ : ∃ Y, w2.drewN nq = Y := ⟨_, rfl⟩
  rw [hY] at hG2 ⊢
  clear hY c0 x0 x1 c2 c4 z9 HG1
  have c0 := hG2.c0
  have x0 := hG2.box (j := 0) (List.Mem.head _) rfl
  have x1 := hG2.box (j := 1) (List.Mem.head _) rfl
  have b0 := hG2.keep (Below.refl _ _).drew
  obtain ⟨fs, hsp, hon⟩ := b0.on_space
  go_region_held3 (fun W' => W'.cell? ⟨b, 0, none⟩ = some (.pointer (some ⟨p, 0, none⟩)) ∧ W'.cell? ⟨Bx, 0, none⟩ = some (.int .i64 y1)) (first | exact ⟨hG3.c0, hG3.box (j := 0) (List.Mem.head _) rfl⟩ | exact ⟨b0.c0, b0.box (j := 0) (List.Mem.head _) rfl⟩) ((go_at_call 13; refine (let_spc hsp y1).mono ?_; rintro e w3 ⟨hst, rfl⟩; have hG3 := hon _ _ hst))
  have HS2 := Hid.mk ((hon _ _ hst).sub (E' := E) (fun x hx => List.mem_cons_of_mem _ hx))
  clear hon hsp hst c0 x0 x1 b0 hG2 hG3
  go_wp2_with fail
  go_ret
  exact ⟨HS2.out, rfl⟩
end
end Go.Proofs.Ytkooogllajmkeaa
/- The beginning of a play of chapter 24. -/
namespace Go.Proofs.Ytkooogllajmkeaa
open Go.RowKit
set_option pp.deepTerms true
theorem Seg.grow {w W W' : World} {p b : Nat} {sz ca : Int} {S : Sp} {L : Lk} {E : List (Nat × Obj)} (h : Seg w p b sz ca S L E W) (k : Below W.heap.size W W') {q : Nat} {o : Obj} (hq : W.heap.size ≤ q) (ho : W'.heap[q]? = some o) : Seg w p b sz ca S L ((q, o) :: E) W' := by
  have h' := h.keep k
  obtain ⟨fs, hs, h1, h2, h3, h4, h5, h6, h7⟩ := h
  refine ⟨fs, hs, h1.below k, h2.below k, h3, h4, h5, h'.size, fun x hx => ?_⟩
  rcases List.mem_cons.1 hx with rfl | hx
  · exact ⟨fun c => by have := h1.lt _ c; omega, fun c => by have := h2.lt _ c; omega, ho⟩
  · exact ⟨(h7 x hx).1, (h7 x hx).2.1, below_at k (h7 x hx).2.2 (lt_of_heap (h7 x hx).2.2)⟩
def qlo (pr : Nat) (s c : Int) : Obj := .cells #[.pointer (some ⟨pr, 0, none⟩), .int .i64 s, .int .i64 c, .slice none 0 0, .slice none 0 0] 131
def pl24 (p b pr q : Nat) : Obj := .cells #[.pointer (some ⟨p, 0, none⟩), .pointer (some ⟨b, 0, none⟩), .pointer (some ⟨pr, 0, none⟩), .pointer (some ⟨q, 0, none⟩)] 78
def rs0 : Obj := .cells #[.slice none 0 0, .slice none 0 0, .int .i64 0] 56
theorem qNew_any (pr : Nat) (s c : Int) (w : World) : Calls Try.prog 63 #[.pointer (some ⟨pr, 0, none⟩), .agg #[.int .i64 s, .int .i64 c]] w fun e w' => Below w.heap.size w w' ∧
    ((segOk s c = true ∧ ∃ q, w.heap.size ≤ q ∧ w'.heap[q]? = some (qlo pr s c) ∧ e = .returned (.tuple #[.pointer (some ⟨q, 0, none⟩), .int .i64 0])) ∨ (segOk s c = false ∧ e = .returned (.tuple #[.pointer none, .int .i64 240]))) := by
  have hB : Below w.heap.size w (w.alloc (.cells #[.int .i64 s, .int .i64 c] 70)) := (Below.refl _ _).alloc (Nat.le_refl _) _
  have hc := rCheckSeg_any s c (w.alloc (.cells #[.int .i64 s, .int .i64 c] 70))
  have c0 : (w.alloc (.cells #[.int .i64 s, .int .i64 c] 70)).cell? ⟨w.heap.size, 0, none⟩ = some (.int .i64 s) := by simp
  have c1 : (w.alloc (.cells #[.int .i64 s, .int .i64 c] 70)).cell? ⟨w.heap.size, 1, none⟩ = some (.int .i64 c) := by simp
  unfold segChk at hc
  cases hk : segOk s c <;> rw [hk] at hc
  · clear hk
    go_enter Try.func63, Try.ntmps63
    go_wp2_with fail
    refine hc.mono ?_
    rintro e w1 ⟨hb1, rfl⟩
    go_wp2_with fail
    go_ret2
    exact ⟨hB.trans (hb1.mono hB.size), .inr ⟨trivial, rfl⟩⟩
  · clear hk
    go_enter Try.func63, Try.ntmps63
    go_wp2_with fail
    refine hc.mono ?_
    rintro e w1 ⟨hb1, rfl⟩
    have d0 := keep_be hb1 c0
    have d1 := keep_be hb1 c1
    have hb2 := hB.trans (hb1.mono hB.size)
    have HN := Hid.mk (heap_alloc_new w1 (qlo pr s c))
    clear c0 c1 hb1 hB
    go_wp2_with fail
    go_ret2
    exact ⟨hb2.alloc hb2.size _, .inl ⟨trivial, _, hb2.size, HN.out, rfl⟩⟩
def Begun (s c : Int) (w : World) (e : Ending) (w' : World) : Prop :=
  (segOk s c = true ∧ ∃ x p b pr q, e = .returned (.tuple #[.pointer (some ⟨x, 0, none⟩), .bool true]) ∧ w.heap.size ≤ x ∧ Seg w p b s c ⟨[], 0⟩ ⟨[], []⟩ [(x, pl24 p b pr q), (q, qlo pr s c), (pr, rs0)] w') ∨
  (segOk s c = false ∧ ∃ x vp vr, e = .returned (.tuple #[.pointer (some ⟨x, 0, none⟩), .bool true]) ∧ Below w.heap.size w w' ∧ w'.heap[x]? = some (.cells #[vp, .pointer none, vr, .pointer none] 78 (0, 0)))
set_option maxRecDepth 100000 in
set_option maxHeartbeats 2000000 in
theorem begin24_any (s c : Int) (w : World) : Calls Try.prog 30 #[.agg #[.int .i64 s, .int .i64 c]] w (Begun s c w) := by
  have hB : Below w.heap.size w (w.alloc (.cells #[.int .i64 s, .int .i64 c] 70)) := (Below.refl _ _).alloc (Nat.le_refl _) _
  have c0 : (w.alloc (.cells #[.int .i64 s, .int .i64 c] 70)).cell? ⟨w.heap.size, 0, none⟩ = some (.int .i64 s) := by simp
  have c1 : (w.alloc (.cells #[.int .i64 s, .int .i64 c] 70)).cell? ⟨w.heap.size, 1, none⟩ = some (.int .i64 c) := by simp
  obtain ⟨W1, hW1⟩ : ∃ W1, w.alloc (.cells #[.int .i64 s, .int .i64 c] 70) = W1 := ⟨_, rfl⟩
  have HW1 := Hid.mk hW1
  have hs1 : w.heap.size ≤ W1.heap.size := by rw [← hW1]; simp
  rw [hW1] at hB c0 c1
  have hS := Spc.zero W1
  have hb2 := (Below.refl (W1.alloc (.cells #[.slice none 0 0, .int .i64 0] 27)).heap.size (W1.alloc (.cells #[.slice none 0 0, .int .i64 0] 27))).alloc (Nat.le_refl _) rs0
  have hS2 := hS.below hb2
  have hR2 := heap_alloc_new (W1.alloc (.cells #[.slice none 0 0, .int .i64 0] 27)) rs0
  have e0 := alloc_cell (o := rs0) (alloc_cell (o := .cells #[.slice none 0 0, .int .i64 0] 27) c0)
  have e1 := alloc_cell (o := rs0) (alloc_cell (o := .cells #[.slice none 0 0, .int .i64 0] 27) c1)
  have hB3 : Below w.heap.size w ((W1.alloc (.cells #[.slice none 0 0, .int .i64 0] 27)).alloc rs0) := (hB.alloc hB.size _).alloc (by have := hB.size; simp; omega) _
  simp only [World.size_alloc] at hR2
  obtain ⟨W3, hW3⟩ : ∃ W3, (W1.alloc (.cells #[.slice none 0 0, .int .i64 0] 27)).alloc rs0 = W3 := ⟨_, rfl⟩
  have HW3 := Hid.mk hW3
  have hs3 : W1.heap.size + 2 ≤ W3.heap.size := by rw [← hW3]; simp
  rw [hW3] at hS2 hR2 e0 e1 hB3
  clear hb2 hS hW1 hW3 c0 c1 hB
  have HW13 : Hid (((w.alloc (.cells #[.int .i64 s, .int .i64 c] 70)).alloc (.cells #[.slice none 0 0, .int .i64 0] 27)).alloc (.cells #[.slice none 0 0, .slice none 0 0, .int .i64 0] 56) = W3 ∧ w.heap.size + 1 = W1.heap.size) := by
    refine ⟨?_, ?_⟩
    · rw [HW1.out]; exact HW3.out
    · rw [← HW1.out]; simp
  go_enter Try.func30, Try.ntmps30
  go_wp2_with fail
  rw [HW13.out.1, HW13.out.2]
  refine (sNew_any W1.heap.size s c W3).mono ?_
  rintro e w1 ⟨hb1, hq⟩
  have f0 := keep_be hb1 e0
  have f1 := keep_be hb1 e1
  have hS4 := hS2.below hb1
  have hR4 := below_at hb1 hR2 (lt_of_heap hR2)
  have hB4 := hB3.trans (hb1.mono hB3.size)
  have HQN := Hid.mk (qNew_any (W1.heap.size + 1) s c w1)
  rcases hq with ⟨hk, b, hbb, hL, rfl⟩ | ⟨hk, rfl⟩
  · have hG : Seg w W1.heap.size b s c ⟨[], 0⟩ ⟨[], []⟩ [(W1.heap.size + 1, rs0)] w1 := by
      refine ⟨[W1.heap.size], [b], hS4, hL, by simp; omega, by simp; omega, by simp; omega, hB4, ?_⟩
      intro x hx
      simp only [List.mem_singleton] at hx
      subst hx
      exact ⟨by simp, by simp; omega, hR4⟩
    have HG := Hid.mk hG
    have HK := Hid.mk hk
    clear hG hS4 hR4 hL hk hS2 hR2 e0 e1 hb1
    go_wp2_with fail
    refine HQN.out.mono ?_
    rintro e w2 ⟨hb2, hq⟩
    rw [HK.out] at hq
    rcases hq with ⟨-, q, hqq, hql, rfl⟩ | ⟨q, -⟩
    · have hG2 := (HG.out.grow hb2 hqq hql).alloc (pl24 W1.heap.size b (W1.heap.size + 1) q)
      have HG2 := Hid.mk hG2
      have hx : w.heap.size ≤ w2.heap.size := by have := hB4.size; have := hb2.size; omega
      clear hG2 hb2 hql f0 f1 HG
      go_wp2_with fail
      go_ret2
      exact .inl ⟨HK.out, _, _, _, _, _, rfl, hx, HG2.out⟩
    · cases q
  · have HK := Hid.mk hk
    clear hS4 hR4 hk hS2 hR2 e0 e1 hb1
    go_wp2_with fail
    refine HQN.out.mono ?_
    rintro e w2 ⟨hb2, hq⟩
    rw [HK.out] at hq
    rcases hq with ⟨q, -⟩ | ⟨-, rfl⟩
    · cases q
    · have hB5 := hB4.trans (hb2.mono hB4.size)
      have HX := Hid.mk (heap_alloc_new w2 (.cells #[.pointer (some ⟨W1.heap.size, 0, none⟩), .pointer none, .pointer (some ⟨W1.heap.size + 1, 0, none⟩), .pointer none] 78))
      clear hb2 f0 f1
      go_wp2_with fail
      go_ret2
      exact .inr ⟨HK.out, _, _, _, rfl, hB5.alloc hB5.size _, HX.out⟩
end Go.Proofs.Ytkooogllajmkeaa
