/- Parts Gh Gi Gj Gk Gm, put together. -/
import Derived.Test.YtpfnnmcokbolhaaMe5
import Derived.Deep.RegionHeld3
import Derived.Deep.DrawnRows
/- A link's methods that read: none, Top, Live, Kept. -/
namespace Go.Proofs.Ytpfnnmcokbolhaa
open Go.RowKit
set_option pp.deepTerms true
section
variable {w W W' : World} {p b : Nat} {sz ca : Int} {S S' : Sp} {L L' : Lk} {E : List (Nat × Obj)}
theorem none24_any (hc : W.cell? ⟨b, 0, none⟩ = some (.pointer (some ⟨p, 0, none⟩))) : Calls Try.prog 60 #[.pointer (some ⟨b, 0, none⟩)] W fun e w' => e = .returned (.bool false) ∧ w' = W := by
  go_enter Try.func60, Try.ntmps60
  go_wp2
  go_ret
  exact ⟨rfl, rfl⟩
theorem LkAt.c {lv kv : Value} (h : LkAt W b p sz ca L lv kv) : W.cell? ⟨b, 0, none⟩ = some (.pointer (some ⟨p, 0, none⟩)) ∧ W.cell? ⟨b, 1, none⟩ = some (.int .i64 sz) ∧ W.cell? ⟨b, 2, none⟩ = some (.int .i64 ca) ∧ W.cell? ⟨b, 3, none⟩ = some lv ∧ W.cell? ⟨b, 4, none⟩ = some kv := by
  refine ⟨?_, ?_, ?_, ?_, ?_⟩ <;> (rw [cell_of_row W b _ _ _ _ h.head]; rfl)
set_option maxRecDepth 100000 in
set_option maxHeartbeats 1000000 in
theorem top24_seg (h : Seg w p b sz ca S L E W) (hn : L.live.length ≤ 1000000) : Calls Try.prog 40 #[.pointer (some ⟨b, 0, none⟩)] W fun e w' => Seg w p b sz ca S L E w' ∧ Below W.heap.size W w' ∧
    e = .returned (.tuple #[.agg #[.int .i64 (topOf L.live).1.1, .int .i64 (topOf L.live).1.2], .bool (topOf L.live).2]) := by
  obtain ⟨lv, kv, hk⟩ := h.link
  obtain ⟨c0, -, -, c3, -⟩ := hk.c
  have HR : Hid (∀ o, (W.alloc o).ownsRow 0 88 2 lv L.live.length (wcells L.live)) := fun o => hk.live.alloc o
  obtain ⟨⟨y1, y2⟩, y3, hy⟩ : ∃ y y3, topOf L.live = (y, y3) := ⟨_, _, rfl⟩
  have HY := Hid.mk hy
  rw [hy]
  have HH := Hid.mk h
  have hb0 := fun o => (Below.refl W.heap.size W).alloc (Nat.le_refl _) o
  clear h hk hy
  go_enter Try.func40, Try.ntmps40
  go_wp2_with fail
  refine (none24_any (alloc_cell c0)).mono ?_
  rintro e w1 ⟨rfl, rfl⟩
  go_wp2_with fail
  refine (hlast_any (alloc_cell c3) (HR.out _) (by omega)).mono ?_
  rintro e w1 ⟨hb1, rfl⟩
  rw [HY.out]
  have hR := below_at hb1 (heap_alloc_new W (.cells #[.int .i64 0, .int .i64 0] 88)) (by simp)
  have z0 : w1.cell? ⟨W.heap.size, 0, none⟩ = some (.int .i64 0) := by rw [cell_of_row w1 _ 0 _ _ _ hR]; rfl
  have z1 : w1.cell? ⟨W.heap.size, 1, none⟩ = some (.int .i64 0) := by rw [cell_of_row w1 _ 1 _ _ _ hR]; rfl
  have zf := fun o => frozen_of_row w1 W.heap.size o _ _ hR
  have hb2 : Below W.heap.size W w1 := (hb0 _).trans (hb1.mono (by simp))
  clear hb1 hR c0 c3
  go_wp2_with fail
  refine bodyPost_ret (v := .tuple #[.agg #[.int .i64 y1, .int .i64 y2], .bool y3]) (by simp [results, Try.results40, go_sem, z0, z1]) rfl ⟨?_, ?_, rfl⟩
  · exact HH.out.keep ((hb2.setCell (p := ⟨W.heap.size, 0, none⟩) (Nat.le_refl _) _).setCell (p := ⟨W.heap.size, 1, none⟩) (Nat.le_refl _) _)
  · exact (hb2.setCell (p := ⟨W.heap.size, 0, none⟩) (Nat.le_refl _) _).setCell (p := ⟨W.heap.size, 1, none⟩) (Nat.le_refl _) _
/-- a row of told regions of the call's own -/
def OwnR (W : World) (xs : List (Int × Int)) (e : Ending) (w' : World) : Prop := ∃ v, e = .returned v ∧ w'.ownsRow W.heap.size 88 2 v xs.length (wcells xs)
set_option maxRecDepth 100000 in
theorem kept24_seg (h : Seg w p b sz ca S L E W) (hn : L.kept.length ≤ 1000000) : Calls Try.prog 52 #[.pointer (some ⟨b, 0, none⟩)] W fun e w' => Seg w p b sz ca S L E w' ∧ Below W.heap.size W w' ∧ OwnR W L.kept e w' := by
  obtain ⟨lv, kv, hk⟩ := h.link
  obtain ⟨c0, -, -, -, c4⟩ := hk.c
  have hc := cloneR_any hk.kept (by omega)
  have HH := Hid.mk h
  obtain ⟨ao, c, rfl⟩ := own_shape hk.kept
  clear h hk
  go_enter Try.func52, Try.ntmps52
  go_wp2_with fail
  refine (none24_any c0).mono ?_
  rintro e w1 ⟨rfl, rfl⟩
  go_wp2_with fail
  refine hc.mono ?_
  rintro e w1 ⟨hb1, v, rfl, hown⟩
  go_wp2_with fail
  go_ret
  exact ⟨HH.out.keep hb1, hb1, v, rfl, hown⟩
set_option maxRecDepth 100000 in
theorem live24_seg (h : Seg w p b sz ca S L E W) (hn : L.live.length ≤ 1000000) : Calls Try.prog 51 #[.pointer (some ⟨b, 0, none⟩)] W fun e w' => Seg w p b sz ca S L E w' ∧ Below W.heap.size W w' ∧ OwnR W L.live e w' := by
  obtain ⟨lv, kv, hk⟩ := h.link
  obtain ⟨c0, -, -, c3, -⟩ := hk.c
  have hc := cloneR_any hk.live (by omega)
  have HH := Hid.mk h
  obtain ⟨ao, c, rfl⟩ := own_shape hk.live
  clear h hk
  go_enter Try.func51, Try.ntmps51
  go_wp2_with fail
  refine (none24_any c0).mono ?_
  rintro e w1 ⟨rfl, rfl⟩
  go_wp2_with fail
  refine hc.mono ?_
  rintro e w1 ⟨hb1, v, rfl, hown⟩
  go_wp2_with fail
  go_ret
  exact ⟨HH.out.keep hb1, hb1, v, rfl, hown⟩
end
end Go.Proofs.Ytpfnnmcokbolhaa
/- A link's Push. -/
namespace Go.Proofs.Ytpfnnmcokbolhaa
open Go.RowKit
set_option pp.deepTerms true
attribute [local go_sem ↓] Go.wp_at_zero Go.wp_at_succ
section
variable {w W W' : World} {p b : Nat} {sz ca : Int} {S S' : Sp} {L L' : Lk} {E : List (Nat × Obj)}
theorem Seg.c0 (h : Seg w p b sz ca S L E W) : W.cell? ⟨b, 0, none⟩ = some (.pointer (some ⟨p, 0, none⟩)) := by
  obtain ⟨lv, kv, hk⟩ := h.link
  exact hk.c.1
theorem Seg.on_link (h : Seg w p b sz ca S L E W) : ∃ lv kv, LkAt W b p sz ca L lv kv ∧ ∀ W' L', LStp W b p sz ca (lfoot b lv kv) L' W' → Seg w p b sz ca S L' E W' := by
  obtain ⟨fs, hs, h1, ⟨lv, kv, hk, rfl⟩, h3, h4, h5, h6, h7⟩ := h
  exact ⟨lv, kv, hk, fun W' L' hl => Seg.lstp h1 h3 h4 h5 h6 h7 hl⟩
theorem Seg.on_space (h : Seg w p b sz ca S L E W) : ∃ fs, Spc W p S fs ∧ ∀ W' S', Stp W p fs S' W' → Seg w p b sz ca S' L E W' := by
  obtain ⟨fs, hs, h1, h2, h3, h4, h5, h6, h7⟩ := h
  exact ⟨fs, h1, fun W' S' hl => Seg.sstp h2 h3 h4 h5 h6 h7 hl⟩
theorem Seg.notin {lv kv : Value} (h : Seg w p b sz ca S L E W) (hk : LkAt W b p sz ca L lv kv) {B : Nat} {o : Obj} (hm : (B, o) ∈ E) : lv.ownBlock ≠ some B := by
  obtain ⟨fs, hs, h1, ⟨lv', kv', hk', rfl⟩, h3, h4, h5, h6, h7⟩ := h
  have e := hk'.head.symm.trans hk.head
  simp only [Option.some.injEq, Obj.cells.injEq, Array.mk.injEq, List.cons.injEq, and_true, true_and] at e
  obtain ⟨rfl, rfl⟩ := e
  exact fun q => (h7 _ hm).2.1 (by simp [lfoot, q])
theorem Seg.notin2 {lv kv : Value} (h : Seg w p b sz ca S L E W) (hk : LkAt W b p sz ca L lv kv) {B : Nat} {o : Obj} (hm : (B, o) ∈ E) : kv.ownBlock ≠ some B := by
  obtain ⟨fs, hs, h1, ⟨lv', kv', hk', rfl⟩, h3, h4, h5, h6, h7⟩ := h
  have e := hk'.head.symm.trans hk.head
  simp only [Option.some.injEq, Obj.cells.injEq, Array.mk.injEq, List.cons.injEq, and_true, true_and] at e
  obtain ⟨rfl, rfl⟩ := e
  exact fun q => (h7 _ hm).2.1 (by simp [lfoot, q])
set_option maxRecDepth 100000 in
set_option maxHeartbeats 4000000 in
theorem push_no (h : Seg w p b sz ca S L E W) (m : Int) (hm : m < 1 ∨ 65536 < m) : Calls Try.prog 37 #[.pointer (some ⟨b, 0, none⟩), .int .i64 m] W fun e w' => Seg w p b sz ca S L E w' ∧ Below W.heap.size W w' ∧ e = .returned (.tuple #[.agg #[.int .i64 0, .int .i64 0], .int .i64 240]) := by
  obtain ⟨lv, kv, hk⟩ := h.link
  have c0 := hk.c.1
  have HH := Hid.mk h
  have hb0 := fun o => (Below.refl W.heap.size W).alloc (Nat.le_refl _) o
  clear h hk
  rcases Int.lt_or_le m 1 with q | q
  · have d1 : decide (m < 1) = true := by simpa using q
    clear hm q
    go_enter Try.func37, Try.ntmps37
    go_wp2_with fail
    refine (none24_any (alloc_cell c0)).mono ?_
    rintro e w1 ⟨rfl, rfl⟩
    go_wp2_with fail
    refine bodyPost_ret (v := .tuple #[.agg #[.int .i64 0, .int .i64 0], .int .i64 240]) (by simp [results, Try.results37, go_sem]) rfl ⟨HH.out.keep (hb0 _), hb0 _, rfl⟩
  · have d1 : decide (m < 1) = false := by simpa using q
    have d2 : decide (m > 65536) = true := by simp; omega
    clear hm q
    go_enter Try.func37, Try.ntmps37
    go_wp2_with fail
    refine (none24_any (alloc_cell c0)).mono ?_
    rintro e w1 ⟨rfl, rfl⟩
    go_wp2_with fail
    refine bodyPost_ret (v := .tuple #[.agg #[.int .i64 0, .int .i64 0], .int .i64 240]) (by simp [results, Try.results37, go_sem]) rfl ⟨HH.out.keep (hb0 _), hb0 _, rfl⟩
set_option maxRecDepth 100000 in
set_option maxHeartbeats 4000000 in
theorem push_fit (h : Seg w p b sz ca S L E W) (m : Int) (hm : 1 ≤ m ∧ m ≤ 65536) (hll : L.live.length ≤ 1000000) (hkl : L.kept.length ≤ 1000000) {i : Nat} {y1 y2 : Int} (hf : fitAt L.kept m = some i) (hy : L.kept[i]? = some (y1, y2)) :
    Calls Try.prog 37 #[.pointer (some ⟨b, 0, none⟩), .int .i64 m] W fun e w' => Seg w p b sz ca S ⟨L.live ++ [(y1, y2)], L.kept.eraseIdx i⟩ E w' ∧ e = .returned (.tuple #[.agg #[.int .i64 y1, .int .i64 y2], .int .i64 0]) := by
  obtain ⟨i0, hi, hz0, hz1, hz2⟩ := info_parts infoR
  have hA := h.alloc (.cells #[.int .i64 0, .int .i64 0] 88)
  have hwW := h.size.size
  have HEL : Hid (∀ x ∈ E, x.1 ≠ W.heap.size) := fun x hx => by have := h.ltE x hx; omega
  obtain ⟨lv, kv, hk, hon⟩ := hA.on_link
  have c0 := hk.c.1
  have hfit := fit_any (b := b) (o := 4) hk.head rfl hk.kept (by omega) m hm.1
  unfold FitPost at hfit
  rw [hf] at hfit
  have HF := Hid.mk hfit
  have HON := Hid.mk hon
  have HK := Hid.mk hk
  have HY := Hid.mk hy
  have d1 : decide (m < 1) = false := by simp; omega
  have d2 : decide (m > 65536) = false := by simp; omega
  clear hfit hon hk h hA hm hy
  go_enter Try.func37, Try.ntmps37
  go_wp2_with fail
  refine (none24_any c0).mono ?_
  rintro e w1 ⟨rfl, rfl⟩
  go_wp2_with fail
  refine HF.out.mono ?_
  rintro e w1 ⟨hrow, y1', y2', hy', rfl⟩
  rw [HY.out] at hy'
  simp only [Option.some.injEq, Prod.mk.injEq] at hy'
  obtain ⟨rfl, rfl⟩ := hy'
  have hG0 := HON.out _ _ (lk_kept HK.out hrow)
  have hRl := hG0.ltE _ (List.Mem.head _)
  simp only at hRl
  have hG := hG0.alloc (.cells #[.int .i64 y1, .int .i64 y2] 88)
  clear hrow HON HK HF HY c0 d1 d2 hG0
  go_upto_region 12 with (fail)
  obtain ⟨X, hX⟩ : ∃ X, w1.alloc (.cells #[.int .i64 y1, .int .i64 y2] 88) = X := ⟨_, rfl⟩
  obtain ⟨Bx, hBx⟩ : ∃ Bx, w1.heap.size = Bx := ⟨_, rfl⟩
  have hBW : Bx ≠ W.heap.size := by omega
  rw [hX] at hG ⊢
  rw [hBx] at hG ⊢
  clear hX hBx
  obtain ⟨lv, kv, hk, hon⟩ := hG.on_link
  have HON := Hid.mk hon
  have HK := Hid.mk hk
  have s0 := hk.c.2.2.2.1
  have s1 := hG.box (j := 0) (List.Mem.head _) rfl
  have s2 := hG.box (j := 1) (List.Mem.head _) rfl
  have HG := Hid.mk hG
  obtain ⟨ao, cap, e0⟩ := own_shape hk.live
  subst e0
  clear hk hon hG
  refine wp_region_L 14 (fun W' => W'.cell? ⟨b, 3, none⟩ = some (.slice ao L.live.length cap) ∧ W'.cell? ⟨Bx, 0, none⟩ = some (.int .i64 y1) ∧ W'.cell? ⟨Bx, 1, none⟩ = some (.int .i64 y2)) (by kernel_rfl) ⟨s0, s1, s2⟩ (fun hHeld => ?_)
  refine wpAnyL_take (i := 0) (v := ?_) rfl (by kernel_rfl) (by kernel_rfl) (by kernel_rfl) (by kernel_rfl) (fun _ _ _ h => h) (Or.inl ⟨by rfl, ?_⟩) (by assumption) ?_
  rotate_left
  · (intro w hSw; (try dsimp only at hSw); go_simp <;> with_reducible rfl)
  (try simp only [Act.put, List.getElem_toArray, List.getElem_cons_zero, List.setIfInBounds_toArray, List.set_cons_zero, List.set_cons_succ])
  refine wpAnyL_take (i := 1) (v := ?_) rfl (by kernel_rfl) (by kernel_rfl) (by kernel_rfl) (by kernel_rfl) (fun _ _ _ h => h) (Or.inl ⟨by rfl, ?_⟩) (by assumption) ?_
  rotate_left
  · (intro w hSw; (try dsimp only at hSw); go_simp <;> with_reducible rfl)
  (try simp only [Act.put, List.getElem_toArray, List.getElem_cons_zero, List.getElem_cons_succ, List.setIfInBounds_toArray, List.set_cons_zero, List.set_cons_succ])
  refine wpAnyL_take (i := 2) (v := ?_) rfl (by kernel_rfl) (by kernel_rfl) (by kernel_rfl) (by kernel_rfl) (fun _ _ _ h => h) (Or.inl ⟨by rfl, ?_⟩) (by assumption) ?_
  rotate_left
  · (intro w hSw; (try dsimp only at hSw); go_simp <;> with_reducible rfl)
  (try simp only [Act.put, List.getElem_toArray, List.getElem_cons_zero, List.getElem_cons_succ, List.setIfInBounds_toArray, List.set_cons_zero, List.set_cons_succ])
  refine wpAnyL_take (i := 3) (v := ?_) rfl (by kernel_rfl) (by kernel_rfl) (by kernel_rfl) (by kernel_rfl) (fun _ _ _ h => h) (Or.inl ⟨by rfl, ?_⟩) (by assumption) ?_
  rotate_left
  · (intro w hSw; (try dsimp only at hSw); go_simp <;> with_reducible rfl)
  (try simp only [Act.put, List.getElem_toArray, List.getElem_cons_zero, List.getElem_cons_succ, List.setIfInBounds_toArray, List.set_cons_zero, List.set_cons_succ])
  refine wpAnyL_take (i := 4) (v := ?_) rfl (by kernel_rfl) (by kernel_rfl) (by kernel_rfl) (by kernel_rfl) (fun _ _ _ h => h) (Or.inl ⟨by rfl, ?_⟩) (by assumption) ?_
  rotate_left
  · (intro w hSw; (try dsimp only at hSw); go_simp <;> with_reducible rfl)
  (try simp only [Act.put, List.getElem_toArray, List.getElem_cons_zero, List.getElem_cons_succ, List.setIfInBounds_toArray, List.set_cons_zero, List.set_cons_succ])
  refine wpAnyL_take (i := 5) (v := ?_) rfl (by kernel_rfl) (by kernel_rfl) (by kernel_rfl) (by kernel_rfl) (fun _ _ _ h => h) (Or.inl ⟨by rfl, ?_⟩) (by assumption) ?_
  rotate_left
  · (intro w hSw; (try dsimp only at hSw); go_simp <;> with_reducible rfl)
  (try simp only [Act.put, List.getElem_toArray, List.getElem_cons_zero, List.getElem_cons_succ, List.setIfInBounds_toArray, List.set_cons_zero, List.set_cons_succ])
  refine wpAnyL_take (i := 6) (v := ?_) rfl (by kernel_rfl) (by kernel_rfl) (by kernel_rfl) (by kernel_rfl) (fun _ _ _ h => h) (Or.inl ⟨by rfl, ?_⟩) (by assumption) ?_
  rotate_left
  · (intro w hSw; (try dsimp only at hSw); go_simp <;> with_reducible rfl)
  (try simp only [Act.put, List.getElem_toArray, List.getElem_cons_zero, List.getElem_cons_succ, List.setIfInBounds_toArray, List.set_cons_zero, List.set_cons_succ])
  refine wpAnyL_take (i := 7) (v := ?_) rfl (by kernel_rfl) (by kernel_rfl) (by kernel_rfl) (by kernel_rfl) (fun _ _ _ h => h) (Or.inl ⟨by rfl, ?_⟩) (by assumption) ?_
  rotate_left
  · (intro w hSw; (try dsimp only at hSw); go_simp <;> with_reducible rfl)
  (try simp only [Act.put, List.getElem_toArray, List.getElem_cons_zero, List.getElem_cons_succ, List.setIfInBounds_toArray, List.set_cons_zero, List.set_cons_succ])
  refine wpAnyL_only (i := 8) (by kernel_rfl) rfl (fun K hK => ?_)
  go_simp
  refine hK _ _ (fun _ => ⟨alloc_cell s0, alloc_cell s1, alloc_cell s2⟩) (fun hHeld0 => ?_)
  have hHeld := hHeld0 rfl
  clear hK K hHeld0
  (try simp only [Act.put, List.getElem_toArray, List.getElem_cons_zero, List.getElem_cons_succ, List.setIfInBounds_toArray, List.set_cons_zero, List.set_cons_succ])
  refine wpAnyL_only (i := 9) (by kernel_rfl) rfl (fun K hK => ?_)
  refine step_append_lies _ (by rfl) _ _ _ (by rfl) 0 88 i0 (.agg #[.int .i64 0, .int .i64 0]) 2 16 Try.underlying60 hi hz0 hz1 hz2 rfl (by omega) (.slice ao L.live.length cap) L.live.length (wcells L.live) (by rfl) ((HK.out.live.alloc _).drew) ⟨X.heap.size, 0, none⟩ 1 1 [.int .i64 y1, .int .i64 y2] (by rfl) (by rfl) (two_new _ _ _ _) (by simp [Value.oneCell']) (by omega) (by unfold maxLen; omega) (by omega) (Nat.zero_le _) (X.heap.size + 1) (by simp) ?_
  intro g2 cap2 w2 hown2 hg2 hat2 hlt2
  have HL := Hid.mk (lk_push (ob := .cells #[.int .i64 y1, .int .i64 y2] 88) HK.out hown2 ⟨hg2.os, hg2.tape, hg2.output, hg2.size, hg2.block⟩ hat2)
  have hbo : (Value.slice ao L.live.length cap).ownBlock ≠ some b := fun e => (List.nodup_cons.1 HK.out.nodup).1 (by simp [e])
  have hb2 : w2.heap[b]? = some (.cells #[.pointer (some ⟨p, 0, none⟩), .int .i64 sz, .int .i64 ca, .slice ao L.live.length cap, kv] 122 (0, 0)) := (hg2.block b (by have := lt_of_heap HK.out.head; simp; omega) (fun e => hbo e.symm)).trans ((Below.heap_alloc _ _ _ (lt_of_heap HK.out.head)).trans HK.out.head)
  have t0 : w2.cell? ⟨b, 3, none⟩ = some (.slice ao L.live.length cap) := by rw [cell_of_row w2 b 3 _ _ _ hb2]; rfl
  have tf : w2.frozen? ⟨b, 3, none⟩ = false := frozen_of_row w2 b 3 _ _ hb2
  have hBo : (Value.slice ao L.live.length cap).ownBlock ≠ some (Bx) := HG.out.notin HK.out (List.Mem.head _)
  have t1 : w2.cell? ⟨Bx, 0, none⟩ = some (.int .i64 y1) := grown_cell hg2 (alloc_cell (o := .cells #[.int .i64 y1, .int .i64 y2] 88) s1) (fun e => hBo e.symm)
  have t2 : w2.cell? ⟨Bx, 1, none⟩ = some (.int .i64 y2) := grown_cell hg2 (alloc_cell (o := .cells #[.int .i64 y1, .int .i64 y2] 88) s2) (fun e => hBo e.symm)
  refine hK _ _ (fun _ => ⟨t0, t1, t2⟩) (fun hHeld0 => ?_)
  have hHeld := hHeld0 rfl
  clear hK K hHeld0
  (try simp only [Act.put, List.getElem_toArray, List.getElem_cons_zero, List.getElem_cons_succ, List.setIfInBounds_toArray, List.set_cons_zero, List.set_cons_succ])
  refine wpAnyL_only (i := 10) (by kernel_rfl) rfl (fun K hK => ?_)
  go_simp
  refine hK _ _ (fun _ => ⟨t0, t1, t2⟩) (fun hHeld0 => ?_)
  have hHeld := hHeld0 rfl
  clear hK K hHeld0
  (try simp only [Act.put, List.getElem_toArray, List.getElem_cons_zero, List.getElem_cons_succ, List.setIfInBounds_toArray, List.set_cons_zero, List.set_cons_succ])
  refine wpAnyL_only (i := 11) (by kernel_rfl) rfl (fun K hK => ?_)
  go_simp
  refine hK _ _ (fun _ => ⟨t0, t1, t2⟩) (fun hHeld0 => ?_)
  have hHeld := hHeld0 rfl
  clear hK K hHeld0
  (try simp only [Act.put, List.getElem_toArray, List.getElem_cons_zero, List.getElem_cons_succ, List.setIfInBounds_toArray, List.set_cons_zero, List.set_cons_succ])
  refine wpAnyL_only (i := 12) (by kernel_rfl) rfl (fun K hK => ?_)
  go_simp
  refine hK _ _ (fun _ => ⟨t0, t1, t2⟩) (fun hHeld0 => ?_)
  have hHeld := hHeld0 rfl
  clear hK K hHeld0
  (try simp only [Act.put, List.getElem_toArray, List.getElem_cons_zero, List.getElem_cons_succ, List.setIfInBounds_toArray, List.set_cons_zero, List.set_cons_succ])
  refine wpAnyL_only (i := 13) (by kernel_rfl) rfl (fun K hK => ?_)
  go_simp
  refine hK _ _ (fun _ => ⟨t0, t1, t2⟩) (fun hHeld0 => ?_)
  have hHeld := hHeld0 rfl
  clear hK K hHeld0
  (try simp only [Act.put, List.getElem_toArray, List.getElem_cons_zero, List.getElem_cons_succ, List.setIfInBounds_toArray, List.set_cons_zero, List.set_cons_succ])
  refine wpAnyL_only (i := 14) (by kernel_rfl) rfl (fun K hK => ?_)
  go_simp
  refine hK _ _ (fun q => by cases q) (fun hHeld0 => ?_)
  clear hK K hHeld0
  refine wpAnyL_done (by kernel_rfl) ?_
  have HS := Hid.mk (HON.out _ _ HL.out)
  clear HL hown2 hg2 hat2 hlt2 hbo hb2 t0 tf hBo t1 t2 s0 s1 s2
  have e0 := HS.out.box (j := 0) (List.Mem.head _) rfl
  have e1 := HS.out.box (j := 1) (List.Mem.head _) rfl
  have r0 := HS.out.box (j := 0) (List.Mem.tail _ (List.Mem.head _)) rfl
  have r1 := HS.out.box (j := 1) (List.Mem.tail _ (List.Mem.head _)) rfl
  have rf := HS.out.free (List.Mem.tail _ (List.Mem.head _))
  go_wp2_with fail
  refine bodyPost_ret (v := .tuple #[.agg #[.int .i64 y1, .int .i64 y2], .int .i64 0]) (by simp [results, Try.results37, go_sem, r0, r1]) rfl ⟨?_, rfl⟩
  exact ((((HS.out.sub (E' := (W.heap.size, (.cells #[.int .i64 0, .int .i64 0] 88)) :: E) (by intro x hx; exact List.mem_cons_of_mem _ hx)).store hwW HEL.out 0 (.int .i64 y1)).store hwW HEL.out 1 (.int .i64 y2))).sub (fun x hx => List.mem_cons_of_mem _ hx)
set_option maxRecDepth 100000 in
set_option maxHeartbeats 4000000 in
theorem push_take1 (h : Seg w p b sz ca S L E W) (m n : Int) (hm : 1 ≤ m ∧ m ≤ 65536) (hmx : (sz ≤ m ∧ n = m) ∨ (¬ sz ≤ m ∧ n = sz)) (hll : L.live.length ≤ 1000000) (hkl : L.kept.length ≤ 1000000) (hf : fitAt L.kept m = none) (hla : S.last ≤ 1152921504606846976) {nb er : Int} (ht : (S.take n).1 = (nb, er)) :
    Calls Try.prog 37 #[.pointer (some ⟨b, 0, none⟩), .int .i64 m] W fun e w' => (er = 0 ∧ Seg w p b sz ca (S.take n).2 ⟨L.live ++ [(nb, n)], L.kept⟩ E w' ∧ e = .returned (.tuple #[.agg #[.int .i64 nb, .int .i64 n], .int .i64 0])) ∨
      (er ≠ 0 ∧ Seg w p b sz ca (S.take n).2 L E w' ∧ e = .returned (.tuple #[.agg #[.int .i64 0, .int .i64 0], .int .i64 er])) := by
  obtain ⟨i0, hi, hz0, hz1, hz2⟩ := info_parts infoR
  have hA := h.alloc (.cells #[.int .i64 0, .int .i64 0] 88)
  have hwW := h.size.size
  have HEL : Hid (∀ x ∈ E, x.1 ≠ W.heap.size) := fun x hx => by have := h.ltE x hx; omega
  have HEL2 : Hid (∀ x ∈ E, x.1 < W.heap.size) := h.ltE
  obtain ⟨lv, kv, hk, hon⟩ := hA.on_link
  have c0 := hk.c.1
  have hfit := fit_any (b := b) (o := 4) hk.head rfl hk.kept (by omega) m hm.1
  unfold FitPost at hfit
  rw [hf] at hfit
  have HF := Hid.mk hfit
  have HT := Hid.mk ht
  have d1 : decide (m < 1) = false := by simp; omega
  have d2 : decide (m > 65536) = false := by simp; omega
  have HA := Hid.mk hA
  clear hfit hon hk h hA hm hf ht
  go_enter Try.func37, Try.ntmps37
  go_wp2_with fail
  refine (none24_any c0).mono ?_
  rintro e w1 ⟨rfl, rfl⟩
  go_wp2_with fail
  refine HF.out.mono ?_
  rintro e w1 ⟨hb1, rfl⟩
  have hG0 := HA.out.keep hb1
  have hRl := hG0.ltE _ (List.Mem.head _)
  simp only at hRl
  have hG1 := hG0.alloc (.cells #[.int .i64 0, .int .i64 0] 88)
  obtain ⟨lv1, kv1, hk1⟩ := hG1.link
  have c0' := hk1.c.1
  have c1' := hk1.c.2.1
  clear HF c0 d1 d2 hk1 hG1 HA hb1
  rcases hmx with ⟨hms, hn⟩ | ⟨hms, hn⟩
  all_goals
    have HN := Hid.mk hn
    clear hn
    go_wp2_with fail
    try rw [← HN.out]
    obtain ⟨Bx, hBx⟩ : ∃ Bx, w1.heap.size = Bx := ⟨_, rfl⟩
    have hG2 := hG0.alloc (.cells #[.int .i64 0, .int .i64 n] 88)
    obtain ⟨X0, hX0⟩ : ∃ X0, w1.alloc (.cells #[.int .i64 0, .int .i64 n] 88) = X0 := ⟨_, rfl⟩
    have hBW : Bx ≠ W.heap.size := by omega
    have hBW2 : W.heap.size < Bx := by omega
    have hBw : w.heap.size ≤ Bx := by omega
    rw [hX0] at hG2 ⊢
    rw [hBx] at hG2 ⊢
    clear hX0 hBx hRl hG0 c0' c1'
    obtain ⟨lv1, kv1, hk1⟩ := hG2.link
    have c0 := hk1.c.1
    have z1 := hG2.box (j := 1) (List.Mem.head _) rfl
    have b0 := hG2.keep (Below.refl _ _).drew
    obtain ⟨fs, hsp, hon⟩ := b0.on_space
    have HEB : Hid (∀ x ∈ (W.heap.size, Obj.cells #[.int .i64 0, .int .i64 0] 88) :: E, x.1 ≠ Bx) := by
      intro x hx
      rcases List.mem_cons.1 hx with rfl | hx
      · exact fun e => hBW e.symm
      · have := HEL2.out x hx; omega
    clear hk1
    go_region_held3 (fun W' => W'.cell? ⟨b, 0, none⟩ = some (.pointer (some ⟨p, 0, none⟩)) ∧ W'.cell? ⟨Bx, 1, none⟩ = some (.int .i64 n)) (first | exact ⟨hG3.c0, hG3.box (j := 1) (List.Mem.head _) rfl⟩ | exact ⟨b0.c0, b0.box (j := 1) (List.Mem.head _) rfl⟩) ((go_at_call 62; refine (take_spc hsp n hla).mono ?_; rintro e w2 ⟨hst, rfl⟩; rw [HT.out]; have hG3 := hon _ _ hst))
    have hG3 := hon _ _ hst
    have u0 := hG3.box (j := 0) (List.Mem.head _) rfl
    have u1 := hG3.box (j := 1) (List.Mem.head _) rfl
    have uf := hG3.free (List.Mem.head _)
    have r0 := hG3.box (j := 0) (List.Mem.tail _ (List.Mem.head _)) rfl
    have r1 := hG3.box (j := 1) (List.Mem.tail _ (List.Mem.head _)) rfl
    have rf := hG3.free (List.Mem.tail _ (List.Mem.head _))
    clear hon hsp hst z1 c0 b0 hG2
    by_cases her : er = 0
    · subst her
      go_upto_region 12 with (fail)
      have hG := hG3.store hBw HEB.out 0 (.int .i64 nb)
      simp only [List.setIfInBounds_toArray, List.set_cons_zero] at hG
      obtain ⟨X, hX⟩ : ∃ X, w2.setCell ⟨Bx, 0, none⟩ (.int .i64 nb) = X := ⟨_, rfl⟩
      rw [hX] at hG ⊢
      clear hX hG3 u0 u1 uf r0 r1 rf
      obtain ⟨lv, kv, hk, hon⟩ := hG.on_link
      have HON := Hid.mk hon
      have HK := Hid.mk hk
      have s0 := hk.c.2.2.2.1
      have s1 := hG.box (j := 0) (List.Mem.head _) rfl
      have s2 := hG.box (j := 1) (List.Mem.head _) rfl
      have HG := Hid.mk hG
      obtain ⟨ao, cap, e0⟩ := own_shape hk.live
      subst e0
      clear hk hon hG
      refine wp_region_L 14 (fun W' => W'.cell? ⟨b, 3, none⟩ = some (.slice ao L.live.length cap) ∧ W'.cell? ⟨Bx, 0, none⟩ = some (.int .i64 nb) ∧ W'.cell? ⟨Bx, 1, none⟩ = some (.int .i64 n)) (by kernel_rfl) ⟨s0, s1, s2⟩ (fun hHeld => ?_)
      refine wpAnyL_take (i := 0) (v := ?_) rfl (by kernel_rfl) (by kernel_rfl) (by kernel_rfl) (by kernel_rfl) (fun _ _ _ h => h) (Or.inl ⟨by rfl, ?_⟩) (by assumption) ?_
      rotate_left
      · (intro w hSw; (try dsimp only at hSw); go_simp <;> with_reducible rfl)
      (try simp only [Act.put, List.getElem_toArray, List.getElem_cons_zero, List.setIfInBounds_toArray, List.set_cons_zero, List.set_cons_succ])
      refine wpAnyL_take (i := 1) (v := ?_) rfl (by kernel_rfl) (by kernel_rfl) (by kernel_rfl) (by kernel_rfl) (fun _ _ _ h => h) (Or.inl ⟨by rfl, ?_⟩) (by assumption) ?_
      rotate_left
      · (intro w hSw; (try dsimp only at hSw); go_simp <;> with_reducible rfl)
      (try simp only [Act.put, List.getElem_toArray, List.getElem_cons_zero, List.getElem_cons_succ, List.setIfInBounds_toArray, List.set_cons_zero, List.set_cons_succ])
      refine wpAnyL_take (i := 2) (v := ?_) rfl (by kernel_rfl) (by kernel_rfl) (by kernel_rfl) (by kernel_rfl) (fun _ _ _ h => h) (Or.inl ⟨by rfl, ?_⟩) (by assumption) ?_
      rotate_left
      · (intro w hSw; (try dsimp only at hSw); go_simp <;> with_reducible rfl)
      (try simp only [Act.put, List.getElem_toArray, List.getElem_cons_zero, List.getElem_cons_succ, List.setIfInBounds_toArray, List.set_cons_zero, List.set_cons_succ])
      refine wpAnyL_take (i := 3) (v := ?_) rfl (by kernel_rfl) (by kernel_rfl) (by kernel_rfl) (by kernel_rfl) (fun _ _ _ h => h) (Or.inl ⟨by rfl, ?_⟩) (by assumption) ?_
      rotate_left
      · (intro w hSw; (try dsimp only at hSw); go_simp <;> with_reducible rfl)
      (try simp only [Act.put, List.getElem_toArray, List.getElem_cons_zero, List.getElem_cons_succ, List.setIfInBounds_toArray, List.set_cons_zero, List.set_cons_succ])
      refine wpAnyL_take (i := 4) (v := ?_) rfl (by kernel_rfl) (by kernel_rfl) (by kernel_rfl) (by kernel_rfl) (fun _ _ _ h => h) (Or.inl ⟨by rfl, ?_⟩) (by assumption) ?_
      rotate_left
      · (intro w hSw; (try dsimp only at hSw); go_simp <;> with_reducible rfl)
      (try simp only [Act.put, List.getElem_toArray, List.getElem_cons_zero, List.getElem_cons_succ, List.setIfInBounds_toArray, List.set_cons_zero, List.set_cons_succ])
      refine wpAnyL_take (i := 5) (v := ?_) rfl (by kernel_rfl) (by kernel_rfl) (by kernel_rfl) (by kernel_rfl) (fun _ _ _ h => h) (Or.inl ⟨by rfl, ?_⟩) (by assumption) ?_
      rotate_left
      · (intro w hSw; (try dsimp only at hSw); go_simp <;> with_reducible rfl)
      (try simp only [Act.put, List.getElem_toArray, List.getElem_cons_zero, List.getElem_cons_succ, List.setIfInBounds_toArray, List.set_cons_zero, List.set_cons_succ])
      refine wpAnyL_take (i := 6) (v := ?_) rfl (by kernel_rfl) (by kernel_rfl) (by kernel_rfl) (by kernel_rfl) (fun _ _ _ h => h) (Or.inl ⟨by rfl, ?_⟩) (by assumption) ?_
      rotate_left
      · (intro w hSw; (try dsimp only at hSw); go_simp <;> with_reducible rfl)
      (try simp only [Act.put, List.getElem_toArray, List.getElem_cons_zero, List.getElem_cons_succ, List.setIfInBounds_toArray, List.set_cons_zero, List.set_cons_succ])
      refine wpAnyL_take (i := 7) (v := ?_) rfl (by kernel_rfl) (by kernel_rfl) (by kernel_rfl) (by kernel_rfl) (fun _ _ _ h => h) (Or.inl ⟨by rfl, ?_⟩) (by assumption) ?_
      rotate_left
      · (intro w hSw; (try dsimp only at hSw); go_simp <;> with_reducible rfl)
      (try simp only [Act.put, List.getElem_toArray, List.getElem_cons_zero, List.getElem_cons_succ, List.setIfInBounds_toArray, List.set_cons_zero, List.set_cons_succ])
      refine wpAnyL_only (i := 8) (by kernel_rfl) rfl (fun K hK => ?_)
      go_simp
      refine hK _ _ (fun _ => ⟨alloc_cell s0, alloc_cell s1, alloc_cell s2⟩) (fun hHeld0 => ?_)
      have hHeld := hHeld0 rfl
      clear hK K hHeld0
      (try simp only [Act.put, List.getElem_toArray, List.getElem_cons_zero, List.getElem_cons_succ, List.setIfInBounds_toArray, List.set_cons_zero, List.set_cons_succ])
      refine wpAnyL_only (i := 9) (by kernel_rfl) rfl (fun K hK => ?_)
      refine step_append_lies _ (by rfl) _ _ _ (by rfl) 0 88 i0 (.agg #[.int .i64 0, .int .i64 0]) 2 16 Try.underlying60 hi hz0 hz1 hz2 rfl (by omega) (.slice ao L.live.length cap) L.live.length (wcells L.live) (by rfl) ((HK.out.live.alloc _).drew) ⟨X.heap.size, 0, none⟩ 1 1 [.int .i64 nb, .int .i64 n] (by rfl) (by rfl) (two_new _ _ _ _) (by simp [Value.oneCell']) (by omega) (by unfold maxLen; omega) (by omega) (Nat.zero_le _) (X.heap.size + 1) (by simp) ?_
      intro g2 cap2 w2 hown2 hg2 hat2 hlt2
      have HL := Hid.mk (lk_push (ob := .cells #[.int .i64 nb, .int .i64 n] 88) HK.out hown2 ⟨hg2.os, hg2.tape, hg2.output, hg2.size, hg2.block⟩ hat2)
      have hbo : (Value.slice ao L.live.length cap).ownBlock ≠ some b := fun e => (List.nodup_cons.1 HK.out.nodup).1 (by simp [e])
      have hb2 : w2.heap[b]? = some (.cells #[.pointer (some ⟨p, 0, none⟩), .int .i64 sz, .int .i64 ca, .slice ao L.live.length cap, kv] 122 (0, 0)) := (hg2.block b (by have := lt_of_heap HK.out.head; simp; omega) (fun e => hbo e.symm)).trans ((Below.heap_alloc _ _ _ (lt_of_heap HK.out.head)).trans HK.out.head)
      have t0 : w2.cell? ⟨b, 3, none⟩ = some (.slice ao L.live.length cap) := by rw [cell_of_row w2 b 3 _ _ _ hb2]; rfl
      have tf : w2.frozen? ⟨b, 3, none⟩ = false := frozen_of_row w2 b 3 _ _ hb2
      have hBo : (Value.slice ao L.live.length cap).ownBlock ≠ some (Bx) := HG.out.notin HK.out (List.Mem.head _)
      have t1 : w2.cell? ⟨Bx, 0, none⟩ = some (.int .i64 nb) := grown_cell hg2 (alloc_cell (o := .cells #[.int .i64 nb, .int .i64 n] 88) s1) (fun e => hBo e.symm)
      have t2 : w2.cell? ⟨Bx, 1, none⟩ = some (.int .i64 n) := grown_cell hg2 (alloc_cell (o := .cells #[.int .i64 nb, .int .i64 n] 88) s2) (fun e => hBo e.symm)
      refine hK _ _ (fun _ => ⟨t0, t1, t2⟩) (fun hHeld0 => ?_)
      have hHeld := hHeld0 rfl
      clear hK K hHeld0
      (try simp only [Act.put, List.getElem_toArray, List.getElem_cons_zero, List.getElem_cons_succ, List.setIfInBounds_toArray, List.set_cons_zero, List.set_cons_succ])
      refine wpAnyL_only (i := 10) (by kernel_rfl) rfl (fun K hK => ?_)
      go_simp
      refine hK _ _ (fun _ => ⟨t0, t1, t2⟩) (fun hHeld0 => ?_)
      have hHeld := hHeld0 rfl
      clear hK K hHeld0
      (try simp only [Act.put, List.getElem_toArray, List.getElem_cons_zero, List.getElem_cons_succ, List.setIfInBounds_toArray, List.set_cons_zero, List.set_cons_succ])
      refine wpAnyL_only (i := 11) (by kernel_rfl) rfl (fun K hK => ?_)
      go_simp
      refine hK _ _ (fun _ => ⟨t0, t1, t2⟩) (fun hHeld0 => ?_)
      have hHeld := hHeld0 rfl
      clear hK K hHeld0
      (try simp only [Act.put, List.getElem_toArray, List.getElem_cons_zero, List.getElem_cons_succ, List.setIfInBounds_toArray, List.set_cons_zero, List.set_cons_succ])
      refine wpAnyL_only (i := 12) (by kernel_rfl) rfl (fun K hK => ?_)
      go_simp
      refine hK _ _ (fun _ => ⟨t0, t1, t2⟩) (fun hHeld0 => ?_)
      have hHeld := hHeld0 rfl
      clear hK K hHeld0
      (try simp only [Act.put, List.getElem_toArray, List.getElem_cons_zero, List.getElem_cons_succ, List.setIfInBounds_toArray, List.set_cons_zero, List.set_cons_succ])
      refine wpAnyL_only (i := 13) (by kernel_rfl) rfl (fun K hK => ?_)
      go_simp
      refine hK _ _ (fun _ => ⟨t0, t1, t2⟩) (fun hHeld0 => ?_)
      have hHeld := hHeld0 rfl
      clear hK K hHeld0
      (try simp only [Act.put, List.getElem_toArray, List.getElem_cons_zero, List.getElem_cons_succ, List.setIfInBounds_toArray, List.set_cons_zero, List.set_cons_succ])
      refine wpAnyL_only (i := 14) (by kernel_rfl) rfl (fun K hK => ?_)
      go_simp
      refine hK _ _ (fun q => by cases q) (fun hHeld0 => ?_)
      clear hK K hHeld0
      refine wpAnyL_done (by kernel_rfl) ?_
      have HS := Hid.mk (HON.out _ _ HL.out)
      clear HL hown2 hg2 hat2 hlt2 hbo hb2 t0 tf hBo t1 t2 s0 s1 s2
      have e0 := HS.out.box (j := 0) (List.Mem.head _) rfl
      have e1 := HS.out.box (j := 1) (List.Mem.head _) rfl
      have r0 := HS.out.box (j := 0) (List.Mem.tail _ (List.Mem.head _)) rfl
      have r1 := HS.out.box (j := 1) (List.Mem.tail _ (List.Mem.head _)) rfl
      have rf := HS.out.free (List.Mem.tail _ (List.Mem.head _))
      go_wp2_with fail
      refine bodyPost_ret (v := .tuple #[.agg #[.int .i64 nb, .int .i64 n], .int .i64 0]) (by simp [results, Try.results37, go_sem, r0, r1]) rfl ⟨?_, rfl⟩
      exact ((((HS.out.sub (E' := (W.heap.size, (.cells #[.int .i64 0, .int .i64 0] 88)) :: E) (by intro x hx; exact List.mem_cons_of_mem _ hx)).store hwW HEL.out 0 (.int .i64 nb)).store hwW HEL.out 1 (.int .i64 n))).sub (fun x hx => List.mem_cons_of_mem _ hx)
    · have z2 : (er == 0) = false := by simpa using her
      go_wp2_with fail
      refine bodyPost_ret (v := .tuple #[.agg #[.int .i64 0, .int .i64 0], .int .i64 er]) (by simp [results, Try.results37, go_sem, r0, r1]) rfl (.inr ⟨her, ?_, rfl⟩)
      exact ((((hG3.sub (E' := (W.heap.size, (.cells #[.int .i64 0, .int .i64 0] 88)) :: E) (by intro x hx; exact List.mem_cons_of_mem _ hx)).store hwW HEL.out 0 (.int .i64 0)).store hwW HEL.out 1 (.int .i64 0))).sub (fun x hx => List.mem_cons_of_mem _ hx)
end
end Go.Proofs.Ytpfnnmcokbolhaa
/- A link's Pop. -/
namespace Go.Proofs.Ytpfnnmcokbolhaa
open Go.RowKit
set_option pp.deepTerms true
attribute [local go_sem ↓] Go.wp_at_zero Go.wp_at_succ
section
variable {w W W' : World} {p b : Nat} {sz ca : Int} {S S' : Sp} {L L' : Lk} {E : List (Nat × Obj)}
set_option maxRecDepth 100000 in
set_option maxHeartbeats 1000000 in
theorem pop_none (h : Seg w p b sz ca S L E W) (hl : L.live = []) : Calls Try.prog 76 #[.pointer (some ⟨b, 0, none⟩)] W fun e w' => Seg w p b sz ca S L E w' ∧ Below W.heap.size W w' ∧ e = .returned (.int .i64 240) := by
  obtain ⟨lv, kv, hk⟩ := h.link
  obtain ⟨c0, -, -, c3, -⟩ := hk.c
  have hla := hlast_any c3 hk.live (by rw [hl]; simp)
  have e : topOf L.live = ((0, 0), false) := by rw [hl]; rfl
  rw [e] at hla
  have HH := Hid.mk h
  clear h hk c3 e
  go_enter Try.func76, Try.ntmps76
  go_wp2_with fail
  refine (none24_any c0).mono ?_
  rintro e w1 ⟨rfl, rfl⟩
  go_wp2_with fail
  refine hla.mono ?_
  rintro e w1 ⟨hb1, rfl⟩
  have hb2 := fun o => hb1.alloc hb1.size o
  go_wp2_with fail
  go_ret
  exact ⟨HH.out.keep (hb2 _), hb2 _, rfl⟩
set_option maxRecDepth 100000 in
set_option maxHeartbeats 4000000 in
theorem pop_keep (h : Seg w p b sz ca S L E W) (hll : L.live.length ≤ 1000000) (hkl : L.kept.length ≤ 1000000) {y1 y2 : Int} (hy : topOf L.live = ((y1, y2), true)) (hca : (L.kept.length : Int) < ca) :
    Calls Try.prog 76 #[.pointer (some ⟨b, 0, none⟩)] W fun e w' => Seg w p b sz ca (S.drop y1 y2).2 ⟨L.live.dropLast, L.kept ++ [(y1, y2)]⟩ E w' ∧ e = .returned (.int .i64 0) := by
  obtain ⟨i0, hi, hz0, hz1, hz2⟩ := info_parts infoR
  obtain ⟨lv, kv, hk⟩ := h.link
  obtain ⟨c0, -, -, c3, -⟩ := hk.c
  have hla := hlast_any c3 hk.live (by omega)
  rw [hy] at hla
  have hne : 1 ≤ L.live.length := by
    rcases Nat.eq_zero_or_pos L.live.length with q | q
    · rw [List.eq_nil_of_length_eq_zero q] at hy; simp [topOf] at hy
    · exact q
  have hwW := h.size.size
  have HEL : Hid (∀ x ∈ E, x.1 < W.heap.size) := h.ltE
  have HH := Hid.mk h
  have HCA := Hid.mk hca
  clear h hk c3 hy hca
  go_enter Try.func76, Try.ntmps76
  go_wp2_with fail
  refine (none24_any c0).mono ?_
  rintro e w1 ⟨rfl, rfl⟩
  go_wp2_with fail
  refine hla.mono ?_
  rintro e w1 ⟨hb1, rfl⟩
  have hw1 := hb1.size
  have hG0 := (HH.out.keep hb1).alloc (.cells #[.int .i64 y1, .int .i64 y2] 88)
  obtain ⟨Bx, hBx⟩ : ∃ Bx, w1.heap.size = Bx := ⟨_, rfl⟩
  obtain ⟨X0, hX0⟩ : ∃ X0, w1.alloc (.cells #[.int .i64 y1, .int .i64 y2] 88) = X0 := ⟨_, rfl⟩
  have HXB := Hid.mk (And.intro hX0 hBx)
  rw [hX0, hBx] at hG0
  clear HH hla hb1 c0 hX0 hBx
  obtain ⟨lv1, kv1, hk1, hon1⟩ := hG0.on_link
  have hfw := fewer_any (b := b) (o := 3) hk1.head rfl hk1.live hne (by omega)
  have HON := Hid.mk hon1
  have HK := Hid.mk hk1
  have HFW := Hid.mk hfw
  clear hfw hon1 hk1
  go_wp2_with fail
  rw [HXB.out.1, HXB.out.2]
  refine HFW.out.mono ?_
  rintro e w2 ⟨hrow, u, rfl⟩
  have hG1 := HON.out _ _ (lk_liveRow HK.out hrow)
  clear HFW HON HK hG0 hrow
  obtain ⟨lv2, kv2, hk2⟩ := hG1.link
  obtain ⟨-, -, c2, -, c4⟩ := hk2.c
  obtain ⟨ak, ck, rfl⟩ := own_shape hk2.kept
  have c0 := hG1.c0
  have x0 := hG1.box (j := 0) (List.Mem.head _) rfl
  have x1 := hG1.box (j := 1) (List.Mem.head _) rfl
  have z9 : decide ((L.kept.length : Int) < ca) = true := by have := HCA.out; simp; omega
  have HG1 := Hid.mk hG1
  clear hk2 hG1
  simp only at c4
  go_upto_region 7 with (fail)
  go_quiet (fail)
  go_wp2_with fail
  have hG2 := HG1.out.keep (below_drewN (Below.refl _ _) nq)
  obtain ⟨Y, hY⟩ : ∃ Y, w2.drewN nq = Y := ⟨_, rfl⟩
  rw [hY] at hG2 ⊢
  clear hY c0 x0 x1 c2 c4 z9 HG1
  have c0 := hG2.c0
  have x0 := hG2.box (j := 0) (List.Mem.head _) rfl
  have x1 := hG2.box (j := 1) (List.Mem.head _) rfl
  have b0 := hG2.keep (Below.refl _ _).drew
  obtain ⟨fs, hsp, hon⟩ := b0.on_space
  go_region_held3 (fun W' => W'.cell? ⟨b, 0, none⟩ = some (.pointer (some ⟨p, 0, none⟩)) ∧ W'.cell? ⟨Bx, 0, none⟩ = some (.int .i64 y1) ∧ W'.cell? ⟨Bx, 1, none⟩ = some (.int .i64 y2)) (first | exact ⟨hG3.c0, hG3.box (j := 0) (List.Mem.head _) rfl, hG3.box (j := 1) (List.Mem.head _) rfl⟩ | exact ⟨b0.c0, b0.box (j := 0) (List.Mem.head _) rfl, b0.box (j := 1) (List.Mem.head _) rfl⟩) ((go_at_call 50; refine (drop_spc hsp y1 y2).mono ?_; rintro e w3 ⟨hst, rfl⟩; have hG3 := hon _ _ hst))
  have hG := hon _ _ hst
  clear hon hsp hst c0 x0 x1 b0 hG2 hG3
  obtain ⟨L1, hL1⟩ : ∃ L1 : Lk, (⟨L.live.dropLast, L.kept⟩ : Lk) = L1 := ⟨_, rfl⟩
  rw [hL1] at hG
  have hkl1 : L1.kept.length ≤ 1000000 := by rw [← hL1]; exact hkl
  have HL1 := Hid.mk hL1
  clear hL1
  go_upto_region 9 with (fail)
  obtain ⟨lv, kv, hk, hon⟩ := hG.on_link
  have HON := Hid.mk hon
  have HK := Hid.mk hk
  have s0 := hk.c.2.2.2.2
  have s1 := hG.box (j := 0) (List.Mem.head _) rfl
  have s2 := hG.box (j := 1) (List.Mem.head _) rfl
  have HG := Hid.mk hG
  obtain ⟨ao, cap, e0⟩ := own_shape hk.kept
  subst e0
  clear hk hon hG
  refine wp_region_L 14 (fun W' => W'.cell? ⟨b, 4, none⟩ = some (.slice ao L1.kept.length cap) ∧ W'.cell? ⟨Bx, 0, none⟩ = some (.int .i64 y1) ∧ W'.cell? ⟨Bx, 1, none⟩ = some (.int .i64 y2)) (by kernel_rfl) ⟨s0, s1, s2⟩ (fun hHeld => ?_)
  refine wpAnyL_take (i := 0) (v := ?_) rfl (by kernel_rfl) (by kernel_rfl) (by kernel_rfl) (by kernel_rfl) (fun _ _ _ h => h) (Or.inl ⟨by rfl, ?_⟩) (by assumption) ?_
  rotate_left
  · (intro w hSw; (try dsimp only at hSw); go_simp <;> with_reducible rfl)
  (try simp only [Act.put, List.getElem_toArray, List.getElem_cons_zero, List.setIfInBounds_toArray, List.set_cons_zero, List.set_cons_succ])
  refine wpAnyL_take (i := 1) (v := ?_) rfl (by kernel_rfl) (by kernel_rfl) (by kernel_rfl) (by kernel_rfl) (fun _ _ _ h => h) (Or.inl ⟨by rfl, ?_⟩) (by assumption) ?_
  rotate_left
  · (intro w hSw; (try dsimp only at hSw); go_simp <;> with_reducible rfl)
  (try simp only [Act.put, List.getElem_toArray, List.getElem_cons_zero, List.getElem_cons_succ, List.setIfInBounds_toArray, List.set_cons_zero, List.set_cons_succ])
  refine wpAnyL_take (i := 2) (v := ?_) rfl (by kernel_rfl) (by kernel_rfl) (by kernel_rfl) (by kernel_rfl) (fun _ _ _ h => h) (Or.inl ⟨by rfl, ?_⟩) (by assumption) ?_
  rotate_left
  · (intro w hSw; (try dsimp only at hSw); go_simp <;> with_reducible rfl)
  (try simp only [Act.put, List.getElem_toArray, List.getElem_cons_zero, List.getElem_cons_succ, List.setIfInBounds_toArray, List.set_cons_zero, List.set_cons_succ])
  refine wpAnyL_take (i := 3) (v := ?_) rfl (by kernel_rfl) (by kernel_rfl) (by kernel_rfl) (by kernel_rfl) (fun _ _ _ h => h) (Or.inl ⟨by rfl, ?_⟩) (by assumption) ?_
  rotate_left
  · (intro w hSw; (try dsimp only at hSw); go_simp <;> with_reducible rfl)
  (try simp only [Act.put, List.getElem_toArray, List.getElem_cons_zero, List.getElem_cons_succ, List.setIfInBounds_toArray, List.set_cons_zero, List.set_cons_succ])
  refine wpAnyL_take (i := 4) (v := ?_) rfl (by kernel_rfl) (by kernel_rfl) (by kernel_rfl) (by kernel_rfl) (fun _ _ _ h => h) (Or.inl ⟨by rfl, ?_⟩) (by assumption) ?_
  rotate_left
  · (intro w hSw; (try dsimp only at hSw); go_simp <;> with_reducible rfl)
  (try simp only [Act.put, List.getElem_toArray, List.getElem_cons_zero, List.getElem_cons_succ, List.setIfInBounds_toArray, List.set_cons_zero, List.set_cons_succ])
  refine wpAnyL_take (i := 5) (v := ?_) rfl (by kernel_rfl) (by kernel_rfl) (by kernel_rfl) (by kernel_rfl) (fun _ _ _ h => h) (Or.inl ⟨by rfl, ?_⟩) (by assumption) ?_
  rotate_left
  · (intro w hSw; (try dsimp only at hSw); go_simp <;> with_reducible rfl)
  (try simp only [Act.put, List.getElem_toArray, List.getElem_cons_zero, List.getElem_cons_succ, List.setIfInBounds_toArray, List.set_cons_zero, List.set_cons_succ])
  refine wpAnyL_take (i := 6) (v := ?_) rfl (by kernel_rfl) (by kernel_rfl) (by kernel_rfl) (by kernel_rfl) (fun _ _ _ h => h) (Or.inl ⟨by rfl, ?_⟩) (by assumption) ?_
  rotate_left
  · (intro w hSw; (try dsimp only at hSw); go_simp <;> with_reducible rfl)
  (try simp only [Act.put, List.getElem_toArray, List.getElem_cons_zero, List.getElem_cons_succ, List.setIfInBounds_toArray, List.set_cons_zero, List.set_cons_succ])
  refine wpAnyL_take (i := 7) (v := ?_) rfl (by kernel_rfl) (by kernel_rfl) (by kernel_rfl) (by kernel_rfl) (fun _ _ _ h => h) (Or.inl ⟨by rfl, ?_⟩) (by assumption) ?_
  rotate_left
  · (intro w hSw; (try dsimp only at hSw); go_simp <;> with_reducible rfl)
  (try simp only [Act.put, List.getElem_toArray, List.getElem_cons_zero, List.getElem_cons_succ, List.setIfInBounds_toArray, List.set_cons_zero, List.set_cons_succ])
  refine wpAnyL_only (i := 8) (by kernel_rfl) rfl (fun K hK => ?_)
  go_simp
  refine hK _ _ (fun _ => ⟨alloc_cell s0, alloc_cell s1, alloc_cell s2⟩) (fun hHeld0 => ?_)
  have hHeld := hHeld0 rfl
  clear hK K hHeld0
  (try simp only [Act.put, List.getElem_toArray, List.getElem_cons_zero, List.getElem_cons_succ, List.setIfInBounds_toArray, List.set_cons_zero, List.set_cons_succ])
  refine wpAnyL_only (i := 9) (by kernel_rfl) rfl (fun K hK => ?_)
  refine step_append_lies _ (by rfl) _ _ _ (by rfl) 0 88 i0 (.agg #[.int .i64 0, .int .i64 0]) 2 16 Try.underlying60 hi hz0 hz1 hz2 rfl (by omega) (.slice ao L1.kept.length cap) L1.kept.length (wcells L1.kept) (by rfl) ((HK.out.kept.alloc _).drew) ⟨w3.heap.size, 0, none⟩ 1 1 [.int .i64 y1, .int .i64 y2] (by rfl) (by rfl) (two_new _ _ _ _) (by simp [Value.oneCell']) (by omega) (by unfold maxLen; omega) (by omega) (Nat.zero_le _) (w3.heap.size + 1) (by simp) ?_
  intro g2 cap2 w2 hown2 hg2 hat2 hlt2
  have HL := Hid.mk (lk_keep1 (ob := .cells #[.int .i64 y1, .int .i64 y2] 88) HK.out hown2 ⟨hg2.os, hg2.tape, hg2.output, hg2.size, hg2.block⟩ hat2)
  have hbo : (Value.slice ao L1.kept.length cap).ownBlock ≠ some b := fun e => (List.nodup_cons.1 HK.out.nodup).1 (by simp [e])
  have hb2 : w2.heap[b]? = some (.cells #[.pointer (some ⟨p, 0, none⟩), .int .i64 sz, .int .i64 ca, lv, .slice ao L1.kept.length cap] 122 (0, 0)) := (hg2.block b (by have := lt_of_heap HK.out.head; simp; omega) (fun e => hbo e.symm)).trans ((Below.heap_alloc _ _ _ (lt_of_heap HK.out.head)).trans HK.out.head)
  have t0 : w2.cell? ⟨b, 4, none⟩ = some (.slice ao L1.kept.length cap) := by rw [cell_of_row w2 b 4 _ _ _ hb2]; rfl
  have tf : w2.frozen? ⟨b, 4, none⟩ = false := frozen_of_row w2 b 4 _ _ hb2
  have hBo : (Value.slice ao L1.kept.length cap).ownBlock ≠ some (Bx) := HG.out.notin2 HK.out (List.Mem.head _)
  have t1 : w2.cell? ⟨Bx, 0, none⟩ = some (.int .i64 y1) := grown_cell hg2 (alloc_cell (o := .cells #[.int .i64 y1, .int .i64 y2] 88) s1) (fun e => hBo e.symm)
  have t2 : w2.cell? ⟨Bx, 1, none⟩ = some (.int .i64 y2) := grown_cell hg2 (alloc_cell (o := .cells #[.int .i64 y1, .int .i64 y2] 88) s2) (fun e => hBo e.symm)
  refine hK _ _ (fun _ => ⟨t0, t1, t2⟩) (fun hHeld0 => ?_)
  have hHeld := hHeld0 rfl
  clear hK K hHeld0
  (try simp only [Act.put, List.getElem_toArray, List.getElem_cons_zero, List.getElem_cons_succ, List.setIfInBounds_toArray, List.set_cons_zero, List.set_cons_succ])
  refine wpAnyL_only (i := 10) (by kernel_rfl) rfl (fun K hK => ?_)
  go_simp
  refine hK _ _ (fun _ => ⟨t0, t1, t2⟩) (fun hHeld0 => ?_)
  have hHeld := hHeld0 rfl
  clear hK K hHeld0
  (try simp only [Act.put, List.getElem_toArray, List.getElem_cons_zero, List.getElem_cons_succ, List.setIfInBounds_toArray, List.set_cons_zero, List.set_cons_succ])
  refine wpAnyL_only (i := 11) (by kernel_rfl) rfl (fun K hK => ?_)
  go_simp
  refine hK _ _ (fun _ => ⟨t0, t1, t2⟩) (fun hHeld0 => ?_)
  have hHeld := hHeld0 rfl
  clear hK K hHeld0
  (try simp only [Act.put, List.getElem_toArray, List.getElem_cons_zero, List.getElem_cons_succ, List.setIfInBounds_toArray, List.set_cons_zero, List.set_cons_succ])
  refine wpAnyL_only (i := 12) (by kernel_rfl) rfl (fun K hK => ?_)
  go_simp
  refine hK _ _ (fun _ => ⟨t0, t1, t2⟩) (fun hHeld0 => ?_)
  have hHeld := hHeld0 rfl
  clear hK K hHeld0
  (try simp only [Act.put, List.getElem_toArray, List.getElem_cons_zero, List.getElem_cons_succ, List.setIfInBounds_toArray, List.set_cons_zero, List.set_cons_succ])
  refine wpAnyL_only (i := 13) (by kernel_rfl) rfl (fun K hK => ?_)
  go_simp
  refine hK _ _ (fun _ => ⟨t0, t1, t2⟩) (fun hHeld0 => ?_)
  have hHeld := hHeld0 rfl
  clear hK K hHeld0
  (try simp only [Act.put, List.getElem_toArray, List.getElem_cons_zero, List.getElem_cons_succ, List.setIfInBounds_toArray, List.set_cons_zero, List.set_cons_succ])
  refine wpAnyL_only (i := 14) (by kernel_rfl) rfl (fun K hK => ?_)
  go_simp
  refine hK _ _ (fun q => by cases q) (fun hHeld0 => ?_)
  clear hK K hHeld0
  refine wpAnyL_done (by kernel_rfl) ?_
  have HS := Hid.mk (HON.out _ _ HL.out)
  clear HL hown2 hg2 hat2 hlt2 hbo hb2 t0 tf hBo t1 t2 s0 s1 s2
  have hL1 := HL1.out
  subst hL1
  have HS2 := Hid.mk (HS.out.sub (E' := E) (fun x hx => List.mem_cons_of_mem _ hx))
  clear HS HG HON HK
  go_wp2_with fail
  go_ret
  exact ⟨HS2.out, rfl⟩
set_option maxRecDepth 100000 in
set_option maxHeartbeats 4000000 in
theorem pop_let (h : Seg w p b sz ca S L E W) (hll : L.live.length ≤ 1000000) (_hkl : L.kept.length ≤ 1000000) {y1 y2 : Int} (hy : topOf L.live = ((y1, y2), true)) (hca : ¬ (L.kept.length : Int) < ca) :
    Calls Try.prog 76 #[.pointer (some ⟨b, 0, none⟩)] W fun e w' => Seg w p b sz ca (S.let_ y1).2 ⟨L.live.dropLast, L.kept⟩ E w' ∧ e = .returned (.int .i64 0) := by
  obtain ⟨i0, hi, hz0, hz1, hz2⟩ := info_parts infoR
  obtain ⟨lv, kv, hk⟩ := h.link
  obtain ⟨c0, -, -, c3, -⟩ := hk.c
  have hla := hlast_any c3 hk.live (by omega)
  rw [hy] at hla
  have hne : 1 ≤ L.live.length := by
    rcases Nat.eq_zero_or_pos L.live.length with q | q
    · rw [List.eq_nil_of_length_eq_zero q] at hy; simp [topOf] at hy
    · exact q
  have hwW := h.size.size
  have HEL : Hid (∀ x ∈ E, x.1 < W.heap.size) := h.ltE
  have HH := Hid.mk h
  have HCA := Hid.mk hca
  clear h hk c3 hy hca
  go_enter Try.func76, Try.ntmps76
  go_wp2_with fail
  refine (none24_any c0).mono ?_
  rintro e w1 ⟨rfl, rfl⟩
  go_wp2_with fail
  refine hla.mono ?_
  rintro e w1 ⟨hb1, rfl⟩
  have hw1 := hb1.size
  have hG0 := (HH.out.keep hb1).alloc (.cells #[.int .i64 y1, .int .i64 y2] 88)
  obtain ⟨Bx, hBx⟩ : ∃ Bx, w1.heap.size = Bx := ⟨_, rfl⟩
  obtain ⟨X0, hX0⟩ : ∃ X0, w1.alloc (.cells #[.int .i64 y1, .int .i64 y2] 88) = X0 := ⟨_, rfl⟩
  have HXB := Hid.mk (And.intro hX0 hBx)
  rw [hX0, hBx] at hG0
  clear HH hla hb1 c0 hX0 hBx
  obtain ⟨lv1, kv1, hk1, hon1⟩ := hG0.on_link
  have hfw := fewer_any (b := b) (o := 3) hk1.head rfl hk1.live hne (by omega)
  have HON := Hid.mk hon1
  have HK := Hid.mk hk1
  have HFW := Hid.mk hfw
  clear hfw hon1 hk1
  go_wp2_with fail
  rw [HXB.out.1, HXB.out.2]
  refine HFW.out.mono ?_
  rintro e w2 ⟨hrow, u, rfl⟩
  have hG1 := HON.out _ _ (lk_liveRow HK.out hrow)
  clear HFW HON HK hG0 hrow
  obtain ⟨lv2, kv2, hk2⟩ := hG1.link
  obtain ⟨-, -, c2, -, c4⟩ := hk2.c
  obtain ⟨ak, ck, rfl⟩ := own_shape hk2.kept
  have c0 := hG1.c0
  have x0 := hG1.box (j := 0) (List.Mem.head _) rfl
  have x1 := hG1.box (j := 1) (List.Mem.head _) rfl
  have z9 : decide ((L.kept.length : Int) < ca) = false := by have := HCA.out; simp; omega
  have HG1 := Hid.mk hG1
  clear hk2 hG1
  simp only at c4
  go_upto_region 7 with (fail)
  go_quiet (fail)
  go_wp2_with fail
  have hG2 := HG1.out.keep (below_drewN (Below.refl _ _) nq)
  obtain ⟨Y, hY⟩ : ∃ Y, w2.drewN nq = Y := ⟨_, rfl⟩
  rw [hY] at hG2 ⊢
  clear hY c0 x0 x1 c2 c4 z9 HG1
  have c0 := hG2.c0
  have x0 := hG2.box (j := 0) (List.Mem.head _) rfl
  have x1 := hG2.box (j := 1) (List.Mem.head _) rfl
  have b0 := hG2.keep (Below.refl _ _).drew
  obtain ⟨fs, hsp, hon⟩ := b0.on_space
  go_region_held3 (fun W' => W'.cell? ⟨b, 0, none⟩ = some (.pointer (some ⟨p, 0, none⟩)) ∧ W'.cell? ⟨Bx, 0, none⟩ = some (.int .i64 y1)) (first | exact ⟨hG3.c0, hG3.box (j := 0) (List.Mem.head _) rfl⟩ | exact ⟨b0.c0, b0.box (j := 0) (List.Mem.head _) rfl⟩) ((go_at_call 89; refine (let_spc hsp y1).mono ?_; rintro e w3 ⟨hst, rfl⟩; have hG3 := hon _ _ hst))
  have HS2 := Hid.mk ((hon _ _ hst).sub (E' := E) (fun x hx => List.mem_cons_of_mem _ hx))
  clear hon hsp hst c0 x0 x1 b0 hG2 hG3
  go_wp2_with fail
  go_ret
  exact ⟨HS2.out, rfl⟩
end
end Go.Proofs.Ytpfnnmcokbolhaa
/- The beginning of a play of chapter 24. -/
namespace Go.Proofs.Ytpfnnmcokbolhaa
open Go.RowKit
set_option pp.deepTerms true
end Go.Proofs.Ytpfnnmcokbolhaa
/- SegmentOrder in plain words: what a link's calls leave. -/
namespace Go.Proofs.Ytpfnnmcokbolhaa
open Go.RowKit
/-- each live and kept segment is a region; kept ones are empty; no more are kept than the policy says; all have the policy's words -/
structure SInv (S : Sp) (L : Lk) (sz ca : Int) : Prop where
  perm : (tells S.regs).Perm (L.live ++ L.kept)
  zero : ∀ g ∈ S.regs, (g.base, (g.words.length : Int)) ∈ L.kept → ∀ v ∈ g.words, v = (0, 0)
  few : (L.kept.length : Int) ≤ ca
  wide : ∀ r ∈ L.live ++ L.kept, sz ≤ r.2
theorem SInv.new (sz ca : Int) (hc : 0 ≤ ca) : SInv ⟨[], 0⟩ ⟨[], []⟩ sz ca := ⟨by simp [tells], by simp, by simpa using hc, by simp⟩
theorem perm_erase {α : Type} {l : List α} {i : Nat} (hi : i < l.length) : l.Perm (l[i] :: l.eraseIdx i) := by
  have e : l = l.take i ++ l[i] :: l.drop (i + 1) := by rw [← List.drop_eq_getElem_cons hi, List.take_append_drop]
  rw [List.eraseIdx_eq_take_drop_succ]
  exact (List.Perm.of_eq e).trans List.perm_middle
section
variable {S : Sp} {L : Lk} {sz ca : Int}
theorem SInv.reg (h : SInv S L sz ca) (ok : Spok S) {x : Int × Int} (hx : x ∈ L.live ++ L.kept) : ∃ ls i, ∃ hi : i < ls.length, S.regs = ls.map LReg.reg ∧ RegsOk S.last ls ∧ x = (ls[i].base, (ls[i].words.length : Int)) := by
  have h1 := h.perm.symm.subset hx
  obtain ⟨ls, hr, ok⟩ := ok
  rw [hr] at h1
  obtain ⟨g, hg, rfl⟩ := List.mem_map.1 h1
  obtain ⟨l, hl, rfl⟩ := List.mem_map.1 hg
  obtain ⟨i, hi, rfl⟩ := List.getElem_of_mem hl
  exact ⟨ls, i, hi, hr, ok, rfl⟩
theorem SInv.of (h : SInv S L sz ca) (ok : Spok S) {x : Int × Int} (hx : x ∈ L.live ++ L.kept) : 1 ≤ x.1 ∧ 1 ≤ x.2 ∧ x.2 ≤ 1048576 ∧ x.1 + x.2 ≤ S.last + 1 ∧ S.of x.1 = (x, true) := by
  have h1 := h.perm.symm.subset hx
  obtain ⟨i, hi, rfl⟩ := List.getElem_of_mem h1
  obtain ⟨q1, q2, q3, q4, -⟩ := tells_at ok hi
  refine ⟨q1, q2, ?_, q3, q4⟩
  obtain ⟨ls, i', hi', -, ok', e⟩ := h.reg ok hx
  rw [e]
  have := (ok'.lo _ (List.getElem_mem hi')).2.2.1
  simp only
  omega
/-- two regions have no address in common -/
def Apart (a b : Int × Int) : Prop := a.1 + a.2 ≤ b.1 ∨ b.1 + b.2 ≤ a.1
theorem tells_apart (ok : Spok S) : (tells S.regs).Pairwise Apart := by
  obtain ⟨ls, hr, ok⟩ := ok
  rw [hr]
  have : tells (ls.map LReg.reg) = ls.map (fun l => (l.base, (l.words.length : Int))) := by simp [tells, LReg.reg, Function.comp_def]
  rw [this, List.pairwise_map]
  exact ok.sep.imp (fun h => .inl (by simp only; omega))
theorem SInv.apart (h : SInv S L sz ca) (ok : Spok S) : (L.live ++ L.kept).Pairwise Apart := (h.perm.pairwise_iff (fun h => h.symm)).1 (tells_apart ok)
theorem SInv.empty (h : SInv S L sz ca) (ok : Spok S) {x : Int × Int} (hx : x ∈ L.kept) {j : Nat} (hj : (j : Int) < x.2) : S.get (x.1 + j) = ((0, 0), 212) := by
  obtain ⟨ls, i, hi, hr, ok', rfl⟩ := h.reg ok (List.mem_append.2 (.inr hx))
  simp only at hj ⊢
  have hj' : j < ls[i].words.length := by omega
  have hz := h.zero ls[i].reg (by rw [hr]; exact List.mem_map.2 ⟨_, List.getElem_mem hi, rfl⟩) hx _ (List.getElem_mem hj')
  unfold Sp.get
  rw [hr, loc_at ok' hi hj' (by omega)]
  have hz' : ls[i].words[j] = (0, 0) := hz
  simp [wordAt_map hi hj', hz']
theorem SInv.fit (h : SInv S L sz ca) {i : Nat} {y : Int × Int} (hy : L.kept[i]? = some y) : SInv S ⟨L.live ++ [y], L.kept.eraseIdx i⟩ sz ca := by
  obtain ⟨hi, rfl⟩ := List.getElem?_eq_some_iff.1 hy
  have hp : L.kept.Perm (L.kept[i] :: L.kept.eraseIdx i) := perm_erase hi
  have hq : (L.live ++ L.kept).Perm ((L.live ++ [L.kept[i]]) ++ L.kept.eraseIdx i) := by
    rw [List.append_assoc]
    exact hp.append_left _
  refine ⟨h.perm.trans hq, fun g hg hk => h.zero g hg (List.mem_of_mem_eraseIdx hk), ?_, fun r hr => h.wide r (hq.symm.subset hr)⟩
  have := h.few
  simp only [List.length_eraseIdx]
  split <;> omega
theorem SInv.take (h : SInv S L sz ca) {n : Int} (hn : sz ≤ n) (ht : (S.take n).1.2 = 0) : SInv (S.take n).2 ⟨L.live ++ [((S.take n).1.1, n)], L.kept⟩ sz ca ∧ (S.take n).2.last ≤ S.last + 1 + n ∨ (S.last < 0) := by
  rcases take_cases S n with e | ⟨n1, n2, e, el⟩
  · rw [e] at ht; cases ht
  · have hreg : (S.take n).2.regs = S.regs ++ [⟨nextBase S.last, List.replicate n.toNat (0, 0)⟩] := by
      unfold Sp.take at e ⊢
      split
      · rename_i q; rw [if_pos q] at e; simp at e
      · rfl
    have h1 : (S.take n).1.1 = nextBase S.last := by rw [e]
    by_cases h0 : S.last < 0
    · exact .inr h0
    refine .inl ⟨⟨?_, ?_, h.few, ?_⟩, ?_⟩
    · rw [hreg, h1]
      have e2 : tells (S.regs ++ [⟨nextBase S.last, List.replicate n.toNat (0, 0)⟩]) = tells S.regs ++ [(nextBase S.last, n)] := by
        simp [tells]; omega
      rw [e2, List.append_assoc]
      refine (h.perm.append_right _).trans ?_
      rw [List.append_assoc]
      exact List.Perm.append_left _ List.perm_append_comm
    · intro g hg hk v hv
      rw [hreg] at hg
      rcases List.mem_append.1 hg with hg | hg
      · exact h.zero g hg hk v hv
      · obtain rfl : g = _ := by simpa using hg
        exact List.eq_of_mem_replicate hv
    · intro r hr
      rw [List.append_assoc] at hr
      rcases List.mem_append.1 hr with q | q
      · exact h.wide r (List.mem_append.2 (.inl q))
      · rcases List.mem_append.1 q with q | q
        · obtain rfl : r = _ := by simpa using q
          exact hn
        · exact h.wide r (List.mem_append.2 (.inr q))
    · rw [el]
      unfold nextBase
      split <;> omega
theorem tells_setAt {ls : List LReg} {i : Nat} (hi : i < ls.length) {ws : List (Int × Int)} (hw : ws.length = ls[i].words.length) : tells (setAt (ls.map LReg.reg) i ws) = tells (ls.map LReg.reg) := by
  rw [setAt_map]
  simp only [tells, List.map_map]
  exact setWords_map _ (fun _ => by simp [LReg.reg, hw])
/-- words of one region turn: a live one's, or to nothing -/
theorem SInv.turn {ls : List LReg} (hr : S.regs = ls.map LReg.reg) (_ok : RegsOk S.last ls) (h : SInv S L sz ca) {i : Nat} (hi : i < ls.length) {ws : List (Int × Int)} (hw : ws.length = ls[i].words.length) (hz : (ls[i].base, (ls[i].words.length : Int)) ∈ L.kept → ∀ v ∈ ws, v = (0, 0)) :
    SInv { S with regs := setAt S.regs i ws } L sz ca := by
  refine ⟨by simp only [hr]; rw [tells_setAt hi hw, ← hr]; exact h.perm, fun g hg hk v hv => ?_, h.few, h.wide⟩
  simp only [hr, setAt_map] at hg
  obtain ⟨l, hl, rfl⟩ := List.mem_map.1 hg
  rcases setWords_mem hl with ⟨_, rfl⟩ | ⟨hl, q, hq, hqr⟩
  · simp only [LReg.reg, hw] at hk hv
    exact hz hk v hv
  · exact h.zero l.reg (by rw [hr]; exact List.mem_map.2 ⟨l, hl, rfl⟩) hk v hv
theorem SInv.put (h : SInv S L sz ca) (ok : Spok S) {x : Int × Int} (hx : x ∈ L.live) {d : Int} (h0 : 0 ≤ d) (h1 : d < x.2) (v : Int × Int) : SInv (S.put (x.1 + d) v).2 L sz ca := by
  have hap := h.apart ok
  obtain ⟨ls, i, hi, hr, ok', rfl⟩ := h.reg ok (List.mem_append.2 (.inl hx))
  simp only at h1
  obtain ⟨j, rfl⟩ := Int.eq_ofNat_of_zero_le h0
  have hj : j < ls[i].words.length := by omega
  unfold Sp.put
  rw [hr, loc_at ok' hi hj (by omega)]
  simp only
  split
  · rw [← hr]
    refine h.turn hr ok' hi (by rw [hr, wordsAt_map hi]; simp) (fun hk => ?_)
    have := (List.pairwise_append.1 hap).2.2 _ hx _ hk
    have hl := (ok'.lo _ (List.getElem_mem hi)).2.1
    unfold Apart at this
    simp only at this
    omega
  · exact h
end
end Go.Proofs.Ytpfnnmcokbolhaa
