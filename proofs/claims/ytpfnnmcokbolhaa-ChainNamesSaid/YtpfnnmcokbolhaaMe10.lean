/- Parts Xk Xl Xm Xn, put together. -/
import Derived.Test.YtpfnnmcokbolhaaMe9
/- A chain's Push and Pop. -/
namespace Go.Proofs.Ytpfnnmcokbolhaa
open Go.RowKit
set_option pp.deepTerms true
section
variable {w W : World} {F : List Asr} {b p k g c : Nat} {sz ca : Int} {C : Ch} {x : Value × Fr} {l : List (Value × Fr)} {A B : Asr} {S : Sp}
theorem ChT.storeV {q : Nat} {cs : Array Value} {T : TypeId} (h : ChT w W b p k g c x l (A :: B :: bx q (.cells cs T) :: F)) (j : Nat) (u : Value) : ChT w (W.setCell ⟨q, j, none⟩ u) b p k g c x l (A :: B :: bx q (.cells (cs.setIfInBounds j u) T) :: F) :=
  Sep.rot [_] [_, _, _, _, _] (Sep.store (Sep.pick (l := _ :: _ :: _ :: _ :: _ :: _ :: F) 5 h rfl) j u)
theorem ChT.lose3 {D : Asr} (h : ChT w W b p k g c x l (A :: B :: D :: F)) : ChT w W b p k g c x l (A :: B :: F) := Sep.lose 5 h
theorem ChT.boxV {q : Nat} {v1 v2 : Value} {T : TypeId} (h : ChT w W b p k g c x l (A :: B :: bx q (.cells #[v1, v2] T) :: F)) : W.cell? ⟨q, 0, none⟩ = some v1 ∧ W.cell? ⟨q, 1, none⟩ = some v2 ∧ ∀ j, W.frozen? ⟨q, j, none⟩ = false := by
  have B := Sep.at h (b := q) (o := .cells #[v1, v2] T) (by simp)
  exact ⟨by rw [cell_of_row _ _ 0 _ _ _ B]; rfl, by rw [cell_of_row _ _ 1 _ _ _ B]; rfl, fun j => frozen_of_row _ _ j _ _ B⟩
set_option maxHeartbeats 1000000 in
theorem cpush_T (h : ChT w W b p k g c x l (spA p C.S :: A :: F)) (hF : C.F = x.2 :: l.map Prod.snd) (ok : ChOk C) (v : Int × Int) : Calls Try.prog 14 #[.pointer (some ⟨b, 0, none⟩), .agg #[.int .i64 v.1, .int .i64 v.2]] W fun e w' => (∃ x', ChT w w' b p k g c x' l (spA p (pushC C v).2.S :: A :: F) ∧ (pushC C v).2.F = x'.2 :: l.map Prod.snd) ∧ e = .returned (.int .i64 (pushC C v).1) := by
  obtain ⟨v1, v2⟩ := v
  have hx := ok.fr x.2 (by rw [hF]; simp)
  have hl : l.length ≤ 1000 := by have := ok.few; rw [hF] at this; simp at this; omega
  have hm := h.more (.cells #[.int .i64 v1, .int .i64 v2] 34)
  have HT := Hid.mk (ctop_some hm hl)
  obtain ⟨⟨r, C'⟩, hr⟩ : ∃ r, pushC C (v1, v2) = r := ⟨_, rfl⟩
  rw [hr]
  unfold pushC at hr
  rw [hF] at hr
  simp only at hr
  obtain ⟨-, hn, -, -, -, -, h5, h6⟩ := (layOk_iff x.2.lay).1 hx.lay
  have n0 := hx.n0
  have n1 := hx.n1
  have HC := fun w1 => Hid.mk (check_any v1 v2 w1)
  cases hv : okV v1 v2
  · have hq : chk v1 v2 = 21 := by unfold chk; rw [hv]; rfl
    rw [if_neg (by simp [hv])] at hr
    simp only [Prod.mk.injEq] at hr
    obtain ⟨rfl, rfl⟩ := hr
    rw [hq] at HC
    have HF := Hid.mk hF
    clear hv hq hF hx
    go_enter Try.func14, Try.ntmps14
    go_wp2_with fail
    refine HT.out.mono ?_
    rintro e w1 ⟨h1, -, rfl⟩
    obtain ⟨c0, c1, -⟩ := h1.boxV
    have e3 := h1.fr.c3
    have e5 := h1.fr.c5
    have H1 := Hid.mk h1
    clear HT h1 h hm
    go_wp2_with fail
    refine wp_region_held_drew (S := (fun X => X.cell? ⟨W.heap.size, 0, none⟩ = some (.int .i64 v1) ∧ X.cell? ⟨W.heap.size, 1, none⟩ = some (.int .i64 v2) ∧ X.cell? ⟨g, l.length * 7 + 3, none⟩ = some (.int .i64 x.2.lay.height) ∧ X.cell? ⟨g, l.length * 7 + 5, none⟩ = some (.int .i64 x.2.ops))) (by kernel_rfl) ⟨c0, c1, e3, e5⟩ (fun hHeld => ?_)
    refine wpAnyH_take (i := 0) (v := ?_) rfl (by kernel_rfl) (by kernel_rfl) (by kernel_rfl) (fun _ _ _ h => h) (Or.inl ⟨by rfl, ?_⟩) (by assumption) ?_
    rotate_left
    · (intro w hSw; (try dsimp only at hSw); go_simp <;> with_reducible rfl)
    (try simp only [Act.put, List.getElem_toArray, List.getElem_cons_zero, List.getElem_cons_succ, List.setIfInBounds_toArray, List.set_cons_zero, List.set_cons_succ])
    refine wpAnyH_ready (rs := [1]) (by kernel_rfl) (by simp) ?_
    refine AllReadyH.cons rfl (fun K hK => ?_) AllReadyH.nil
    go_simp
    refine (HC _).out.mono ?_
    rintro e w2 ⟨rfl, hb2⟩
    have s9 := And.intro (keep_dr hb2 c0) (And.intro (keep_dr hb2 c1) (And.intro (keep_dr hb2 e3) (keep_dr hb2 e5)))
    refine hK.out _ _ s9 (fun hHeld => ?_)
    clear hK K
    (try simp only [Act.put, List.getElem_toArray, List.getElem_cons_zero, List.getElem_cons_succ, List.setIfInBounds_toArray, List.set_cons_zero, List.set_cons_succ])
    refine wpAnyH_take (i := 2) (v := ?_) rfl (by kernel_rfl) (by kernel_rfl) (by kernel_rfl) (fun _ _ _ h => h) (Or.inl ⟨by rfl, ?_⟩) (by assumption) ?_
    rotate_left
    · (intro w hSw; (try dsimp only at hSw); go_simp <;> with_reducible rfl)
    (try simp only [Act.put, List.getElem_toArray, List.getElem_cons_zero, List.getElem_cons_succ, List.setIfInBounds_toArray, List.set_cons_zero, List.set_cons_succ])
    refine wpAnyH_take (i := 3) (v := ?_) rfl (by kernel_rfl) (by kernel_rfl) (by kernel_rfl) (fun _ _ _ h => h) (Or.inl ⟨by rfl, ?_⟩) (by assumption) ?_
    rotate_left
    · (intro w hSw; (try dsimp only at hSw); go_simp <;> with_reducible rfl)
    (try simp only [Act.put, List.getElem_toArray, List.getElem_cons_zero, List.getElem_cons_succ, List.setIfInBounds_toArray, List.set_cons_zero, List.set_cons_succ])
    refine wpAnyH_take (i := 4) (v := undef) rfl (by kernel_rfl) (by kernel_rfl) (by kernel_rfl) (fun _ _ _ h => h) (Or.inr ⟨by rfl, rfl⟩) (by assumption) ?_
    (try simp only [Act.put, List.getElem_toArray, List.getElem_cons_zero, List.getElem_cons_succ, List.setIfInBounds_toArray, List.set_cons_zero, List.set_cons_succ])
    refine wpAnyH_take (i := 5) (v := undef) rfl (by kernel_rfl) (by kernel_rfl) (by kernel_rfl) (fun _ _ _ h => h) (Or.inr ⟨by rfl, rfl⟩) (by assumption) ?_
    (try simp only [Act.put, List.getElem_toArray, List.getElem_cons_zero, List.getElem_cons_succ, List.setIfInBounds_toArray, List.set_cons_zero, List.set_cons_succ])
    refine wpAnyH_take (i := 6) (v := undef) rfl (by kernel_rfl) (by kernel_rfl) (by kernel_rfl) (fun _ _ _ h => h) (Or.inr ⟨by rfl, rfl⟩) (by assumption) ?_
    (try simp only [Act.put, List.getElem_toArray, List.getElem_cons_zero, List.getElem_cons_succ, List.setIfInBounds_toArray, List.set_cons_zero, List.set_cons_succ])
    refine wpAnyH_take (i := 7) (v := undef) rfl (by kernel_rfl) (by kernel_rfl) (by kernel_rfl) (fun _ _ _ h => h) (Or.inr ⟨by rfl, rfl⟩) (by assumption) ?_
    (try simp only [Act.put, List.getElem_toArray, List.getElem_cons_zero, List.getElem_cons_succ, List.setIfInBounds_toArray, List.set_cons_zero, List.set_cons_succ])
    refine wpAnyH_take (i := 8) (v := undef) rfl (by kernel_rfl) (by kernel_rfl) (by kernel_rfl) (fun _ _ _ h => h) (Or.inr ⟨by rfl, rfl⟩) (by assumption) ?_
    (try simp only [Act.put, List.getElem_toArray, List.getElem_cons_zero, List.getElem_cons_succ, List.setIfInBounds_toArray, List.set_cons_zero, List.set_cons_succ])
    refine wpAnyH_take (i := 9) (v := undef) rfl (by kernel_rfl) (by kernel_rfl) (by kernel_rfl) (fun _ _ _ h => h) (Or.inr ⟨by rfl, rfl⟩) (by assumption) ?_
    (try simp only [Act.put, List.getElem_toArray, List.getElem_cons_zero, List.getElem_cons_succ, List.setIfInBounds_toArray, List.set_cons_zero, List.set_cons_succ])
    refine wpAnyH_take (i := 10) (v := undef) rfl (by kernel_rfl) (by kernel_rfl) (by kernel_rfl) (fun _ _ _ h => h) (Or.inr ⟨by rfl, rfl⟩) (by assumption) ?_
    (try simp only [Act.put, List.getElem_toArray, List.getElem_cons_zero, List.getElem_cons_succ, List.setIfInBounds_toArray, List.set_cons_zero, List.set_cons_succ])
    refine wpAnyH_take (i := 11) (v := undef) rfl (by kernel_rfl) (by kernel_rfl) (by kernel_rfl) (fun _ _ _ h => h) (Or.inr ⟨by rfl, rfl⟩) (by assumption) ?_
    (try simp only [Act.put, List.getElem_toArray, List.getElem_cons_zero, List.getElem_cons_succ, List.setIfInBounds_toArray, List.set_cons_zero, List.set_cons_succ])
    refine wpAnyH_take (i := 12) (v := undef) rfl (by kernel_rfl) (by kernel_rfl) (by kernel_rfl) (fun _ _ _ h => h) (Or.inr ⟨by rfl, rfl⟩) (by assumption) ?_
    (try simp only [Act.put, List.getElem_toArray, List.getElem_cons_zero, List.getElem_cons_succ, List.setIfInBounds_toArray, List.set_cons_zero, List.set_cons_succ])
    refine wpAnyH_take (i := 13) (v := undef) rfl (by kernel_rfl) (by kernel_rfl) (by kernel_rfl) (fun _ _ _ h => h) (Or.inr ⟨by rfl, rfl⟩) (by assumption) ?_
    (try simp only [Act.put, List.getElem_toArray, List.getElem_cons_zero, List.getElem_cons_succ, List.setIfInBounds_toArray, List.set_cons_zero, List.set_cons_succ])
    refine wpAnyH_take (i := 14) (v := ?_) rfl (by kernel_rfl) (by kernel_rfl) (by kernel_rfl) (fun _ _ _ h => h) (Or.inl ⟨by rfl, ?_⟩) (by assumption) ?_
    rotate_left
    · (intro w hSw; (try dsimp only at hSw); go_simp <;> with_reducible rfl)
    (try simp only [Act.put, List.getElem_toArray, List.getElem_cons_zero, List.getElem_cons_succ, List.setIfInBounds_toArray, List.set_cons_zero, List.set_cons_succ])
    refine wpAnyH_ready (rs := [15]) (by kernel_rfl) (by simp) ?_
    refine AllReadyH.cons rfl (fun K hK => ?_) AllReadyH.nil
    go_simp
    refine hK.out _ _ s9 (fun hHeld => ?_)
    clear hK K
    (try simp only [Act.put, List.getElem_toArray, List.getElem_cons_zero, List.getElem_cons_succ, List.setIfInBounds_toArray, List.set_cons_zero, List.set_cons_succ])
    refine wpAnyH_done (by kernel_rfl) ?_ _
    have H2 := Hid.mk (H1.out.keep (undrew hb2)).lose3
    clear H1 hb2 HC
    go_wp2_with fail
    go_ret
    exact ⟨⟨x, H2.out, HF.out⟩, rfl⟩
  · have hq : chk v1 v2 = 0 := by unfold chk; rw [hv]; rfl
    rw [hq] at HC
    by_cases q : x.2.ops = x.2.lay.height
    · have f1 : (x.2.ops == x.2.lay.height) = true := by simpa using q
      rw [if_neg (fun y => y.2 q)] at hr
      simp only [Prod.mk.injEq] at hr
      obtain ⟨rfl, rfl⟩ := hr
      have HF := Hid.mk hF
      clear hv hq hF hx q
      go_enter Try.func14, Try.ntmps14
      go_wp2_with fail
      refine HT.out.mono ?_
      rintro e w1 ⟨h1, -, rfl⟩
      obtain ⟨c0, c1, -⟩ := h1.boxV
      have e3 := h1.fr.c3
      have e5 := h1.fr.c5
      have H1 := Hid.mk h1
      clear HT h1 h hm
      go_wp2_with fail
      go_region_held3 (fun X => X.cell? ⟨W.heap.size, 0, none⟩ = some (.int .i64 v1) ∧ X.cell? ⟨W.heap.size, 1, none⟩ = some (.int .i64 v2) ∧ X.cell? ⟨g, l.length * 7 + 3, none⟩ = some (.int .i64 x.2.lay.height) ∧ X.cell? ⟨g, l.length * 7 + 5, none⟩ = some (.int .i64 x.2.ops)) (first | exact s9 | exact ⟨c0, c1, e3, e5⟩) (first | (go_at_call 46; refine (HC _).out.mono ?_; rintro e w2 ⟨rfl, hb2⟩; have s9 := And.intro (keep_dr hb2 c0) (And.intro (keep_dr hb2 c1) (And.intro (keep_dr hb2 e3) (keep_dr hb2 e5)))))
      have H2 := Hid.mk (H1.out.keep (undrew hb2)).lose3
      clear H1 hb2 HC
      go_wp2_with fail
      go_ret
      exact ⟨⟨x, H2.out, HF.out⟩, rfl⟩
    · have f1 : (x.2.ops == x.2.lay.height) = false := by simpa using q
      rw [if_pos ⟨hv, q⟩] at hr
      simp only [Prod.mk.injEq] at hr
      obtain ⟨rfl, rfl⟩ := hr
      have HXO := Hid.mk hx
      clear hv hq hF hx q
      go_enter Try.func14, Try.ntmps14
      go_wp2_with fail
      refine HT.out.mono ?_
      rintro e w1 ⟨h1, -, rfl⟩
      obtain ⟨c0, c1, -⟩ := h1.boxV
      have e3 := h1.fr.c3
      have e5 := h1.fr.c5
      have H1 := Hid.mk h1
      clear HT h1 h hm
      go_wp2_with fail
      go_region_held3 (fun X => X.cell? ⟨W.heap.size, 0, none⟩ = some (.int .i64 v1) ∧ X.cell? ⟨W.heap.size, 1, none⟩ = some (.int .i64 v2) ∧ X.cell? ⟨g, l.length * 7 + 3, none⟩ = some (.int .i64 x.2.lay.height) ∧ X.cell? ⟨g, l.length * 7 + 5, none⟩ = some (.int .i64 x.2.ops)) (first | exact s9 | exact ⟨c0, c1, e3, e5⟩) (first | (go_at_call 46; refine (HC _).out.mono ?_; rintro e w2 ⟨rfl, hb2⟩; have s9 := And.intro (keep_dr hb2 c0) (And.intro (keep_dr hb2 c1) (And.intro (keep_dr hb2 e3) (keep_dr hb2 e5)))))
      have h2 := H1.out.keep (undrew hb2)
      obtain ⟨c0, c1, -⟩ := h2.boxV
      have k0 := h2.k0
      have HFr := Hid.mk (ffree_any h2.fr.drew HXO.out (k := 0) (by omega) n0)
      have HP : Hid (∀ {W'}, Below w2.heap.size w2 W' → Calls Try.prog 47 #[.pointer (some ⟨p, 0, none⟩), .int .i64 (x.2.free 0), .agg #[.int .i64 v1, .int .i64 v2]] W' fun e w' => ChT w w' b p k g c x l (spA p (C.S.put (x.2.free 0) (v1, v2)).2 :: A :: bx W.heap.size (.cells #[.int .i64 v1, .int .i64 v2] 34) :: F) ∧ e = .returned (.int .i64 (C.S.put (x.2.free 0) (v1, v2)).1)) := fun {W'} q => put_T (h2.keep q) _ _ _
      clear H1 hb2 HC h2 s9 e3 e5
      go_wp2_with fail
      go_region_held3 (fun X => X.cell? ⟨b, 0, none⟩ = some (.pointer (some ⟨p, 0, none⟩)) ∧ X.cell? ⟨W.heap.size, 0, none⟩ = some (.int .i64 v1) ∧ X.cell? ⟨W.heap.size, 1, none⟩ = some (.int .i64 v2)) (first | exact s9 | exact s8 | exact ⟨k0, c0, c1⟩) (first | (go_at_call 42; refine HFr.out.mono ?_; rintro e w3 ⟨hb3, rfl⟩; have s8 := And.intro (keep_dr hb3 k0) (And.intro (keep_dr hb3 c0) (keep_dr hb3 c1))) | (go_at_call 47; refine (HP.out (undrew hb3)).mono ?_; rintro e w4 ⟨h4, rfl⟩; have s9 := And.intro h4.k0 (And.intro h4.boxV.1 h4.boxV.2.1)))
      have h4 := h4.lose3
      have e5 := h4.fr.c5
      have z5 := h4.fz (l.length * 7 + 5)
      have HE := Hid.mk (h4.ops (x.2.ops + 1))
      clear HFr HP h4 s9 s8 hb3
      go_wp2_with fail
      go_ret
      exact ⟨⟨_, HE.out⟩, rfl⟩
set_option maxHeartbeats 1000000 in
theorem cpop_T (h : ChT w W b p k g c x l (spA p C.S :: A :: F)) (hF : C.F = x.2 :: l.map Prod.snd) (ok : ChOk C) : Calls Try.prog 24 #[.pointer (some ⟨b, 0, none⟩)] W fun e w' => (∃ x', ChT w w' b p k g c x' l (spA p (popC C).2.S :: A :: F) ∧ (popC C).2.F = x'.2 :: l.map Prod.snd) ∧ e = .returned (.tuple #[.agg #[.int .i64 (popC C).1.1.1, .int .i64 (popC C).1.1.2], .int .i64 (popC C).1.2]) := by
  have hx := ok.fr x.2 (by rw [hF]; simp)
  have hl : l.length ≤ 1000 := by have := ok.few; rw [hF] at this; simp at this; omega
  have hm := h.more (.cells #[.int .i64 0, .int .i64 0] 34)
  have HT := Hid.mk (ctop_some hm hl)
  obtain ⟨⟨⟨⟨r1, r2⟩, r3⟩, C'⟩, hr⟩ : ∃ r, popC C = r := ⟨_, rfl⟩
  rw [hr]
  unfold popC at hr
  rw [hF] at hr
  simp only at hr
  obtain ⟨-, hn, -, -, -, -, h5, h6⟩ := (layOk_iff x.2.lay).1 hx.lay
  have n0 := hx.n0
  have n1 := hx.n1
  by_cases q : x.2.ops = 0
  · have f1 : (x.2.ops == 0) = true := by simpa using q
    rw [if_pos q] at hr
    simp only [Prod.mk.injEq] at hr
    obtain ⟨⟨⟨rfl, rfl⟩, rfl⟩, rfl⟩ := hr
    have HF := Hid.mk hF
    clear q hF hx
    go_enter Try.func24, Try.ntmps24
    go_wp2_with fail
    refine HT.out.mono ?_
    rintro e w1 ⟨h1, -, rfl⟩
    obtain ⟨c0, c1, z⟩ := h1.boxV
    have z0 := z 0
    have z1 := z 1
    have e5 := h1.fr.c5
    have HE := Hid.mk ((h1.storeV 0 (.int .i64 0)).storeV 1 (.int .i64 0)).lose3
    clear HT h1 h hm z
    go_wp2_with fail
    refine bodyPost_ret (v := .tuple #[.agg #[.int .i64 0, .int .i64 0], .int .i64 250]) ?_ rfl ⟨⟨x, HE.out, HF.out⟩, rfl⟩
    simp [results, Try.results24, go_sem, *]
  · have f1 : (x.2.ops == 0) = false := by simpa using q
    rw [if_neg q] at hr
    obtain ⟨⟨⟨y1, y2⟩, ey⟩, hy⟩ : ∃ r, C.S.get (x.2.free 1) = r := ⟨_, rfl⟩
    rw [hy] at hr
    simp only [Prod.mk.injEq] at hr
    obtain ⟨⟨⟨rfl, rfl⟩, rfl⟩, rfl⟩ := hr
    have HXO := Hid.mk hx
    have HY := Hid.mk hy
    have hq : 1 ≤ x.2.ops := by omega
    clear q hF hx hy
    go_enter Try.func24, Try.ntmps24
    go_wp2_with fail
    refine HT.out.mono ?_
    rintro e w1 ⟨h1, -, rfl⟩
    have e5 := h1.fr.c5
    have HFr := Hid.mk (ffree_any h1.fr HXO.out (k := 1) (by omega) hq)
    have H1 := Hid.mk h1
    clear HT h1 h hm
    go_wp2_with fail
    refine HFr.out.mono ?_
    rintro e w2 ⟨hb2, rfl⟩
    have h2 := H1.out.keep hb2
    have k0 := h2.k0
    have HG := get_T h2 (x.2.free 1)
    rw [HY.out] at HG
    have HG := Hid.mk HG
    clear HFr H1 h2 hb2 e5
    go_wp2_with fail
    refine HG.out.mono ?_
    rintro e w3 ⟨h3, -, rfl⟩
    have h3 := h3.more (.cells #[.int .i64 y1, .int .i64 y2] 34)
    have k0 := h3.k0
    have HD := Hid.mk (drop_T h3 (x.2.free 1) 1)
    clear HG h3
    go_wp2_with fail
    refine HD.out.mono ?_
    rintro e w4 ⟨h4, -, rfl⟩
    have e5 := h4.fr.c5
    have z5 := h4.fz (l.length * 7 + 5)
    have h5 := h4.ops (x.2.ops - 1)
    obtain ⟨c0, c1, -⟩ := h5.boxV
    have hp : ChT w _ b p k g c (x.1, { x.2 with ops := x.2.ops - 1 }) l (spA p (C.S.drop (x.2.free 1) 1).2 :: A :: bx W.heap.size (.cells #[.int .i64 0, .int .i64 0] 34) :: F) := h5.lose3
    obtain ⟨d0, d1, z⟩ := hp.boxV
    have z0 := z 0
    have z1 := z 1
    have HE := Hid.mk ((hp.storeV 0 (.int .i64 y1)).storeV 1 (.int .i64 y2)).lose3
    clear HD h4 h5 hp z
    go_wp2_with fail
    refine bodyPost_ret (v := .tuple #[.agg #[.int .i64 y1, .int .i64 y2], .int .i64 0]) ?_ rfl ⟨⟨_, HE.out, rfl⟩, rfl⟩
    simp [results, Try.results24, go_sem, *]
end
end Go.Proofs.Ytpfnnmcokbolhaa
/- A chain's Results, Place, Drop, Depth. -/
namespace Go.Proofs.Ytpfnnmcokbolhaa
open Go.RowKit
set_option pp.deepTerms true
/-- a row of values of the call's own -/
def vrow (v : Value) (vs : List (Int × Int)) : Asr := rw_ 0 34 2 v vs.length (wcells vs)
section
variable {w W : World} {F : List Asr} {b p k g c : Nat} {sz ca : Int} {C : Ch} {x : Value × Fr} {l : List (Value × Fr)} {A B : Asr} {S : Sp}
theorem run_T (h : ChT w W b p k g c x l (spA p S :: A :: F)) (a m : Int) : Calls Try.prog 48 #[.pointer (some ⟨p, 0, none⟩), .int .i64 a, .int .i64 m] W fun e w' => ∃ v, ChT w w' b p k g c x l (spA p S :: A :: vrow v ((S.run a m).1.getD []) :: F) ∧ Below W.heap.size W w' ∧ e = .returned (.tuple #[v, .int .i64 (S.run a m).2]) := by
  refine (run_sep (F := A :: F ++ _) h.out a m).mono ?_
  rintro e w' ⟨v, h1, h2, rfl⟩
  exact ⟨v, ChT.back (F := spA p S :: A :: vrow v _ :: F) (Sep.rot [_] [_, _] h1), h2, rfl⟩
theorem ChT.nilrow (h : ChT w W b p k g c x l (A :: B :: F)) : ChT w W b p k g c x l (A :: B :: vrow (.slice none 0 0) [] :: F) := Sep.rot [_] [_, _, _, _, _] (Sep.rnil h 0 34 2)
theorem vrow_shape {v : Value} {vs : List (Int × Int)} (h : ChT w W b p k g c x l (A :: B :: vrow v vs :: F)) : ∃ ao cc, v = .slice ao vs.length cc := own_shape (Sep.owns (base := 0) (T := 34) (n := 2) (v := v) (m := vs.length) (xs := wcells vs) h (by simp [vrow]))
set_option maxRecDepth 100000 in
theorem cresults_T (h : ChT w W b p k g c x l (spA p C.S :: A :: F)) (hF : C.F = x.2 :: l.map Prod.snd) (ok : ChOk C) : Calls Try.prog 28 #[.pointer (some ⟨b, 0, none⟩)] W fun e w' => ∃ v, ChT w w' b p k g c x l (spA p C.S :: A :: vrow v ((resC C).1.getD []) :: F) ∧ Below W.heap.size W w' ∧ e = .returned (.tuple #[v, .int .i64 (resC C).2]) := by
  have hx := ok.fr x.2 (by rw [hF]; simp)
  have hl : l.length ≤ 1000 := by have := ok.few; rw [hF] at this; simp at this; omega
  have HT := Hid.mk (ctop_some h hl)
  obtain ⟨-, hn, a0, a1, r0, r1, h5, h6⟩ := (layOk_iff x.2.lay).1 hx.lay
  have b0 := hx.b0
  have b1 := hx.b1
  have q1 : IntKind.i64.wrap (x.2.base + x.2.lay.args) = x.2.base + x.2.lay.args := by rw [IntKind.wrap_i64]; omega
  obtain ⟨⟨o, er⟩, hr⟩ : ∃ r, C.S.run (x.2.base + x.2.lay.args) x.2.lay.res = r := ⟨_, rfl⟩
  have HRN := Hid.mk hr
  unfold resC
  rw [hF]
  simp only
  rw [hr]
  clear hF hr
  by_cases q : er = 0
  · subst q
    rw [if_pos rfl]
    go_enter Try.func28, Try.ntmps28
    go_wp2_with fail
    refine HT.out.mono ?_
    rintro e w1 ⟨h1, hb1, rfl⟩
    have k0 := h1.k0
    have e1 := h1.fr.c1
    have e2 := h1.fr.c2
    have e4 := h1.fr.c4
    have HR := run_T (h1.keep (Below.refl _ _).drew) (x.2.base + x.2.lay.args) x.2.lay.res
    rw [HRN.out] at HR
    have HR := Hid.mk HR
    have HB := Hid.mk hb1
    clear HT h1 hb1 h
    go_wp2_with fail
    go_region_held3 (fun X => X.cell? ⟨b, 0, none⟩ = some (.pointer (some ⟨p, 0, none⟩)) ∧ X.cell? ⟨g, l.length * 7 + 1, none⟩ = some (.int .i64 x.2.lay.args) ∧ X.cell? ⟨g, l.length * 7 + 2, none⟩ = some (.int .i64 x.2.lay.res) ∧ X.cell? ⟨g, l.length * 7 + 4, none⟩ = some (.int .i64 x.2.base)) (first | exact s9 | exact ⟨k0, e1, e2, e4⟩) (first | (go_at_call 48; refine HR.out.mono ?_; rintro e w2 ⟨v, h2, hb2, rfl⟩; have s9 := And.intro (keep_dr hb2 k0) (And.intro (keep_dr hb2 e1) (And.intro (keep_dr hb2 e2) (keep_dr hb2 e4)))))
    have HE := Hid.mk (And.intro h2 (HB.out.trans ((undrew hb2).mono HB.out.size)))
    clear h2 hb2 HB HR HRN
    go_wp2_with fail
    go_ret2
    exact ⟨_, HE.out.1, HE.out.2, rfl⟩
  · have z : (er != 0) = true := by simpa using q
    rw [if_neg q]
    clear q
    go_enter Try.func28, Try.ntmps28
    go_wp2_with fail
    refine HT.out.mono ?_
    rintro e w1 ⟨h1, hb1, rfl⟩
    have k0 := h1.k0
    have e1 := h1.fr.c1
    have e2 := h1.fr.c2
    have e4 := h1.fr.c4
    have HR := run_T (h1.keep (Below.refl _ _).drew) (x.2.base + x.2.lay.args) x.2.lay.res
    rw [HRN.out] at HR
    have HR := Hid.mk HR
    have HB := Hid.mk hb1
    have H1 := Hid.mk h1
    clear HT h1 hb1 h
    go_wp2_with fail
    go_region_held3 (fun X => X.cell? ⟨b, 0, none⟩ = some (.pointer (some ⟨p, 0, none⟩)) ∧ X.cell? ⟨g, l.length * 7 + 1, none⟩ = some (.int .i64 x.2.lay.args) ∧ X.cell? ⟨g, l.length * 7 + 2, none⟩ = some (.int .i64 x.2.lay.res) ∧ X.cell? ⟨g, l.length * 7 + 4, none⟩ = some (.int .i64 x.2.base)) (first | exact s9 | exact ⟨k0, e1, e2, e4⟩) (first | (go_at_call 48; refine HR.out.mono ?_; rintro e w2 ⟨v, h2, hb2, rfl⟩; have s9 := And.intro (keep_dr hb2 k0) (And.intro (keep_dr hb2 e1) (And.intro (keep_dr hb2 e2) (keep_dr hb2 e4)))))
    have HE := Hid.mk (And.intro (H1.out.keep (undrew hb2)).nilrow (HB.out.trans ((undrew hb2).mono HB.out.size)))
    clear h2 hb2 HB HR HRN H1
    go_wp2_with fail
    go_ret2
    exact ⟨_, HE.out.1, HE.out.2, rfl⟩
theorem keep_set {X : World} {a q : Addr} {v u : Value} (h : X.cell? a = some v) (hn : a.block ≠ q.block) : (X.setCell q u).cell? a = some v := (World.cell?_of_block (w := X) (Below.heap_setCell X q u a.block hn)).trans h
set_option maxRecDepth 100000 in
set_option maxHeartbeats 2000000 in
theorem cplace_T (h : ChT w W b p k g c x l (spA p C.S :: F)) (hF : C.F = x.2 :: l.map Prod.snd) (ok : ChOk C) (hN : 0 ≤ (C.S.get x.2.link).1.2 ∧ (C.S.get x.2.link).1.2 ≤ 1048576) : Calls Try.prog 22 #[.pointer (some ⟨b, 0, none⟩)] W fun e w' => ChT w w' b p k g c x l (spA p C.S :: F) ∧ Below W.heap.size W w' ∧ e = .returned (.tuple #[.int .i64 (placeC C).1.1, .int .i64 (placeC C).1.2, .int .i64 (placeC C).2]) := by
  have hx := ok.fr x.2 (by rw [hF]; simp)
  have hl : l.length ≤ 1000 := by have := ok.few; rw [hF] at this; simp at this; omega
  have HT := Hid.mk (ctop_some h hl)
  have H0 := Hid.mk (fun W' (q : Below W.heap.size W W') => h.keep q)
  unfold placeC
  rw [hF]
  simp only
  obtain ⟨⟨⟨y1, y2⟩, ey⟩, hy⟩ : ∃ r, C.S.get x.2.link = r := ⟨_, rfl⟩
  rw [hy] at hN ⊢
  simp only at hN ⊢
  have HY := Hid.mk hy
  have q1 : IntKind.i64.wrap (Int.tdiv y2 128) = Int.tdiv y2 128 := by
    rw [IntKind.wrap_i64, Int.tdiv_eq_ediv_of_nonneg hN.1]
    omega
  have q2 : IntKind.i64.wrap (Int.tmod y2 128) = Int.tmod y2 128 := by
    rw [IntKind.wrap_i64, Int.tmod_eq_emod_of_nonneg hN.1]
    omega
  have HX := Hid.mk hx
  clear hy hF hx h
  go_enter Try.func22, Try.ntmps22
  go_wp2_with fail
  refine HT.out.mono ?_
  rintro e w1 ⟨h1, hb1, rfl⟩
  have k0 := h1.k0
  have HL : Hid (∀ {W'}, Below w1.heap.size w1 W' → Calls Try.prog 54 #[.pointer (some ⟨g, l.length * 7, none⟩)] W' fun e w' => Below W'.heap.size W' w' ∧ e = .returned (.int .i64 x.2.link)) := fun {W'} q => flink_any (h1.fr.below q) HX.out
  have HG : Hid (∀ {W'}, Below w1.heap.size w1 W' → Calls Try.prog 53 #[.pointer (some ⟨p, 0, none⟩), .int .i64 x.2.link] W' fun e w' => Below W'.heap.size W' w' ∧ e = .returned (.tuple #[.agg #[.int .i64 y1, .int .i64 y2], .int .i64 ey])) := fun {W'} q => by
    have := get_T (h1.keep q) x.2.link
    rw [HY.out] at this
    exact this.mono (fun e w' r => ⟨r.2.1, r.2.2⟩)
  have HB := Hid.mk hb1
  have hA : Below w1.heap.size w1 (w1.alloc (.cells #[.int .i64 0, .int .i64 0] 34)).drew := ((Below.refl _ _).alloc (Nat.le_refl _) _).drew
  have a0 : (w1.alloc (.cells #[.int .i64 0, .int .i64 0] 34)).cell? ⟨w1.heap.size, 0, none⟩ = some (.int .i64 0) := by simp
  have a1 : (w1.alloc (.cells #[.int .i64 0, .int .i64 0] 34)).cell? ⟨w1.heap.size, 1, none⟩ = some (.int .i64 0) := by simp
  have hlt : b ≠ w1.heap.size := Nat.ne_of_lt (cell_lt k0)
  clear HT h1 hb1
  go_wp2_with fail
  go_region_held3 (fun X => X.cell? ⟨b, 0, none⟩ = some (.pointer (some ⟨p, 0, none⟩))) (first | exact s9 | exact alloc_cell s9 | exact keep_set (keep_set s9 hlt) hlt | exact keep_set (keep_set s9 (Nat.ne_of_lt (cell_lt s8))) (Nat.ne_of_lt (cell_lt s8)) | exact keep_set (keep_set (alloc_cell s9) (Nat.ne_of_lt (cell_lt s9))) (Nat.ne_of_lt (cell_lt s9)) | exact s8 | exact alloc_cell s8 | exact k0 | exact alloc_cell k0) (first | (go_at_call 54; refine (HL.out (W' := w1.drew) (Below.refl _ _).drew).mono ?_; rintro e w2 ⟨hb2, rfl⟩; have hb12 := undrew hb2; have s8 := keep_dr hb2 k0) | (go_at_call 54; refine (HL.out hA).mono ?_; rintro e w2 ⟨hb2, rfl⟩; have hb12 := hA.trans (hb2.mono hA.size); have s8 := keep_dr hb2 (alloc_cell k0); have t0 := keep_dr hb2 a0; have t1 := keep_dr hb2 a1; have B2 := below_at (undrew hb2) (heap_alloc_new w1 _) (by simp)) | (go_at_call 53; refine (HG.out (W' := w2.alloc (.cells #[.int .i64 0, .int .i64 0] 34)) (hb12.alloc hb12.size _)).mono ?_; rintro e w3 ⟨hb3, rfl⟩; have hb13 := (hb12.alloc hb12.size (.cells #[.int .i64 0, .int .i64 0] 34)).trans (hb3.mono (Nat.le_trans hb12.size (by simp))); have s9 := keep_be hb3 (alloc_cell s8); have B3 := below_at hb3 (heap_alloc_new w2 _) (by simp); have t0 : w3.cell? ⟨w2.heap.size, 0, none⟩ = some (.int .i64 0) := (by rw [cell_of_row _ _ 0 _ _ _ B3]; rfl); have t1 : w3.cell? ⟨w2.heap.size, 1, none⟩ = some (.int .i64 0) := (by rw [cell_of_row _ _ 1 _ _ _ B3]; rfl); have z0 := frozen_of_row _ _ 0 _ _ B3; have z1 := frozen_of_row _ _ 1 _ _ B3) | (go_at_call 53; refine (HG.out (W' := w2) hb12).mono ?_; rintro e w3 ⟨hb3, rfl⟩; have hb13 := hb12.trans (hb3.mono hb12.size); have s9 := keep_be hb3 s8; have t3 := keep_be hb3 t0; have t4 := keep_be hb3 t1; have B4 := below_at hb3 B2 (lt_of_heap B2); have z0 := frozen_of_row _ _ 0 _ _ B4; have z1 := frozen_of_row _ _ 1 _ _ B4) | (go_at_call 53; refine (HG.out (W' := w2) hb12).mono ?_; rintro e w3 ⟨hb3, rfl⟩; have hb13 := hb12.trans (hb3.mono hb12.size); have s9 := keep_be hb3 s8))
  · have hF := hb13.alloc hb13.size (.cells #[.int .i64 y1, .int .i64 y2] 34)
    have HFF := Hid.mk (HB.out.trans (hF.mono HB.out.size))
    clear HL HG HB hA hb12 hb2 hb3 hb13 hF
    go_wp2_with fail
    go_quiet (fail)
    go_wp2_with fail
    refine bodyPost_ret (v := .tuple #[.int .i64 (Int.tdiv y2 128), .int .i64 (Int.tmod y2 128), .int .i64 0]) (by simp [results, Try.results22, go_sem]; exact (Int.tmod_eq_emod_of_nonneg hN.1).symm) rfl ⟨H0.out _ (below_drewN HFF.out _), below_drewN HFF.out _, rfl⟩
  · have hF := (hb13.setCell (p := ⟨w2.heap.size, 0, none⟩) hb12.size (.int .i64 y1)).setCell (p := ⟨w2.heap.size, 1, none⟩) hb12.size (.int .i64 y2)
    have HFF := Hid.mk (HB.out.trans (hF.mono HB.out.size))
    clear HL HG HB hA hb12 hb2 hb3 hb13 hF
    go_wp2_with fail
    go_quiet (fail)
    go_wp2_with fail
    refine bodyPost_ret (v := .tuple #[.int .i64 (Int.tdiv y2 128), .int .i64 (Int.tmod y2 128), .int .i64 0]) (by simp [results, Try.results22, go_sem]; exact (Int.tmod_eq_emod_of_nonneg hN.1).symm) rfl ⟨H0.out _ (below_drewN HFF.out _), below_drewN HFF.out _, rfl⟩
  · have hF := (hb13.setCell (p := ⟨w1.heap.size, 0, none⟩) (Nat.le_refl _) (.int .i64 y1)).setCell (p := ⟨w1.heap.size, 1, none⟩) (Nat.le_refl _) (.int .i64 y2)
    have HFF := Hid.mk (HB.out.trans (hF.mono HB.out.size))
    clear HL HG HB hA hb12 hb2 hb3 hb13 hF
    go_wp2_with fail
    go_quiet (fail)
    go_wp2_with fail
    refine bodyPost_ret (v := .tuple #[.int .i64 (Int.tdiv y2 128), .int .i64 (Int.tmod y2 128), .int .i64 0]) (by simp [results, Try.results22, go_sem]; exact (Int.tmod_eq_emod_of_nonneg hN.1).symm) rfl ⟨H0.out _ (below_drewN HFF.out _), below_drewN HFF.out _, rfl⟩
end
end Go.Proofs.Ytpfnnmcokbolhaa
/- A chain's calls, beside other parts. -/
namespace Go.Proofs.Ytpfnnmcokbolhaa
open Go.RowKit
set_option pp.deepTerms true
section
variable {w W : World} {F : List Asr} {b p k : Nat} {sz ca : Int} {C : Ch}
/-- the parts of a chain, opened at its top frame -/
theorem chP_cons {f : Fr} {fs : List Fr} (h : Sep w (chP b p k sz ca C F) W) (hF : C.F = f :: fs) : ∃ g c x l, C.F = x.2 :: l.map Prod.snd ∧ x.2 = f ∧ l.map Prod.snd = fs ∧ ChT w W b p k g c x l (spA p C.S :: lkA k p sz ca C.L :: F) := by
  unfold chP at h
  rw [hF] at h
  obtain ⟨g, c, x, l, h1, h2, h3⟩ := ch_cons h
  exact ⟨g, c, x, l, by rw [hF, h1, h2], h1, h2, h3⟩
theorem chP_back {C' : Ch} {x : Value × Fr} {l : List (Value × Fr)} {g c : Nat} (h : ChT w W b p k g c x l (spA p C'.S :: lkA k p sz ca C'.L :: F)) (hF : C'.F = x.2 :: l.map Prod.snd) : Sep w (chP b p k sz ca C' F) W := by
  unfold chP
  rw [hF]
  exact h.close
theorem chP_top (h : Sep w (chP b p k sz ca C F) W) (hF : C.F = []) : Sep w (chA b p k [] :: spA p C.S :: lkA k p sz ca C.L :: F) W := by
  unfold chP at h
  rw [hF] at h
  exact h
theorem cpush_any (h : Sep w (chP b p k sz ca C F) W) (ok : ChOk C) (v : Int × Int) : Calls Try.prog 14 #[.pointer (some ⟨b, 0, none⟩), .agg #[.int .i64 v.1, .int .i64 v.2]] W fun e w' => Sep w (chP b p k sz ca (pushC C v).2 F) w' ∧ e = .returned (.int .i64 (pushC C v).1) := by
  cases hF : C.F with
  | cons f fs =>
    obtain ⟨g, c, x, l, h1, -, -, h4⟩ := chP_cons h hF
    refine (cpush_T h4 h1 ok v).mono ?_
    rintro e w' ⟨⟨x', q1, q2⟩, rfl⟩
    refine ⟨chP_back (g := g) (c := c) (C' := (pushC C v).2) ?_ q2, rfl⟩
    have : (pushC C v).2.L = C.L := by unfold pushC; rw [hF]; simp only; split <;> rfl
    rw [this]
    exact q1
  | nil =>
    have e1 : pushC C v = (250, C) := by unfold pushC; rw [hF]
    rw [e1]
    obtain ⟨v1, v2⟩ := v
    have HT := Hid.mk (ctop_none ((chP_top h hF).keep ((Below.refl _ _).alloc (Nat.le_refl _) (.cells #[.int .i64 v1, .int .i64 v2] 34))))
    have H0 := Hid.mk (h.keep ((Below.refl _ _).alloc (Nat.le_refl _) (.cells #[.int .i64 v1, .int .i64 v2] 34)))
    clear h hF e1
    go_enter Try.func14, Try.ntmps14
    go_wp2_with fail
    refine HT.out.mono ?_
    rintro e w1 ⟨rfl, rfl⟩
    go_wp2_with fail
    go_ret
    exact ⟨H0.out, rfl⟩
theorem cpop_any (h : Sep w (chP b p k sz ca C F) W) (ok : ChOk C) : Calls Try.prog 24 #[.pointer (some ⟨b, 0, none⟩)] W fun e w' => Sep w (chP b p k sz ca (popC C).2 F) w' ∧ e = .returned (.tuple #[.agg #[.int .i64 (popC C).1.1.1, .int .i64 (popC C).1.1.2], .int .i64 (popC C).1.2]) := by
  cases hF : C.F with
  | cons f fs =>
    obtain ⟨g, c, x, l, h1, -, -, h4⟩ := chP_cons h hF
    refine (cpop_T h4 h1 ok).mono ?_
    rintro e w' ⟨⟨x', q1, q2⟩, rfl⟩
    refine ⟨chP_back (g := g) (c := c) (C' := (popC C).2) ?_ q2, rfl⟩
    have : (popC C).2.L = C.L := by unfold popC; rw [hF]; simp only; split <;> rfl
    rw [this]
    exact q1
  | nil =>
    have e1 : popC C = (((0, 0), 250), C) := by unfold popC; rw [hF]
    rw [e1]
    have HT := Hid.mk (ctop_none ((chP_top h hF).keep ((Below.refl _ _).alloc (Nat.le_refl _) (.cells #[.int .i64 0, .int .i64 0] 34))))
    have H0 := Hid.mk (fun W' (q : Below W.heap.size W W') => h.keep q)
    have HB := Hid.mk ((Below.refl W.heap.size W).alloc (Nat.le_refl _) (.cells #[.int .i64 0, .int .i64 0] 34))
    clear h hF e1
    go_enter Try.func24, Try.ntmps24
    go_wp2_with fail
    refine HT.out.mono ?_
    rintro e w1 ⟨rfl, rfl⟩
    go_wp2_with fail
    refine bodyPost_ret (v := .tuple #[.agg #[.int .i64 0, .int .i64 0], .int .i64 250]) ?_ rfl ⟨H0.out _ ?_, rfl⟩
    · simp [results, Try.results24, go_sem]
    · exact HB.out
theorem ne_cons {α : Type} {l : List α} (h : l ≠ []) : ∃ a r, l = a :: r := by
  cases l with
  | nil => exact absurd rfl h
  | cons a r => exact ⟨a, r, rfl⟩
theorem cload_any (h : Sep w (chP b p k sz ca C F) W) (ok : ChOk C) (hF : C.F ≠ []) (i : Int) : Calls Try.prog 19 #[.pointer (some ⟨b, 0, none⟩), .int .i64 i] W fun e w' => Sep w (chP b p k sz ca C F) w' ∧ Below W.heap.size W w' ∧ e = .returned (.tuple #[.agg #[.int .i64 (loadC C i).1.1, .int .i64 (loadC C i).1.2], .int .i64 (loadC C i).2]) := by
  obtain ⟨f, fs, hF⟩ := ne_cons hF
  obtain ⟨g, c, x, l, h1, -, -, h4⟩ := chP_cons h hF
  refine (cload_T h4 h1 ok i).mono ?_
  rintro e w' ⟨-, hb, rfl⟩
  exact ⟨h.keep hb, hb, rfl⟩
theorem caddr_any (h : Sep w (chP b p k sz ca C F) W) (ok : ChOk C) (hF : C.F ≠ []) (i : Int) : Calls Try.prog 13 #[.pointer (some ⟨b, 0, none⟩), .int .i64 i] W fun e w' => Sep w (chP b p k sz ca C F) w' ∧ Below W.heap.size W w' ∧ e = .returned (.tuple #[.agg #[.int .i64 (addrC C i).1.1, .int .i64 (addrC C i).1.2], .int .i64 (addrC C i).2]) := by
  obtain ⟨f, fs, hF⟩ := ne_cons hF
  obtain ⟨g, c, x, l, h1, -, -, h4⟩ := chP_cons h hF
  refine (caddr_T h4 h1 ok i).mono ?_
  rintro e w' ⟨-, hb, rfl⟩
  exact ⟨h.keep hb, hb, rfl⟩
theorem storeC_L (i : Int) (v : Int × Int) : (storeC C i v).2.L = C.L ∧ (storeC C i v).2.F = C.F := by
  unfold storeC
  split
  · split <;> exact ⟨rfl, rfl⟩
  · exact ⟨rfl, rfl⟩
theorem cstore_any (h : Sep w (chP b p k sz ca C F) W) (ok : ChOk C) (hF : C.F ≠ []) (i : Int) (v : Int × Int) : Calls Try.prog 21 #[.pointer (some ⟨b, 0, none⟩), .int .i64 i, .agg #[.int .i64 v.1, .int .i64 v.2]] W fun e w' => Sep w (chP b p k sz ca (storeC C i v).2 F) w' ∧ e = .returned (.int .i64 (storeC C i v).1) := by
  obtain ⟨f, fs, hF⟩ := ne_cons hF
  obtain ⟨g, c, x, l, h1, -, -, h4⟩ := chP_cons h hF
  refine (cstore_T h4 h1 ok i v).mono ?_
  rintro e w' ⟨q1, rfl⟩
  refine ⟨chP_back (g := g) (c := c) (x := x) (l := l) (C' := (storeC C i v).2) ?_ ((storeC_L i v).2.trans h1), rfl⟩
  rw [(storeC_L i v).1]
  exact q1
theorem cheight_any (h : Sep w (chP b p k sz ca C F) W) (ok : ChOk C) : Calls Try.prog 25 #[.pointer (some ⟨b, 0, none⟩)] W fun e w' => Sep w (chP b p k sz ca C F) w' ∧ Below W.heap.size W w' ∧ e = .returned (.int .i64 (heightC C)) := by
  cases hF : C.F with
  | cons f fs =>
    obtain ⟨g, c, x, l, h1, e2, -, h4⟩ := chP_cons h hF
    have e1 : heightC C = x.2.ops := by unfold heightC; rw [hF, e2]
    rw [e1]
    refine (cheight_T h4 (by have := ok.few; rw [h1] at this; simp at this; omega)).mono ?_
    rintro e w' ⟨-, hb, rfl⟩
    exact ⟨h.keep hb, hb, rfl⟩
  | nil =>
    have e1 : heightC C = 0 := by unfold heightC; rw [hF]
    rw [e1]
    have HT := Hid.mk (ctop_none (chP_top h hF))
    have H0 := Hid.mk h
    clear h hF e1
    go_enter Try.func25, Try.ntmps25
    go_wp2_with fail
    refine HT.out.mono ?_
    rintro e w1 ⟨rfl, rfl⟩
    go_wp2_with fail
    go_ret
    exact ⟨H0.out, Below.refl _ _, rfl⟩
theorem cplace_any (h : Sep w (chP b p k sz ca C F) W) (ok : ChOk C) (hN : ∀ f ∈ C.F, 0 ≤ (C.S.get f.link).1.2 ∧ (C.S.get f.link).1.2 ≤ 1048576) : Calls Try.prog 22 #[.pointer (some ⟨b, 0, none⟩)] W fun e w' => Sep w (chP b p k sz ca C F) w' ∧ Below W.heap.size W w' ∧ e = .returned (.tuple #[.int .i64 (placeC C).1.1, .int .i64 (placeC C).1.2, .int .i64 (placeC C).2]) := by
  cases hF : C.F with
  | cons f fs =>
    obtain ⟨g, c, x, l, h1, e2, -, h4⟩ := chP_cons h hF
    refine (cplace_T h4 h1 ok (by rw [e2]; exact hN f (by rw [hF]; simp))).mono ?_
    rintro e w' ⟨-, hb, rfl⟩
    exact ⟨h.keep hb, hb, rfl⟩
  | nil =>
    have e1 : placeC C = ((0, 0), 250) := by unfold placeC; rw [hF]
    rw [e1]
    have HT := Hid.mk (ctop_none (chP_top h hF))
    have H0 := Hid.mk h
    clear h hF e1
    go_enter Try.func22, Try.ntmps22
    go_wp2_with fail
    refine HT.out.mono ?_
    rintro e w1 ⟨rfl, rfl⟩
    go_wp2_with fail
    refine bodyPost_ret (v := .tuple #[.int .i64 0, .int .i64 0, .int .i64 250]) (by simp [results, Try.results22, go_sem]) rfl ⟨H0.out, Below.refl _ _, rfl⟩
theorem cresults_any (h : Sep w (chP b p k sz ca C F) W) (ok : ChOk C) : Calls Try.prog 28 #[.pointer (some ⟨b, 0, none⟩)] W fun e w' => ∃ v, Sep w (vrow v ((resC C).1.getD []) :: chP b p k sz ca C F) w' ∧ Below W.heap.size W w' ∧ e = .returned (.tuple #[v, .int .i64 (resC C).2]) := by
  cases hF : C.F with
  | cons f fs =>
    obtain ⟨g, c, x, l, h1, e2, -, h4⟩ := chP_cons h hF
    refine (cresults_T h4 h1 ok).mono ?_
    rintro e w' ⟨v, q, hb, rfl⟩
    refine ⟨v, ?_, hb, rfl⟩
    have q2 := q.close
    rw [← h1] at q2
    exact Sep.rot [_, _, _] [_] q2
  | nil =>
    have e1 : resC C = (none, 250) := by unfold resC; rw [hF]
    rw [e1]
    have HT := Hid.mk (ctop_none (chP_top h hF))
    have H0 := Hid.mk (h.rnil 0 34 2)
    clear h hF e1
    go_enter Try.func28, Try.ntmps28
    go_wp2_with fail
    refine HT.out.mono ?_
    rintro e w1 ⟨rfl, rfl⟩
    go_wp2_with fail
    go_ret2
    exact ⟨_, H0.out, Below.refl _ _, rfl⟩
theorem cdrop_any (h : Sep w (chP b p k sz ca C F) W) (ok : ChOk C) : Calls Try.prog 27 #[.pointer (some ⟨b, 0, none⟩)] W fun e w' => Sep w (chP b p k sz ca (dropC ca C).2 F) w' ∧ e = .returned (.int .i64 (dropC ca C).1) := by
  cases hF : C.F with
  | cons f fs =>
    obtain ⟨g, c, x, l, h1, -, -, h4⟩ := chP_cons h hF
    have e1 : dropC ca C = (0, goesC ca C) := by unfold dropC; rw [hF]
    rw [e1]
    have hl : l.length ≤ 1000 := by have := ok.few; rw [h1] at this; simp at this; omega
    have HT := Hid.mk (ctop_some h4 hl)
    have HG := Hid.mk (fun W' (q : ChT w W' b p k g c x l (spA p C.S :: lkA k p sz ca C.L :: F)) => cgoes_any q h1 ok)
    clear h h1 hF e1 h4
    go_enter Try.func27, Try.ntmps27
    go_wp2_with fail
    refine HT.out.mono ?_
    rintro e w1 ⟨h1, hb1, rfl⟩
    have HG1 := Hid.mk (HG.out _ h1)
    clear HT HG h1 hb1
    go_wp2_with fail
    refine HG1.out.mono ?_
    rintro e w2 ⟨h2, u, rfl⟩
    have H2 := Hid.mk h2
    clear HG1 h2
    go_wp2_with fail
    go_ret
    exact ⟨H2.out, rfl⟩
  | nil =>
    have e1 : dropC ca C = (250, C) := by unfold dropC; rw [hF]
    rw [e1]
    have HT := Hid.mk (ctop_none (chP_top h hF))
    have H0 := Hid.mk h
    clear h hF e1
    go_enter Try.func27, Try.ntmps27
    go_wp2_with fail
    refine HT.out.mono ?_
    rintro e w1 ⟨rfl, rfl⟩
    go_wp2_with fail
    go_ret
    exact ⟨H0.out, rfl⟩
theorem cdepth_any (h : Sep w (chP b p k sz ca C F) W) : Calls Try.prog 10 #[.pointer (some ⟨b, 0, none⟩)] W fun e w' => w' = W ∧ e = .returned (.int .i64 C.F.length) := by
  obtain ⟨k0, k1, ao, c, k2⟩ := ch_k0 (show Sep w (chA b p k C.F :: spA p C.S :: lkA k p sz ca C.L :: F) W from h)
  have HN := Hid.mk (cnone_any k0)
  clear h
  go_enter Try.func10, Try.ntmps10
  go_wp2_with fail
  refine HN.out.mono ?_
  rintro e w1 ⟨rfl, rfl⟩
  go_wp2_with fail
  go_ret
  exact ⟨rfl, rfl⟩
end
end Go.Proofs.Ytpfnnmcokbolhaa
/- A chain's Return, Cut, Segments. -/
namespace Go.Proofs.Ytpfnnmcokbolhaa
open Go.RowKit
set_option pp.deepTerms true
theorem popL_ok {S : Sp} {L : Lk} {ca : Int} : (popL S L ca).2.1.last = S.last ∧ (popL S L ca).2.2.live.length + (popL S L ca).2.2.kept.length ≤ L.live.length + L.kept.length ∧ ∀ r ∈ (popL S L ca).2.2.live ++ (popL S L ca).2.2.kept, r ∈ L.live ++ L.kept := by
  unfold popL
  split
  · exact ⟨rfl, Nat.le_refl _, fun r hr => hr⟩
  · rename_i r hr
    obtain ⟨pre, e⟩ : ∃ pre, L.live = pre ++ [r] := by
      rw [List.getLast?_eq_some_iff] at hr
      exact hr
    split
    · refine ⟨drop_last _ _ _, by simp [e]; omega, fun q hq => ?_⟩
      simp only [e, List.dropLast_concat, List.mem_append, List.mem_singleton] at hq ⊢
      rcases hq with hq | hq | hq
      · exact .inl (.inl hq)
      · exact .inr hq
      · exact .inl (.inr hq)
    · refine ⟨let_last _ _, by simp [e], fun q hq => ?_⟩
      simp only [e, List.dropLast_concat, List.mem_append, List.mem_singleton] at hq ⊢
      rcases hq with hq | hq
      · exact .inl (.inl hq)
      · exact .inr hq
section
variable {C : Ch} {ca : Int}
theorem ChOk.push (ok : ChOk C) (v : Int × Int) : ChOk (pushC C v).2 := by
  unfold pushC
  split
  · exact ok
  · rename_i f fs hF
    have hf := ok.fr f (by rw [hF]; simp)
    split
    · rename_i hc
      refine ⟨fun q hq => ?_, by have := ok.few; rw [hF] at this; simpa using this, by show (C.S.put (f.free 0) v).2.last ≤ _; rw [put_last]; exact ok.last, fun q hq => ?_, ok.sum, ok.wide⟩
      · rcases List.mem_cons.1 hq with rfl | hq
        · exact ⟨hf.lay, by have := hf.n0; show (0 : Int) ≤ f.ops + 1; omega, by have := hf.n1; have := hc.2; show f.ops + 1 ≤ f.lay.height; omega, hf.b0, hf.b1⟩
        · exact ok.fr q (by rw [hF]; exact List.mem_cons_of_mem _ hq)
      · rcases List.mem_cons.1 hq with rfl | hq
        · exact ok.low f (by rw [hF]; simp)
        · exact ok.low q (by rw [hF]; exact List.mem_cons_of_mem _ hq)
    · exact ok
theorem ChOk.goes (ok : ChOk C) : ChOk (goesC ca C) := by
  unfold goesC
  split
  · exact ok
  · rename_i f fs hF
    have hfs : ∀ q ∈ fs, FrOk q := fun q hq => ok.fr q (by rw [hF]; exact List.mem_cons_of_mem _ hq)
    have hlo : ∀ q ∈ fs, q.base ≤ 1152921504606846976 := fun q hq => ok.low q (by rw [hF]; exact List.mem_cons_of_mem _ hq)
    have hn : fs.length ≤ 1000 := by have := ok.few; rw [hF] at this; simp at this; omega
    split
    · obtain ⟨h1, h2, h3⟩ := popL_ok (S := (C.S.drop f.base f.lay.words).2) (L := C.L) (ca := ca)
      exact ⟨hfs, hn, by rw [h1, drop_last]; exact ok.last, hlo, Nat.le_trans h2 ok.sum, fun r hr => ok.wide r (h3 r hr)⟩
    · exact ⟨hfs, hn, by show (C.S.drop f.base f.lay.words).2.last ≤ _; rw [drop_last]; exact ok.last, hlo, ok.sum, ok.wide⟩
theorem pushAll_snoc (C : Ch) (vs : List (Int × Int)) (v : Int × Int) : pushAll C (vs ++ [v]) = (pushC (pushAll C vs) v).2 := by
  induction vs generalizing C with
  | nil => rfl
  | cons u vs ih => exact ih _
theorem ChOk.pushAll (ok : ChOk C) (vs : List (Int × Int)) : ChOk (pushAll C vs) := by
  induction vs generalizing C with
  | nil => exact ok
  | cons u vs ih => exact ih (ok.push u)
theorem goesN_succ (C : Ch) (n : Nat) : goesN ca C (n + 1) = goesC ca (goesN ca C n) := by
  induction n generalizing C with
  | zero => rfl
  | succ n ih => exact ih _
theorem ChOk.goesN (ok : ChOk C) (n : Nat) : ChOk (goesN ca C n) := by
  induction n generalizing C with
  | zero => exact ok
  | succ n ih => exact ih ok.goes
theorem goesC_len : (goesC ca C).F.length = C.F.length - 1 := by
  unfold goesC
  split
  · rename_i h; rw [h]; rfl
  · rename_i f fs h
    rw [h]
    split <;> simp
theorem goesN_len (C : Ch) (n : Nat) : (goesN ca C n).F.length = C.F.length - n := by
  induction n generalizing C with
  | zero => rfl
  | succ n ih =>
    show (Go.Proofs.Ytpfnnmcokbolhaa.goesN ca (goesC ca C) n).F.length = _
    rw [ih, goesC_len]; omega
end
section
variable {w W : World} {F : List Asr} {b p k : Nat} {sz ca : Int} {C : Ch}
/-- how many frames a chain's box tells -/
def lenAt (W : World) (b : Nat) : Nat := match W.cell? ⟨b, 2, none⟩ with
  | some (.slice _ n _) => n
  | _ => 0
theorem lenAt_ch {fs : List Fr} (h : Sep w (chA b p k fs :: F) W) : lenAt W b = fs.length := by
  obtain ⟨-, -, ao, c, k2⟩ := ch_k0 h
  unfold lenAt
  rw [k2]
theorem cgoes_P (h : Sep w (chP b p k sz ca C F) W) (ok : ChOk C) (hF : C.F ≠ []) : Calls Try.prog 55 #[.pointer (some ⟨b, 0, none⟩)] W fun e w' => Sep w (chP b p k sz ca (goesC ca C) F) w' ∧ ∃ u, e = .returned u := by
  obtain ⟨f, fs, hF⟩ := ne_cons hF
  obtain ⟨g, c, x, l, h1, e2, -, h4⟩ := chP_cons h hF
  exact cgoes_any h4 h1 ok
theorem ccut_any (h : Sep w (chP b p k sz ca C F) W) (ok : ChOk C) (d : Int) : Calls Try.prog 26 #[.pointer (some ⟨b, 0, none⟩), .int .i64 d] W fun e w' => Sep w (chP b p k sz ca (cutC ca C d).2 F) w' ∧ e = .returned (.int .i64 (cutC ca C d).1) := by
  obtain ⟨k0, k1, ao, c, k2⟩ := ch_k0 (show Sep w (chA b p k C.F :: spA p C.S :: lkA k p sz ca C.L :: F) W from h)
  have HN := Hid.mk (cnone_any k0)
  have hlen := ok.few
  obtain ⟨n, hn⟩ : ∃ n, C.F.length = n := ⟨_, rfl⟩
  rw [hn] at k2 hlen
  by_cases q1 : d < 0
  · have z1 : decide (d < 0) = true := by simpa using q1
    have e1 : cutC ca C d = (250, C) := by unfold cutC; rw [if_pos (.inl q1)]
    rw [e1]
    have H0 := Hid.mk h
    clear h q1 e1
    go_enter Try.func26, Try.ntmps26
    go_wp2_with fail
    refine HN.out.mono ?_
    rintro e w1 ⟨rfl, rfl⟩
    go_wp2_with fail
    go_ret
    exact ⟨H0.out, rfl⟩
  · have z1 : decide (d < 0) = false := by simpa using q1
    by_cases q2 : (n : Int) < d
    · have z2 : decide (d > (n : Int)) = true := by simpa using q2
      have e1 : cutC ca C d = (250, C) := by unfold cutC; rw [hn, if_pos (.inr q2)]
      rw [e1]
      have H0 := Hid.mk h
      clear h q1 q2 e1
      go_enter Try.func26, Try.ntmps26
      go_wp2_with fail
      refine HN.out.mono ?_
      rintro e w1 ⟨rfl, rfl⟩
      go_wp2_with fail
      go_ret
      exact ⟨H0.out, rfl⟩
    · have z2 : decide (d > (n : Int)) = false := by simpa using q2
      obtain ⟨m, rfl⟩ := Int.eq_ofNat_of_zero_le (show 0 ≤ d by omega)
      have hm : m ≤ n := by omega
      have z4 : decide (n < m) = false := by simpa using hm
      have e1 : cutC ca C m = (0, goesN ca C (n - m)) := by unfold cutC; rw [hn, if_neg (by omega)]; simp
      rw [e1]
      have H0 := Hid.mk h
      have HO := Hid.mk ok
      have HNN := Hid.mk hn
      clear h q1 q2 e1 ok hn
      go_enter Try.func26, Try.ntmps26
      go_wp2_with fail
      refine HN.out.mono ?_
      rintro e w1 ⟨rfl, rfl⟩
      clear HN
      go_wp2_with fail
      go_loopw [24] (fun _ wr => ∃ j : Nat, j ≤ n - m ∧ Hid (Sep w (chP b p k sz ca (goesN ca C j) F) wr)) (fun _ wr => lenAt wr b - m)
      case atStart => exact ⟨0, by omega, H0.out⟩
      case round =>
        obtain ⟨j, hj, hs⟩ := hrel
        obtain ⟨k0, k1, ao, c, k2⟩ := ch_k0 (show Sep w (chA b p k (goesN ca C j).F :: spA p (goesN ca C j).S :: lkA k p sz ca (goesN ca C j).L :: F) wr from hs.out)
        have hl := lenAt_ch (show Sep w (chA b p k (goesN ca C j).F :: spA p (goesN ca C j).S :: lkA k p sz ca (goesN ca C j).L :: F) wr from hs.out)
        have hlj : (goesN ca C j).F.length = n - j := by rw [goesN_len, HNN.out]
        rw [hlj] at k2 hl
        obtain ⟨q, hq⟩ : ∃ q, n - j = q := ⟨_, rfl⟩
        rw [hq] at k2 hl
        have HG : Hid (m < q → Calls Try.prog 55 #[.pointer (some ⟨b, 0, none⟩)] wr fun e w' => Sep w (chP b p k sz ca (goesN ca C (j + 1)) F) w' ∧ ∃ u, e = .returned u) := fun hmq => by
          have hne : (goesN ca C j).F ≠ [] := by intro e; rw [e] at hlj; simp at hlj; omega
          have := cgoes_P hs.out (HO.out.goesN j) hne
          rwa [← goesN_succ] at this
        by_cases hmq : m < q
        · have z3 : decide ((q : Int) > (m : Int)) = true := by simpa using hmq
          have HG1 := Hid.mk (HG.out hmq)
          have HL := Hid.mk hl
          have HNN' := HNN
          clear HG hl hs H0
          go_wp2_with fail
          refine HG1.out.mono ?_
          rintro e w2 ⟨h2, u, rfl⟩
          have hl2 := lenAt_ch (show Sep w (chA b p k (goesN ca C (j + 1)).F :: spA p (goesN ca C (j + 1)).S :: lkA k p sz ca (goesN ca C (j + 1)).L :: F) w2 from h2)
          rw [goesN_len, HNN.out] at hl2
          have H2 := Hid.mk h2
          have HLL : Hid (lenAt w2 b - m < lenAt wr b - m ∧ j + 1 ≤ n - m) := ⟨by rw [hl2, HL.out]; omega, by omega⟩
          clear HG1 h2 hl2
          go_wp2_with fail
          first | exact ⟨⟨j + 1, HLL.out.2, H2.out⟩, HLL.out.1⟩ | exact ⟨⟨_, _, _, _, _, _, _, _, _, ⟨j + 1, HLL.out.2, H2.out⟩, rfl⟩, HLL.out.1⟩
        · have z3 : decide ((q : Int) > (m : Int)) = false := by simpa using hmq
          have e : j = n - m := by omega
          have H2 : Hid (Sep w (chP b p k sz ca (goesN ca C (n - m)) F) wr) := by rw [← e]; exact hs
          clear HG hs hl H0
          go_wp2_with fail
          go_ret
          exact ⟨H2.out, rfl⟩
end
end Go.Proofs.Ytpfnnmcokbolhaa
