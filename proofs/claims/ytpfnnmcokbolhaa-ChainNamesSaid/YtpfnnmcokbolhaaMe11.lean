/- Parts Xo Wa Wb Wc, put together. -/
import Derived.Test.YtpfnnmcokbolhaaMe2
import Derived.Test.YtpfnnmcokbolhaaMe10
import Derived.Maps.AppendAt
/- A chain's Return and Segments. -/
namespace Go.Proofs.Ytpfnnmcokbolhaa
open Go.RowKit
set_option pp.deepTerms true
theorem run_len (S : Sp) (a m : Int) : ((S.run a m).1.getD []).length ≤ m.toNat := by
  unfold Sp.run
  split
  · simp
  · split
    · simp
    · split
      · split
        · simp
        · simp [seg]; omega
      · simp
theorem resC_len {C : Ch} (ok : ChOk C) : ((resC C).1.getD []).length ≤ 64 := by
  unfold resC
  split
  · simp
  · rename_i f fs hF
    obtain ⟨-, hn, a0, a1, r0, r1, h5, h6⟩ := (layOk_iff f.lay).1 (ok.fr f (by rw [hF]; simp)).lay
    split
    · exact Nat.le_trans (run_len C.S (f.base + f.lay.args) f.lay.res) (by omega)
    · simp
section
variable {w W : World} {F : List Asr} {b p k : Nat} {sz ca : Int} {C : Ch}
theorem chP_in {A : Asr} (h : Sep w (A :: chP b p k sz ca C F) W) : Sep w (chP b p k sz ca C (A :: F)) W := Sep.rot [_] [_, _, _] h
theorem chP_lose {A : Asr} (h : Sep w (chP b p k sz ca C (A :: F)) W) : Sep w (chP b p k sz ca C F) W := Sep.lose 3 h
set_option maxRecDepth 100000 in
set_option maxHeartbeats 2000000 in
/-- the loop over what comes back -/
theorem cret_any (h : Sep w (chP b p k sz ca C F) W) (ok : ChOk C) : Calls Try.prog 23 #[.pointer (some ⟨b, 0, none⟩)] W fun e w' => Sep w (chP b p k sz ca (retC ca C).2 F) w' ∧ e = .returned (.int .i64 (retC ca C).1) := by
  have HR := Hid.mk (cresults_any h ok)
  have hlen := resC_len ok
  have hfew := ok.few
  obtain ⟨vs, hvs⟩ : ∃ vs, (resC C).1.getD [] = vs := ⟨_, rfl⟩
  obtain ⟨er, her⟩ : ∃ er, (resC C).2 = er := ⟨_, rfl⟩
  rw [hvs] at HR hlen
  rw [her] at HR
  obtain ⟨⟨r, C'⟩, hr⟩ : ∃ r, retC ca C = r := ⟨_, rfl⟩
  rw [hr]
  unfold retC at hr
  rw [hvs, her] at hr
  obtain ⟨n, hn⟩ : ∃ n, vs.length = n := ⟨_, rfl⟩
  have HNV := Hid.mk hn
  by_cases q0 : er = 0
  · subst q0
    rw [if_pos rfl] at hr
    cases hF : C.F with
    | nil =>
      exfalso
      have : (resC C).2 = 250 := by unfold resC; rw [hF]
      omega
    | cons f fs =>
      cases fs with
      | nil =>
        rw [hF] at hr
        simp only [Prod.mk.injEq] at hr
        obtain ⟨rfl, rfl⟩ := hr
        have hFF := Hid.mk hF
        clear h hF hvs her ok hn
        go_enter Try.func23, Try.ntmps23
        go_wp2_with fail
        refine HR.out.mono ?_
        rintro e w1 ⟨v, h1, -, rfl⟩
        obtain ⟨ao2, c2, rfl⟩ := own_shape (h1.owns (base := 0) (T := 34) (n := 2) (v := v) (m := vs.length) (xs := wcells vs) (by simp [vrow]))
        obtain ⟨k0, k1, ao, c, k2⟩ := ch_k0 (show Sep w (chA b p k C.F :: spA p C.S :: lkA k p sz ca C.L :: F) w1 from h1.tl)
        rw [hFF.out] at k2
        simp only [List.length_cons, List.length_nil, Nat.zero_add] at k2
        have H1 := Hid.mk h1.tl
        clear HR h1
        go_wp2_with fail
        go_ret
        exact ⟨H1.out, rfl⟩
      | cons g fs =>
        rw [hF] at hr
        simp only at hr
        have hg := ok.fr g (by rw [hF]; simp)
        obtain ⟨-, hny, -, -, -, -, h5, h6⟩ := (layOk_iff g.lay).1 hg.lay
        have n0 := hg.n0
        have n1 := hg.n1
        rw [hn] at hr hlen
        have hFF := Hid.mk hF
        have HO := Hid.mk ok
        clear h hvs her ok hF hg
        go_enter Try.func23, Try.ntmps23
        go_wp2_with fail
        refine HR.out.mono ?_
        rintro e w1 ⟨v, h1, -, rfl⟩
        obtain ⟨av, cv, rfl⟩ := own_shape (h1.owns (base := 0) (T := 34) (n := 2) (v := v) (m := vs.length) (xs := wcells vs) (by simp [vrow]))
        rw [hn] at h1 ⊢
        have h2 := chP_in h1
        obtain ⟨g', c, x, l, q1, q2, q3, hT⟩ := chP_cons h2 hFF.out
        match l, q3 with
        | y :: l, q3 =>
        simp only [List.map_cons, List.cons.injEq] at q3
        obtain ⟨q3, q4⟩ := q3
        subst q3
        have k0 := hT.k0
        have k2 := hT.k2
        have e0 := hT.fr2.c0
        obtain ⟨ay, cy, hy⟩ := hT.fr2.slots.shape
        rw [hy] at e0
        have e1 := hT.fr2.c1
        have e2 := hT.fr2.c2
        have e3 := hT.fr2.c3
        have e4 := hT.fr2.c4
        have e5 := hT.fr2.c5
        have e6 := hT.fr2.c6
        obtain ⟨m, hm⟩ : ∃ m, l.length = m := ⟨_, rfl⟩
        rw [List.length_cons, hm] at k2
        rw [hm] at e0 e1 e2 e3 e4 e5 e6
        have hmm : m ≤ 1000 := by rw [hFF.out] at hfew; simp only [List.length_cons] at hfew; rw [← q4] at hfew; simp at hfew; omega
        obtain ⟨ny, hny'⟩ : ∃ ny, y.2.lay.slots.length = ny := ⟨_, rfl⟩
        rw [hny'] at e0
        have u1 : IntKind.i64.wrap (((m + 1 + 1 : Nat) : Int) - 2) = (m : Int) := by rw [IntKind.wrap_i64]; omega
        have u2 : IntKind.i64.wrap ((m : Int) + 1 + 1 - 2) = (m : Int) := by rw [IntKind.wrap_i64]; omega
        have u3 : IntKind.i64.wrap (m : Int) = (m : Int) := by rw [IntKind.wrap_i64]; omega
        have u4 : (m : Int) + 1 + 1 - 2 = (m : Int) := by omega
        have z1 : decide ((((m + 1 + 1 : Nat) : Int)) < 2) = false := by simp; omega
        have z2 : decide ((m : Int) + 1 + 1 < 2) = false := by simp; omega
        have l1 : m < m + 1 + 1 := by omega
        have l2 : (m : Int) < (m : Int) + 1 + 1 := by omega
        have H2 := Hid.mk h2
        clear HR h1 h2 hT q1 q4 hny' hy hm
        go_wp2_with fail
        go_region_held3 (fun X => X.cell? ⟨b, 2, none⟩ = some (.slice (some ⟨g', 0, none⟩) (m + 1 + 1 : Nat) c) ∧ X.cell? ⟨g', m * 7, none⟩ = some (.slice ay ny cy) ∧ X.cell? ⟨g', m * 7 + 1, none⟩ = some (.int .i64 y.2.lay.args) ∧ X.cell? ⟨g', m * 7 + 2, none⟩ = some (.int .i64 y.2.lay.res) ∧ X.cell? ⟨g', m * 7 + 3, none⟩ = some (.int .i64 y.2.lay.height) ∧ X.cell? ⟨g', m * 7 + 4, none⟩ = some (.int .i64 y.2.base) ∧ X.cell? ⟨g', m * 7 + 5, none⟩ = some (.int .i64 y.2.ops) ∧ X.cell? ⟨g', m * 7 + 6, none⟩ = some (.bool y.2.own)) (first | exact ⟨k2, e0, e1, e2, e3, e4, e5, e6⟩ | exact ⟨alloc_cell k2, alloc_cell e0, alloc_cell e1, alloc_cell e2, alloc_cell e3, alloc_cell e4, alloc_cell e5, alloc_cell e6⟩) (first | fail)
        have h3 := chP_in (H2.out.alloc (.cells #[.slice ay ny cy, .int .i64 y.2.lay.args, .int .i64 y.2.lay.res, .int .i64 y.2.lay.height, .int .i64 y.2.base, .int .i64 y.2.ops, .bool y.2.own] 99 (0, 0))).drew
        have B3 := h3.at (b := w1.heap.size) (o := (.cells #[.slice ay ny cy, .int .i64 y.2.lay.args, .int .i64 y.2.lay.res, .int .i64 y.2.lay.height, .int .i64 y.2.base, .int .i64 y.2.ops, .bool y.2.own] 99 (0, 0))) (by simp [chP])
        have g3 : (w1.alloc (.cells #[.slice ay ny cy, .int .i64 y.2.lay.args, .int .i64 y.2.lay.res, .int .i64 y.2.lay.height, .int .i64 y.2.base, .int .i64 y.2.ops, .bool y.2.own] 99 (0, 0))).drew.cell? ⟨w1.heap.size, 3, none⟩ = some (.int .i64 y.2.lay.height) := by rw [cell_of_row _ _ 3 _ _ _ B3]; rfl
        have g5 : (w1.alloc (.cells #[.slice ay ny cy, .int .i64 y.2.lay.args, .int .i64 y.2.lay.res, .int .i64 y.2.lay.height, .int .i64 y.2.base, .int .i64 y.2.ops, .bool y.2.own] 99 (0, 0))).drew.cell? ⟨w1.heap.size, 5, none⟩ = some (.int .i64 y.2.ops) := by rw [cell_of_row _ _ 5 _ _ _ B3]; rfl
        have H3 := Hid.mk h3
        obtain ⟨W2, hW2⟩ : ∃ W2, W2 = (w1.alloc (.cells #[.slice ay ny cy, .int .i64 y.2.lay.args, .int .i64 y.2.lay.res, .int .i64 y.2.lay.height, .int .i64 y.2.base, .int .i64 y.2.ops, .bool y.2.own] 99 (0, 0))).drew := ⟨_, rfl⟩
        rw [← hW2] at g3 g5 H3 ⊢
        clear h3 B3 hW2 H2 k0 k2 e0 e1 e2 e3 e4 e5 e6 z1 z2 l1 l2 u1 u2 u3 u4
        by_cases q : y.2.lay.height < y.2.ops + n
        · have z3 : decide (y.2.ops + (n : Int) > y.2.lay.height) = true := by simpa using q
          rw [if_pos q] at hr
          simp only [Prod.mk.injEq] at hr
          obtain ⟨rfl, rfl⟩ := hr
          have HE := Hid.mk (chP_lose (chP_lose H3.out))
          clear q H3
          go_wp2_with fail
          go_ret
          exact ⟨HE.out, rfl⟩
        · have z3 : decide (y.2.ops + (n : Int) > y.2.lay.height) = false := by simpa using q
          rw [if_neg q] at hr
          simp only [Prod.mk.injEq] at hr
          obtain ⟨rfl, rfl⟩ := hr
          have HG := Hid.mk (cgoes_P H3.out HO.out (by rw [hFF.out]; simp))
          clear q H3
          go_wp2_with fail
          refine HG.out.mono ?_
          rintro e w4 ⟨h4, u, rfl⟩
          have h4 := Sep.lose 3 h4
          have H4 := Hid.mk (show Sep w (chP b p k sz ca (goesC ca C) (vrow (.slice av n cv) vs :: F)) w4 from h4)
          clear HG h4 g3 g5
          rcases Nat.eq_zero_or_pos n with h0 | h0
          · subst h0
            have e0 : vs = [] := List.eq_nil_of_length_eq_zero hn
            have HE : Hid (Sep w (chP b p k sz ca (pushAll (goesC ca C) vs) F) w4) := by rw [e0]; exact chP_lose H4.out
            clear H4 e0
            go_wp2_with fail
            refine wp_loop_rounds 1 ?_; rw [rounds_succ]
            go_wp2_with fail
            go_ret
            exact ⟨HE.out, rfl⟩
          · have ho := Sep.owns (base := 0) (T := 34) (n := 2) (v := .slice av n cv) (m := vs.length) (xs := wcells vs) H4.out (by simp [chP, vrow])
            obtain ⟨vb, cc, hsh⟩ := row_shape ho (by omega)
            rw [hn] at hsh
            simp only [Value.slice.injEq, true_and] at hsh
            obtain ⟨rfl, rfl⟩ := hsh
            clear ho
            go_wp2_with fail
            go_loopw [7, 49] (fun _ i wr => ∃ j : Nat, i = .int .i64 j ∧ j ≤ n ∧ Hid (Sep w (chP b p k sz ca (pushAll (goesC ca C) (vs.take j)) (vrow (.slice (some ⟨vb, 0, none⟩) n cv) vs :: F)) wr)) (fun _ i _ => n - (intOf i).toNat)
            case atStart => exact ⟨0, rfl, by omega, H4.out⟩
            case round =>
              obtain ⟨j, rfl, hj, hs⟩ := hrel
              by_cases hlt : j < n
              · have hj' : j < vs.length := by have := HNV.out; omega
                obtain ⟨a, ha⟩ : ∃ a, vs[j].1 = a := ⟨_, rfl⟩
                obtain ⟨t, ht⟩ : ∃ t, vs[j].2 = t := ⟨_, rfl⟩
                have ho := Sep.owns (base := 0) (T := 34) (n := 2) (v := .slice (some ⟨vb, 0, none⟩) n cv) (m := vs.length) (xs := wcells vs) hs.out (by simp [chP, vrow])
                rw [HNV.out] at ho
                have c0 := row_cell ho (wcells_fst hj')
                have c1 := row_cell ho (wcells_snd hj')
                rw [ha] at c0
                rw [ht] at c1
                have HP := cpush_any (chP_in (hs.out.alloc (.cells #[.int .i64 a, .int .i64 t] 34))) (HO.out.goes.pushAll (vs.take j)) (a, t)
                have hpa : (pushC (pushAll (goesC ca C) (vs.take j)) (a, t)).2 = pushAll (goesC ca C) (vs.take (j + 1)) := by
                  rw [← pushAll_snoc, List.take_add_one, List.getElem?_eq_getElem hj', ← ha, ← ht]
                  rfl
                rw [hpa] at HP
                have HP := Hid.mk HP
                clear ho ha ht hpa hs H4
                go_wp2_with fail
                refine HP.out.mono ?_
                rintro e w5 ⟨h5, rfl⟩
                have H5 := Hid.mk (chP_lose h5)
                clear HP h5
                go_wp2_with fail
                exact ⟨⟨j + 1, by go_num, by omega, H5.out⟩, by simp [intOf]; omega⟩
              · obtain rfl : j = n := by omega
                have HE : Hid (Sep w (chP b p k sz ca (pushAll (goesC ca C) vs) F) wr) := by
                  have := chP_lose hs.out
                  rwa [List.take_of_length_le (by have := HNV.out; omega)] at this
                clear H4 hs
                go_wp2_with fail
                go_ret
                exact ⟨HE.out, rfl⟩
  · have z : (er != 0) = true := by simpa using q0
    rw [if_neg q0] at hr
    simp only [Prod.mk.injEq] at hr
    obtain ⟨rfl, rfl⟩ := hr
    clear h hvs her q0 ok hn
    go_enter Try.func23, Try.ntmps23
    go_wp2_with fail
    refine HR.out.mono ?_
    rintro e w1 ⟨v, h1, -, rfl⟩
    have H1 := Hid.mk h1.tl
    clear HR h1
    go_wp2_with fail
    go_ret
    exact ⟨H1.out, rfl⟩
set_option maxRecDepth 100000 in
theorem csegs_any (h : Sep w (chP b p k sz ca C F) W) (ok : ChOk C) : Calls Try.prog 17 #[.pointer (some ⟨b, 0, none⟩)] W fun e w' => ∃ ao c ak ck, Sep w (rw_ 0 88 2 (.slice ao C.L.live.length c) C.L.live.length (wcells C.L.live) :: rw_ 0 88 2 (.slice ak C.L.kept.length ck) C.L.kept.length (wcells C.L.kept) :: chP b p k sz ca C F) w' ∧ e = .returned (.tuple #[.slice ao C.L.live.length c, .slice ak C.L.kept.length ck]) := by
  obtain ⟨k0, k1, ao, c, k2⟩ := ch_k0 (show Sep w (chA b p k C.F :: spA p C.S :: lkA k p sz ca C.L :: F) W from h)
  have HN := Hid.mk (cnone_any k0)
  have HL : Hid (∀ {A : Asr} {W' : World}, Sep w (spA p C.S :: lkA k p sz ca C.L :: A :: F) W' → Calls Try.prog 51 #[.pointer (some ⟨k, 0, none⟩)] W' fun e w' => ∃ ao c, e = .returned (.slice ao C.L.live.length c) ∧ Sep w (rw_ 0 88 2 (.slice ao C.L.live.length c) C.L.live.length (wcells C.L.live) :: spA p C.S :: lkA k p sz ca C.L :: A :: F) w' ∧ Below W'.heap.size W' w') := fun {A W'} q => live_sep q ok.live
  have HK : Hid (∀ {A : Asr} {W' : World}, Sep w (spA p C.S :: lkA k p sz ca C.L :: A :: F) W' → Calls Try.prog 52 #[.pointer (some ⟨k, 0, none⟩)] W' fun e w' => ∃ ao c, e = .returned (.slice ao C.L.kept.length c) ∧ Sep w (rw_ 0 88 2 (.slice ao C.L.kept.length c) C.L.kept.length (wcells C.L.kept) :: spA p C.S :: lkA k p sz ca C.L :: A :: F) w' ∧ Below W'.heap.size W' w') := fun {A W'} q => kept_sep q ok.kept
  have HL2 : Hid (∀ {A B : Asr} {W' : World}, Sep w (spA p C.S :: lkA k p sz ca C.L :: A :: B :: F) W' → Calls Try.prog 51 #[.pointer (some ⟨k, 0, none⟩)] W' fun e w' => ∃ ao c, e = .returned (.slice ao C.L.live.length c) ∧ Sep w (rw_ 0 88 2 (.slice ao C.L.live.length c) C.L.live.length (wcells C.L.live) :: spA p C.S :: lkA k p sz ca C.L :: A :: B :: F) w' ∧ Below W'.heap.size W' w') := fun {A B W'} q => live_sep q ok.live
  have HK2 : Hid (∀ {A B : Asr} {W' : World}, Sep w (spA p C.S :: lkA k p sz ca C.L :: A :: B :: F) W' → Calls Try.prog 52 #[.pointer (some ⟨k, 0, none⟩)] W' fun e w' => ∃ ao c, e = .returned (.slice ao C.L.kept.length c) ∧ Sep w (rw_ 0 88 2 (.slice ao C.L.kept.length c) C.L.kept.length (wcells C.L.kept) :: spA p C.S :: lkA k p sz ca C.L :: A :: B :: F) w' ∧ Below W'.heap.size W' w') := fun {A B W'} q => kept_sep q ok.kept
  have H0 := Hid.mk h
  obtain ⟨n, hn⟩ : ∃ n, C.L.live.length = n := ⟨_, rfl⟩
  obtain ⟨m, hm⟩ : ∃ m, C.L.kept.length = m := ⟨_, rfl⟩
  rw [hn] at HL HL2 ⊢
  rw [hm] at HK HK2 ⊢
  clear h
  go_enter Try.func17, Try.ntmps17
  go_wp2_with fail
  refine HN.out.mono ?_
  rintro e w1 ⟨rfl, rfl⟩
  clear HN
  go_wp2_with fail
  go_region_held3 (fun X => X.cell? ⟨b, 1, none⟩ = some (.pointer (some ⟨k, 0, none⟩))) (first | exact s9 | exact s8 | exact k1) (first | (go_at_call 51; refine (HL.out (A := chA b p k C.F) (Sep.rot [_] [_, _] H0.out.drew)).mono ?_; rintro e w2 ⟨ao1, c1, rfl, h2, hb2⟩; have s8 := keep_dr hb2 k1) | (go_at_call 52; refine (HK.out (A := chA b p k C.F) (Sep.rot [_] [_, _] H0.out.drew)).mono ?_; rintro e w2 ⟨ao1, c1, rfl, h2, hb2⟩; have s8 := keep_dr hb2 k1) | (go_at_call 52; refine (HK2.out (Sep.rot [_] [_, _] h2)).mono ?_; rintro e w3 ⟨ao2, c2, rfl, h3, hb3⟩; have s9 := keep_be hb3 s8) | (go_at_call 51; refine (HL2.out (Sep.rot [_] [_, _] h2)).mono ?_; rintro e w3 ⟨ao2, c2, rfl, h3, hb3⟩; have s9 := keep_be hb3 s8))
  · have HE := Hid.mk (((((h3.pick 2 rfl).pick 2 rfl).pick 4 rfl).pick 3 rfl).pick 4 rfl)
    clear HL HL2 HK HK2 h2 h3 hb2 hb3 H0
    go_wp2_with fail
    go_ret2
    exact ⟨_, _, _, _, HE.out, rfl⟩
end
end Go.Proofs.Ytpfnnmcokbolhaa
/- The iterator of a chain's words. -/
namespace Go.Proofs.Ytpfnnmcokbolhaa
open Go.RowKit Go.Shelf
attribute [local go_sem] Oper.semAt_some
set_option pp.deepTerms true
/-- a segment's words with their addresses -/
def wel (S : Sp) (r : Int × Int) : List (Int × (Int × Int)) := (List.range r.2.toNat).map fun (j : Nat) => (r.1 + (j : Int), (S.get (r.1 + (j : Int))).1)
def welL (S : Sp) (l : List (Int × Int)) : List (Int × (Int × Int)) := l.flatMap (wel S)
def wenc (x : Int × (Int × Int)) : Array Value := #[.int .i64 x.1, .agg #[.int .i64 x.2.1, .int .i64 x.2.2]]
theorem wel_len (S : Sp) (r : Int × Int) : (wel S r).length = r.2.toNat := by simp [wel]
theorem wel_take (S : Sp) (r : Int × Int) {j : Nat} (h : j < r.2.toNat) : (wel S r).take (j + 1) = (wel S r).take j ++ [(r.1 + (j : Int), (S.get (r.1 + (j : Int))).1)] := by
  rw [List.take_succ_eq_append_getElem (by rw [wel_len]; exact h)]
  simp [wel]
theorem welL_words (C : Ch) : (welL C.S C.L.live).map (·.2) = wordsC C := by
  unfold welL wordsC
  rw [List.map_flatMap]
  congr 1
  funext r
  simp [wel, wordsR]
theorem welL_snoc (S : Sp) {l : List (Int × Int)} {q : Nat} (h : q < l.length) : welL S (l.take (q + 1)) = welL S (l.take q) ++ wel S l[q] := by
  unfold welL
  rw [List.take_succ_eq_append_getElem h, List.flatMap_append]
  simp only [List.flatMap_cons, List.flatMap_nil, List.append_nil]
theorem welL_prefix (S : Sp) {l : List (Int × Int)} {q j : Nat} (h : q < l.length) : welL S (l.take q) ++ (wel S l[q]).take j <+: welL S l := by
  have e : welL S l = welL S (l.take q) ++ (wel S l[q] ++ welL S (l.drop (q + 1))) := by
    unfold welL
    conv => lhs; rw [← List.take_append_drop q l, List.drop_eq_getElem_cons h]
    rw [List.flatMap_append, List.flatMap_cons]
  rw [e]
  exact List.prefix_append_right_inj _ |>.2 ((List.take_prefix _ _).trans (List.prefix_append _ _))
/-- what a round may change: no block that was, no block but of values and slices of values -/
def KpR (n₀ : Nat) (W W' : World) : Prop := Below n₀ W W' ∧ ∀ (k : Nat) cs T z, T ≠ 34 → T ≠ 32 → W.heap[k]? = some (Obj.cells cs T z) → W'.heap[k]? = W.heap[k]?
theorem KpR.t {n₀ : Nat} {A B C : World} (h : KpR n₀ A B) (k : KpR n₀ B C) : KpR n₀ A C :=
  ⟨h.1.trans k.1, fun i cs T z e1 e2 e => by have h1 := h.2 i cs T z e1 e2 e; exact (k.2 i cs T z e1 e2 (h1.trans e)).trans h1⟩
theorem KpR.b {n₀ : Nat} {w : World} (hn : n₀ ≤ w.heap.size) (W : World) (l : Nat) (o o' : Obj) (hl : w.heap.size ≤ l) (h : W.heap[l]? = some o) (hc : o.isCells = false) (hw : o.isWalk = false) : KpR n₀ W (W.putObj l o') :=
  ⟨belowK_b hn W l o o' hl h hc hw, fun k cs T z _ _ e => (grownBy_putObj' W l o').block k (lt_of_heap e) (fun q => by cases q; rw [h] at e; cases e; simp [Obj.isCells] at hc)⟩
theorem grown_of_below {W W' : World} (h : Below W.heap.size W W') : W.grownBy W' none := ⟨h.os, h.tape, h.output, h.size, fun k hk _ => h.block k hk⟩
theorem KpR.below {n₀ : Nat} {W W' : World} (h : Below W.heap.size W W') (hn : n₀ ≤ W.heap.size) : KpR n₀ W W' := ⟨h.mono hn, fun k cs T z _ _ e => h.block k (lt_of_heap e)⟩
theorem KpR.box {n₀ : Nat} {W W' : World} {k : Nat} {cs : Array Value} {T : TypeId} {z : Nat × Nat} (h : KpR n₀ W W') (e : W.heap[k]? = some (.cells cs T z)) (e1 : T ≠ 34) (e2 : T ≠ 32) : W'.heap[k]? = some (.cells cs T z) := (h.2 k cs T z e1 e2 e).trans e
set_option maxRecDepth 100000 in
set_option maxHeartbeats 1000000 in
theorem clive_in (n : Nat) (p : Option Addr) (w : World) :
    CallsIn Fence.wide n Try.prog 56 #[.pointer p] w fun e w' => e = .returned (.func (.func 77) #[] #[.pointer (some ⟨w.heap.size, 0, none⟩)]) ∧ w' = w.alloc (.cells #[.pointer p] 38) := by
  refine callsIn_of_wp Try.func56 rfl trivial ?_ rfl
  simp only [Try.ntmps56, List.size_toArray, List.length_cons, List.length_nil, Nat.reduceAdd, Nat.reduceSub, Array.replicate_succ, Array.replicate_zero, List.push_toArray, List.append_toArray, List.nil_append, List.cons_append]
  gi_wp2
  go_ret
  exact ⟨rfl, rfl⟩
theorem KpR.row {n₀ : Nat} {W W' : World} {base : Nat} {v : Value} {n : Nat} {xs : List Value} (h : KpR n₀ W W') (hr : W.ownsRow base 88 2 v n xs) : W'.ownsRow base 88 2 v n xs :=
  ⟨hr.1, hr.2.imp id (fun ⟨g, cap, cur, e, hge, hg, r⟩ => ⟨g, cap, cur, e, hge, h.box hg (by decide) (by decide), r⟩)⟩
section
variable {w wS : World} {F : List Asr} {b p k : Nat} {sz ca : Int} {C : Ch}
set_option maxRecDepth 100000 in
set_option maxHeartbeats 4000000 in
theorem clive1_in (n : Nat) (hn : 1 ≤ n) (l Bn : Nat) (hS : Sep w (chP b p k sz ca C F) wS) (ok : ChOk C) (hr : ∀ r ∈ C.L.live, 0 ≤ r.1 ∧ r.1 ≤ 1000000000000 ∧ 0 ≤ r.2 ∧ r.2 ≤ 1000000000000) (J Jx : List (Int × (Int × Int)) → World → Prop) (B0 : Nat) (hJ : AbidesFrom B0 J)
    (hY : ∀ pre x W, J pre W → pre.length < (welL C.S C.L.live).length → YieldAt Fence.wide (n - 1) Try.prog l (wenc x) W fun e W' =>
      (e = .returned (.bool true) ∧ J (pre ++ [x]) W' ∧ KpR wS.heap.size W W') ∨ (e = .returned (.bool false) ∧ Jx (pre ++ [x]) W'))
    (W : World) (hW : Below wS.heap.size wS W) (hBn : W.heap[Bn]? = some (.cells #[.pointer (some ⟨b, 0, none⟩)] 38 (0, 0))) (h0 : J [] W) :
    CallsIn Fence.wide n Try.prog 77 #[.func (.yield l) #[] #[], .pointer (some ⟨Bn, 0, none⟩)] W fun e W' => (∃ v, e = .returned v) ∧
      ((∃ ys, ys = welL C.S C.L.live ∧ J ys W') ∨ (∃ pre, pre <+: welL C.S C.L.live ∧ Jx pre W')) := by
  have cBn : W.cell? ⟨Bn, 0, none⟩ = some (.pointer (some ⟨b, 0, none⟩)) := by rw [cell_of_row W Bn 0 _ _ _ hBn]; rfl
  have hS1 := hS.keep hW
  obtain ⟨-, k1, -⟩ := ch_k0 (show Sep w (chA b p k C.F :: spA p C.S :: lkA k p sz ca C.L :: F) W from hS1)
  have HL : Hid (Calls Try.prog 51 #[.pointer (some ⟨k, 0, none⟩)] W fun e w' => Below W.heap.size W w' ∧ OwnR W C.L.live e w') := (live24_seg (Sep.rot [_] [_, _] hS1).seg0 ok.live).mono (fun e w' q => ⟨q.2.1, q.2.2⟩)
  obtain ⟨m, hm⟩ : ∃ m, C.L.live.length = m := ⟨_, rfl⟩
  have HM := Hid.mk hm
  have hm6 : m ≤ 1000000 := by rw [← hm]; exact ok.live
  have HR := Hid.mk hr
  have HS := Hid.mk hS
  have HW := Hid.mk hW
  have HB := Hid.mk hBn
  have HJ := Hid.mk hJ
  have H0 := Hid.mk h0
  clear hS1 hr hm
  refine callsIn_of_wp Try.func77 rfl trivial ?_ rfl
  simp only [Try.ntmps77, List.size_toArray, List.length_cons, List.length_nil, Nat.reduceAdd, Nat.reduceSub, Array.replicate_succ, Array.replicate_zero, List.push_toArray, List.append_toArray, List.nil_append, List.cons_append]
  gi_wp2
  refine ⟨trivial, (callsIn_wide.2 HL.out).mono ?_⟩
  rintro e w2 ⟨hb2, v, rfl, hrow⟩
  obtain ⟨ao, cc, rfl⟩ := own_shape hrow
  have hn2 : wS.heap.size ≤ W.heap.size := hW.size
  have HROW := Hid.mk hrow
  have HB2 := Hid.mk hb2
  have HK0 : Hid (KpR wS.heap.size W w2) := KpR.below hb2 hn2
  have HN2 : Hid (wS.heap.size ≤ w2.heap.size) := Nat.le_trans hn2 hb2.size
  have HJ2 : Hid (J [] w2) := HJ.out _ _ _ none H0.out (grown_of_below hb2) (fun r e => by cases e)
  clear hrow hb2 hn2 k1 cBn HL hW hBn hJ h0 H0
  rw [HM.out]
  gi_wp2
  gi_loopw [14] (fun i wr => ∃ q : Nat, i = .int .i64 (q : Int) ∧ q ≤ m ∧ Hid (J (welL C.S (C.L.live.take q)) wr) ∧ Hid (KpR wS.heap.size w2 wr)) (fun i _ => m - (intOf i).toNat)
  case atStart => exact ⟨0, rfl, Nat.zero_le _, HJ2.out, KpR.below (Below.refl _ _) HN2.out⟩
  case round =>
    obtain ⟨q, rfl, hq, HJq, HKq⟩ := hrel
    clear HJ2
    by_cases hlt : q < m
    · have hq1 : q < C.L.live.length := by rw [HM.out]; exact hlt
      obtain ⟨hr0, hr1, hr2, hr3⟩ := HR.out _ (List.getElem_mem hq1)
      have hRd := Rd.of_row (xs := C.L.live) (HKq.out.row HROW.out) rfl
      obtain ⟨rb, ro, rc, er, hrb, hrc⟩ := hRd.some (by omega)
      obtain ⟨x0, x1⟩ := hrc q hq1
      simp only [Value.slice.injEq] at er
      obtain ⟨rfl, -, -⟩ := er
      obtain ⟨rg, hrg⟩ : ∃ r, C.L.live[q] = r := ⟨_, rfl⟩
      rw [hrg] at hr0 hr1 hr2 hr3 x0 x1
      obtain ⟨ba, bw⟩ := rg
      obtain ⟨nw, rfl⟩ := Int.eq_ofNat_of_zero_le hr2
      simp only at hr0 hr1 hr2 hr3 x0 x1
      have HRG := Hid.mk hrg
      clear hRd hrc hrb hrg
      have hbA : Below wr.heap.size wr (wr.alloc (.cells #[.int .i64 ba, .int .i64 (nw : Int)] 88)) := (Below.refl _ _).alloc (Nat.le_refl _) _
      have HJ4 : Hid (J (welL C.S (C.L.live.take q)) (wr.alloc (.cells #[.int .i64 ba, .int .i64 (nw : Int)] 88))) := HJ.out _ _ _ none HJq.out (grown_of_below hbA) (fun r e => by cases e)
      have HK4 : Hid (KpR wS.heap.size w2 (wr.alloc (.cells #[.int .i64 ba, .int .i64 (nw : Int)] 88))) := HKq.out.t (KpR.below hbA (Nat.le_trans HN2.out HKq.out.1.size))
      have HX4 : Hid ((wr.alloc (.cells #[.int .i64 ba, .int .i64 (nw : Int)] 88)).heap[wr.heap.size]? = some (.cells #[.int .i64 ba, .int .i64 (nw : Int)] 88 (0, 0))) := heap_alloc_new _ _
      clear hbA
      gi_wp2
      clear HJq HKq x0 x1
      obtain ⟨w4, hw4⟩ : ∃ w4, w4 = wr.alloc (.cells #[.int .i64 ba, .int .i64 (nw : Int)] 88) := ⟨_, rfl⟩
      obtain ⟨Br, hBr⟩ : ∃ B, B = wr.heap.size := ⟨_, rfl⟩
      rw [← hw4] at HJ4 HK4 HX4 ⊢
      rw [← hBr] at HX4 ⊢
      clear hw4 hBr
      gi_loopw [5] (fun i wz => ∃ j : Nat, i = .int .i64 (ba + (j : Int)) ∧ j ≤ nw ∧ Hid (J (welL C.S (C.L.live.take q) ++ (wel C.S (ba, (nw : Int))).take j) wz) ∧ Hid (KpR wS.heap.size w4 wz)) (fun i _ => (ba + (nw : Int) - intOf i).toNat)
      case atStart => exact ⟨0, by simp, Nat.zero_le _, by have := HJ4.out; unfold Hid; simpa using this, KpR.below (Below.refl _ _) (Nat.le_trans HN2.out HK4.out.1.size)⟩
      case round =>
        obtain ⟨j, rfl, hj, HJj, HKj⟩ := hrel
        clear HJ4
        have hbox := HKj.out.box HX4.out (by decide) (by decide)
        have r0 : wr.cell? ⟨Br, 0, none⟩ = some (.int .i64 ba) := by rw [cell_of_row wr Br 0 _ _ _ hbox]; rfl
        have r1 : wr.cell? ⟨Br, 1, none⟩ = some (.int .i64 (nw : Int)) := by rw [cell_of_row wr Br 1 _ _ _ hbox]; rfl
        have e1 : IntKind.i64.wrap (ba + (nw : Int)) = ba + (nw : Int) := by rw [IntKind.wrap_i64]; omega
        have HK2 : Hid (KpR wS.heap.size w2 wr) := HK4.out.t HKj.out
        clear hbox
        by_cases hlt2 : j < nw
        · have e2 : decide (ba + (j : Int) < ba + (nw : Int)) = true := by simp; omega
          have hBnr := HK2.out.box (HK0.out.box HB.out (by decide) (by decide)) (by decide) (by decide)
          have cBn : wr.cell? ⟨Bn, 0, none⟩ = some (.pointer (some ⟨b, 0, none⟩)) := by rw [cell_of_row wr Bn 0 _ _ _ hBnr]; rfl
          have hbS : Below wS.heap.size wS wr := (HW.out.trans HK0.out.1).trans HK2.out.1
          have hSr := HS.out.keep hbS
          obtain ⟨k0, -, -⟩ := ch_k0 (show Sep w (chA b p k C.F :: spA p C.S :: lkA k p sz ca C.L :: F) wr from hSr)
          obtain ⟨⟨⟨gt, gn⟩, ge⟩, hg⟩ : ∃ y, C.S.get (ba + (j : Int)) = y := ⟨_, rfl⟩
          have HG : Hid (Calls Try.prog 53 #[.pointer (some ⟨p, 0, none⟩), .int .i64 (ba + (j : Int))] wr fun e w' => Below wr.heap.size wr w' ∧ e = .returned (.tuple #[.agg #[.int .i64 gt, .int .i64 gn], .int .i64 ge])) := (get_sep (Sep.rot [_] [_] hSr) (ba + (j : Int))).mono (fun e w' q => ⟨q.2.1, by rw [q.2.2, hg]⟩)
          have HGE := Hid.mk hg
          have HBR := Hid.mk hbS
          clear hBnr hSr hbS hg
          gi_wp2
          refine ⟨trivial, (callsIn_wide.2 HG.out).mono ?_⟩
          rintro e wg ⟨hbg, rfl⟩
          have hx : (C.S.get (ba + (j : Int))).1 = (gt, gn) := by rw [HGE.out]
          have htk := wel_take C.S (ba, (nw : Int)) (j := j) (by simpa using hlt2)
          simp only [hx] at htk
          have hpre := welL_prefix C.S (j := j + 1) hq1
          rw [HRG.out, htk] at hpre
          have hlen : (welL C.S (C.L.live.take q) ++ (wel C.S (ba, (nw : Int))).take j).length < (welL C.S C.L.live).length := by
            have := hpre.length_le
            simp only [List.length_append, List.length_cons, List.length_nil] at this ⊢
            omega
          have hbv : Below wr.heap.size wr (wg.alloc (.cells #[.int .i64 gt, .int .i64 gn] 34)) := hbg.alloc hbg.size _
          have hJv := HJ.out _ _ _ none HJj.out (grown_of_below hbv) (fun r e => by cases e)
          have HY := Hid.mk (hY _ (ba + (j : Int), (gt, gn)) _ hJv hlen)
          have HKv : Hid (KpR wS.heap.size w4 (wg.alloc (.cells #[.int .i64 gt, .int .i64 gn] 34))) := HKj.out.t (KpR.below hbv HBR.out.size)
          have HPRE := Hid.mk hpre
          have HTK := Hid.mk htk
          clear hbg hx htk hpre hlen hbv hJv HG HGE HBR k0 cBn HKj HJj
          obtain ⟨fn, tmps, assign, body, hyy, hR⟩ := HY.out
          unfold wenc at hyy
          gi_wp2
          refine hR.mono ?_
          rintro e W3 (⟨rfl, hJ3, hk3⟩ | ⟨rfl, hJx3⟩)
          · gi_wp2
            have HJ5 : Hid (J (welL C.S (C.L.live.take q) ++ (wel C.S (ba, (nw : Int))).take (j + 1)) W3) := by unfold Hid; rw [HTK.out, ← List.append_assoc]; exact hJ3
            have HK5 : Hid (KpR wS.heap.size w4 W3) := HKv.out.t hk3
            have e5 : ba + (j : Int) + 1 = ba + ((j + 1 : Nat) : Int) := by omega
            have e6 : (ba + (nw : Int) - (ba + (j : Int) + 1)).toNat < (ba + (nw : Int) - (ba + (j : Int))).toNat := by omega
            exact ⟨⟨j + 1, by rw [e5], hlt2, HJ5, HK5⟩, e6⟩
          · gi_wp2
            refine bodyPost_ret (results_none rfl _ _ _) rfl ?_
            exact ⟨⟨_, rfl⟩, .inr ⟨_, by rw [List.append_assoc]; exact HPRE.out, hJx3⟩⟩
        · obtain rfl : j = nw := by omega
          have e2 : decide (ba + (j : Int) < ba + (j : Int)) = false := by simp
          have HE : Hid (J (welL C.S (C.L.live.take (q + 1))) wr) := by
            have h1 := HJj.out
            have h2 := welL_snoc C.S hq1
            rw [HRG.out] at h2
            rw [List.take_of_length_le (l := wel C.S (ba, (j : Int))) (by rw [wel_len]; simp)] at h1
            unfold Hid
            rw [h2]
            exact h1
          clear HJj HKj HK4
          gi_wp2
          exact ⟨⟨q + 1, by go_num, by omega, HE, HK2⟩, by simp only [intOf]; omega⟩
    · obtain rfl : q = m := by omega
      have HE : Hid (J (welL C.S C.L.live) wr) := by
        have := HJq.out
        rw [← HM.out, List.take_length] at this
        exact this
      clear HJq HKq HROW
      gi_wp2
      go_end0
      exact ⟨⟨_, rfl⟩, .inl ⟨_, rfl, HE.out⟩⟩
end
end Go.Proofs.Ytpfnnmcokbolhaa
/- A chain's words, all of them. -/
namespace Go.Proofs.Ytpfnnmcokbolhaa
open Go.RowKit Go.Shelf
attribute [local go_sem] Oper.semAt_some
section
variable {w wS : World} {F : List Asr} {b p k : Nat} {sz ca : Int} {C : Ch}
theorem clive_stops (n : Nat) (hn : 1 ≤ n) (Bn : Nat) (hS : Sep w (chP b p k sz ca C F) wS) (ok : ChOk C) (hr : ∀ r ∈ C.L.live, 0 ≤ r.1 ∧ r.1 ≤ 1000000000000 ∧ 0 ≤ r.2 ∧ r.2 ≤ 1000000000000) (w0 : World) (hw0 : Below wS.heap.size wS w0) (hB : w0.heap[Bn]? = some (.cells #[.pointer (some ⟨b, 0, none⟩)] 38 (0, 0))) :
    SeqStopsK Fence.wide n Try.prog 77 #[.pointer (some ⟨Bn, 0, none⟩)] wenc (KpR wS.heap.size) (fun ys => ys = welL C.S C.L.live) (fun pre => pre <+: welL C.S C.L.live) (welL C.S C.L.live).length w0 := fun l J Jx W hW hJ _ hY h0 =>
  clive1_in n hn l Bn hS ok hr J Jx _ hJ hY W (hw0.trans (hW.mono hw0.size)) ((hW.block Bn (lt_of_heap hB)).trans hB) h0
def wvals (pre : List (Int × (Int × Int))) : List (Int × Int) := pre.map (·.2)
set_option maxRecDepth 100000 in
set_option maxHeartbeats 2000000 in
theorem cwords_in {W0 : World} (h : Sep w (chP b p k sz ca C F) W0) (ok : ChOk C) (hr : ∀ r ∈ C.L.live, 0 ≤ r.1 ∧ r.1 ≤ 1000000000000 ∧ 0 ≤ r.2 ∧ r.2 ≤ 1000000000000) (hcnt : (welL C.S C.L.live).length ≤ 4194304) (n : Nat) (hn : 5 ≤ n) :
    CallsIn Fence.wide n Try.prog 29 #[.pointer (some ⟨b, 0, none⟩)] W0 fun e w' => Below W0.heap.size W0 w' ∧ ∃ v, e = .returned v ∧ w'.ownsRow W0.heap.size 34 2 v (wordsC C).length (wcells (wordsC C)) := by
  have hfn : ∀ k, Fence.wide.fn k := fun _ => trivial
  have hn1 : 1 ≤ n := by omega
  obtain ⟨k0, -, -⟩ := ch_k0 (show Sep w (chA b p k C.F :: spA p C.S :: lkA k p sz ca C.L :: F) W0 from h)
  have HN := Hid.mk (cnone_any k0)
  obtain ⟨i0, hi, hz0, hz1, hz2⟩ := info_parts infoV
  refine callsIn_of_wp_marks Try.func29 rfl trivial ?_ rfl
  simp only [Try.ntmps29, List.size_toArray, List.length_cons, List.length_nil, Nat.reduceAdd, Nat.reduceSub, Array.replicate_succ, Array.replicate_zero, List.push_toArray, List.append_toArray, List.nil_append, List.cons_append]
  gi_wp2
  refine (callsIn_wide.2 HN.out).mono ?_
  rintro e W ⟨rfl, rfl⟩
  clear HN k0
  gi_wp2
  refine (clive_in (n - 1) _ _).mono ?_
  rintro e w' ⟨rfl, rfl⟩
  gi_wp2
  have bN := (Boxed.new W 32 (.slice none 0 0)).alloc (.cells #[.pointer (some ⟨b, 0, none⟩)] 38)
  have bE := Boxed.new (W.alloc (.cells #[.slice none 0 0] 32)) 38 (.pointer (some ⟨b, 0, none⟩))
  simp only [World.size_alloc] at bE
  have hB0 : Below W.heap.size W ((W.alloc (.cells #[.slice none 0 0] 32)).alloc (.cells #[.pointer (some ⟨b, 0, none⟩)] 38)) := ((Below.refl _ W).alloc (Nat.le_refl _) _).alloc (by simp) _
  have hsz : ((W.alloc (.cells #[.slice none 0 0] 32)).alloc (.cells #[.pointer (some ⟨b, 0, none⟩)] 38)).heap.size = W.heap.size + 2 := by simp
  obtain ⟨W1, hW1⟩ : ∃ W1, (W.alloc (.cells #[.slice none 0 0] 32)).alloc (.cells #[.pointer (some ⟨b, 0, none⟩)] 38) = W1 := ⟨_, rfl⟩
  rw [hW1] at bN bE hB0 hsz ⊢
  clear hW1
  refine wpIn_rangeFunc_ownH (F := Fence.wide) rfl (by omega) (gf := 77) (lb := #[.pointer (some ⟨W.heap.size + 1, 0, none⟩)]) rfl trivial (enters_of Try.func77 (by kernel_rfl) rfl)
    (clive_stops (n - 1) (by omega) (W.heap.size + 1) h ok hr W1 hB0 bE) KpR.t (KpR.b (by omega)) (Below.refl _ _) (fun _ => rfl)
    (fun pre W' => (∃ v, Boxed W' W.heap.size 32 v ∧ W'.ownsRow W.heap.size 34 2 v (wvals pre).length (wcells (wvals pre)) ∧ True) ∧ Below W.heap.size W W')
    (fun c pre W' => False)
    (OwnFrom.and (Own.from (holdsRow_own W.heap.size W.heap.size 32 34 2 (fun pre => (wvals pre).length) (fun pre => wcells (wvals pre)) (fun _ _ => True)) _) (ownFrom_below (Nat.le_refl _) (by omega)))
    (fun _ _ _ _ _ hs _ _ => hs)
    ⟨⟨_, bN, World.ownsRow_nil _ _ _ _, trivial⟩, hB0⟩
    (fun x a' W' => ∃ Bx, W.heap.size < Bx ∧ W'.heap[Bx]? = some (.cells #[.int .i64 x.2.1, .int .i64 x.2.2] 34 (0, 0)) ∧ a' = { tmps := #[.pointer (some ⟨b, 0, none⟩), undef, .slice none 0 0, .pointer (some ⟨W.heap.size, 0, none⟩), undef, .pointer (some ⟨Bx, 0, none⟩), .pointer (some ⟨b, 0, none⟩), .bool false, .pointer (some ⟨b, 0, none⟩), .func (.func 77) #[] #[.pointer (some ⟨W.heap.size + 1, 0, none⟩)], .int .i64 x.1, .agg #[.int .i64 x.2.1, .int .i64 x.2.2], undef, undef, undef, undef, undef], defers := [] })
    (fun x a' _ X Y row hs hg hr => by obtain ⟨Bx, h1, h2, h3⟩ := hs; exact ⟨Bx, h1, (hg.block Bx (lt_of_heap h2) (fun e => by obtain ⟨_, o, ho, hc⟩ := hr Bx e.symm; rw [h2] at ho; cases ho; simp [Obj.isCells] at hc)).trans h2, h3⟩)
    ?assign ?body ?done ?stop
  case assign =>
    rintro l pre x W' K ⟨⟨v, bV, hrow, -⟩, hB1⟩ hK
    unfold wenc
    gi_wp2
    exact hK _ _ ((KeepsOthers.alloc _ _).from _) (KpR.below ((Below.refl _ W').alloc (Nat.le_refl _) _) hB1.size) ⟨⟨v, bV.alloc _, hrow.alloc _, trivial⟩, hB1.alloc hB1.size _⟩ ⟨W'.heap.size, bV.lt, heap_alloc_new W' _, rfl⟩
  case body =>
    have hn2 : 1 ≤ n - 1 - 1 := by omega
    rintro l pre x a' W' hl ⟨r, hr⟩ ⟨⟨v, bV, hrow, -⟩, hB1⟩ ⟨Bx, hBx, bX, rfl⟩ hlt
    have cV := bV.cell
    have cX0 : W'.cell? ⟨Bx, 0, none⟩ = some (.int .i64 x.2.1) := by rw [cell_of_row W' Bx 0 _ _ _ bX]; rfl
    have cX1 : W'.cell? ⟨Bx, 1, none⟩ = some (.int .i64 x.2.2) := by rw [cell_of_row W' Bx 1 _ _ _ bX]; rfl
    have hle : (wvals pre).length < (welL C.S C.L.live).length := by simpa [wvals] using hlt
    gi_wp2_with (gi_at_builtin; refine wpListIn_append_own _ rfl (.tmp 12) (.tmp 14) 32 rfl W.heap.size 34 i0 (.agg #[.int .i64 0, .int .i64 0]) 2 16 Try.underlying32 hi hz0 hz1 hz2 rfl (by decide) _ _ _ rfl (hrow.alloc _) ⟨W'.heap.size, 0, none⟩ 1 1 [.int .i64 x.2.1, .int .i64 x.2.2] rfl rfl (two_new _ _ _ _) ?c3 ?c4 ?c5 ?c6 ?_)
    case c3 => intro u hu; simp only [List.mem_cons, List.not_mem_nil, or_false] at hu; obtain rfl | rfl := hu <;> rfl
    case c4 => unfold maxLen; omega
    case c5 => omega
    case c6 => have := hB1.size; simp; omega
    intro v' w1 hown' hgrow hnn
    obtain ⟨hv1, hv2, hr2, hk2, hb2⟩ := bV.appended (by decide) hrow hB1.size (Nat.le_refl _) hown' hgrow
    have HKR : Hid (∀ (k : Nat) cs T z, T ≠ 34 → T ≠ 32 → W'.heap[k]? = some (Obj.cells cs T z) → (w1.setCell ⟨W.heap.size, 0, none⟩ v').heap[k]? = W'.heap[k]?) := by
      intro k cs T z e1 e2 e
      have hk := lt_of_heap e
      have n1 : some k ≠ v.ownBlock := by
        rcases hrow.2 with ⟨rfl, _⟩ | ⟨g, cap, cur, rfl, _, hgb, _⟩
        · simp [Value.ownBlock]
        · intro e'
          obtain rfl : k = g := by simpa [Value.ownBlock] using e'
          rw [hgb] at e
          simp only [Option.some.injEq, Obj.cells.injEq] at e
          exact e1 e.2.1.symm
      have n2 : k ≠ W.heap.size := by
        rintro rfl
        rw [show W'.heap[W.heap.size]? = _ from bV] at e
        simp only [Option.some.injEq, Obj.cells.injEq] at e
        exact e2 e.2.1.symm
      have h1 : (W'.alloc (Obj.cells #[Value.int .i64 x.2.1, Value.int .i64 x.2.2] 34)).heap[k]? = W'.heap[k]? := (World.grownBy_alloc W' _ none).block k hk (by simp)
      have h2 := hgrow.block k (by simp; omega) n1
      have h3 := (grownBy_setCell' w1 W.heap.size v').block k (by have := hgrow.size; simp at this; omega) (by simpa using n2)
      rw [h3, h2, h1]
    obtain ⟨g', cap', rfl⟩ := ownsRow_succ hown'
    have hc1 := hv1.cell
    have hf1 := hv1.frozen
    gi_wp2
    refine ⟨hk2.from _, ⟨hb2, HKR.out⟩, ⟨_, hv2, ?_, trivial⟩, hB1.trans hb2⟩
    have e1 : wvals (pre ++ [x]) = wvals pre ++ [x.2] := by simp [wvals]
    have e2 : wcells (wvals pre ++ [x.2]) = wcells (wvals pre) ++ [.int .i64 x.2.1, .int .i64 x.2.2] := by simp [wcells, wcell]
    rw [e1, e2, List.length_append]
    exact hr2
  case done =>
    rintro D zs W' hD rfl ⟨⟨v, bV, hrow, -⟩, hB1⟩ hK
    have cV := bV.cell
    gi_wp2
    refine ⟨by simp, .inl ⟨_, _, rfl, run_takeDeferred hK, ?_⟩⟩
    have e : wvals (welL C.S C.L.live) = wordsC C := welL_words C
    rw [e] at hrow
    exact ⟨_, results_tmp rfl _ _ _, hB1.trans (belowK_b (w := W) (Nat.le_refl _) W' D _ _ (by omega) hK rfl rfl), v, rfl, ownsRow_putObj hrow _ hK rfl⟩
  case stop =>
    rintro D c pre W' _ _ h _
    exact h.elim
theorem cwords_any {W : World} (h : Sep w (chP b p k sz ca C F) W) (ok : ChOk C) (hr : ∀ r ∈ C.L.live, 0 ≤ r.1 ∧ r.1 ≤ 1000000000000 ∧ 0 ≤ r.2 ∧ r.2 ≤ 1000000000000) (hcnt : (wordsC C).length ≤ 4194304) :
    Calls Try.prog 29 #[.pointer (some ⟨b, 0, none⟩)] W fun e w' => ∃ ao c, e = .returned (.slice ao (wordsC C).length c) ∧ Sep w (vrow (.slice ao (wordsC C).length c) (wordsC C) :: chP b p k sz ca C F) w' ∧ Below W.heap.size W w' := by
  have e : (welL C.S C.L.live).length = (wordsC C).length := by rw [← welL_words C, List.length_map]
  refine (callsIn_wide.1 (cwords_in h ok hr (by omega) 10 (by decide))).mono ?_
  rintro e w' ⟨hb, v, rfl, hr⟩
  obtain ⟨ao, c, rfl⟩ := own_shape hr
  exact ⟨ao, c, rfl, h.row hb hr, hb⟩
end
end Go.Proofs.Ytpfnnmcokbolhaa
/- Calls on no chain. -/
namespace Go.Proofs.Ytpfnnmcokbolhaa
open Go.RowKit
set_option pp.deepTerms true
attribute [local go_sem ↓] Go.wp_at_zero Go.wp_at_succ
/-- there is no chain at a pointer -/
def NoC (pv : Value) (W : World) : Prop := ∀ W' : World, Below W.heap.size W W' → Calls Try.prog 35 #[pv] W' fun e w' => e = .returned (.bool true) ∧ w' = W'
theorem noC_nil (W : World) : NoC (.pointer none) W := by
  intro W' _
  go_enter Try.func35, Try.ntmps35
  go_wp2_with fail
  go_ret
  exact ⟨rfl, rfl⟩
theorem noC_zero {W : World} {b : Nat} (h : W.cell? ⟨b, 0, none⟩ = some (.pointer none)) : NoC (.pointer (some ⟨b, 0, none⟩)) W := by
  intro W' hb
  have c0 := keep_be hb h
  clear h hb
  go_enter Try.func35, Try.ntmps35
  go_wp2_with fail
  go_ret
  exact ⟨rfl, rfl⟩
theorem NoC.below {pv : Value} {W W' : World} (h : NoC pv W) (k : Below W.heap.size W W') : NoC pv W' := fun W'' k' => h W'' (k.trans (k'.mono k.size))
section
variable {W : World} {pv : Value}
set_option maxRecDepth 100000 in
theorem ctop_noc (h : NoC pv W) : Calls Try.prog 41 #[pv] W fun e w' => Below W.heap.size W w' ∧ e = .returned (.tuple #[.pointer none, .int .i64 1]) := by
  have HC := Hid.mk (h _ (Below.refl _ _))
  clear h
  go_enter Try.func41, Try.ntmps41
  go_wp2_with fail
  refine HC.out.mono ?_
  rintro e W ⟨rfl, rfl⟩
  go_wp2_with fail
  refine bodyPost_ret (v := .tuple #[.pointer none, .int .i64 1]) (by simp [results, Try.results41, go_sem]) rfl ⟨Below.refl _ _, rfl⟩
set_option maxRecDepth 100000 in
theorem cdepth_noc (h : NoC pv W) : Calls Try.prog 10 #[pv] W fun e w' => Below W.heap.size W w' ∧ e = .returned (.int .i64 0) := by
  have HC := Hid.mk (h _ (Below.refl _ _))
  clear h
  go_enter Try.func10, Try.ntmps10
  go_wp2_with fail
  refine HC.out.mono ?_
  rintro e W ⟨rfl, rfl⟩
  go_wp2_with fail
  go_ret
  exact ⟨Below.refl _ _, rfl⟩
set_option maxRecDepth 100000 in
theorem ccut_noc (h : NoC pv W) (d : Int) : Calls Try.prog 26 #[pv, .int .i64 d] W fun e w' => Below W.heap.size W w' ∧ e = .returned (.int .i64 1) := by
  have HC := Hid.mk (h _ (Below.refl _ _))
  clear h
  go_enter Try.func26, Try.ntmps26
  go_wp2_with fail
  refine HC.out.mono ?_
  rintro e W ⟨rfl, rfl⟩
  go_wp2_with fail
  go_ret
  exact ⟨Below.refl _ _, rfl⟩
set_option maxRecDepth 100000 in
theorem cwords_noc (h : NoC pv W) : Calls Try.prog 29 #[pv] W fun e w' => Below W.heap.size W w' ∧ e = .returned (.slice none 0 0) := by
  have HC := Hid.mk (h _ (Below.refl _ _))
  clear h
  go_enter Try.func29, Try.ntmps29
  go_wp2_with fail
  refine HC.out.mono ?_
  rintro e W ⟨rfl, rfl⟩
  go_wp2_with fail
  go_ret
  exact ⟨Below.refl _ _, rfl⟩
set_option maxRecDepth 100000 in
theorem csegs_noc (h : NoC pv W) : Calls Try.prog 17 #[pv] W fun e w' => Below W.heap.size W w' ∧ e = .returned (.tuple #[.slice none 0 0, .slice none 0 0]) := by
  have HC := Hid.mk (h _ (Below.refl _ _))
  clear h
  go_enter Try.func17, Try.ntmps17
  go_wp2_with fail
  refine HC.out.mono ?_
  rintro e W ⟨rfl, rfl⟩
  go_wp2_with fail
  refine bodyPost_ret (v := .tuple #[.slice none 0 0, .slice none 0 0]) (by simp [results, Try.results17, go_sem]) rfl ⟨Below.refl _ _, rfl⟩
set_option maxRecDepth 100000 in
theorem cheight_noc (h : NoC pv W) : Calls Try.prog 25 #[pv] W fun e w' => Below W.heap.size W w' ∧ e = .returned (.int .i64 0) := by
  have HC := Hid.mk (ctop_noc h)
  clear h
  go_enter Try.func25, Try.ntmps25
  go_wp2_with fail
  refine HC.out.mono ?_
  rintro e w1 ⟨hb, rfl⟩
  have HB := Hid.mk hb
  clear hb
  go_wp2_with fail
  go_ret
  exact ⟨HB.out, rfl⟩
set_option maxRecDepth 100000 in
theorem cpop_noc (h : NoC pv W) : Calls Try.prog 24 #[pv] W fun e w' => Below W.heap.size W w' ∧ e = .returned (.tuple #[.agg #[.int .i64 0, .int .i64 0], .int .i64 1]) := by
  have HB := Hid.mk ((Below.refl W.heap.size W).alloc (Nat.le_refl _) (.cells #[.int .i64 0, .int .i64 0] 34))
  have HC := Hid.mk (ctop_noc (h.below HB.out))
  have HC2 := Hid.mk (ctop_noc h)
  clear h
  go_enter Try.func24, Try.ntmps24
  go_wp2_with fail
  refine HC.out.mono ?_
  rintro e w1 ⟨hb, rfl⟩
  have HB2 := Hid.mk (HB.out.trans (hb.mono (by simp)))
  have hbx : w1.heap[W.heap.size]? = some (.cells #[.int .i64 0, .int .i64 0] 34 (0, 0)) := (hb.block _ (by simp)).trans (heap_alloc_new _ _)
  have x0 : w1.cell? ⟨W.heap.size, 0, none⟩ = some (.int .i64 0) := by rw [cell_of_row w1 _ 0 _ _ _ hbx]; rfl
  have x1 : w1.cell? ⟨W.heap.size, 1, none⟩ = some (.int .i64 0) := by rw [cell_of_row w1 _ 1 _ _ _ hbx]; rfl
  have xf : ∀ j, w1.frozen? ⟨W.heap.size, j, none⟩ = false := fun j => frozen_of_row _ _ j _ _ hbx
  clear hb hbx
  go_wp2_with fail
  have hB := (HB2.out.setCell (p := ⟨W.heap.size, 0, none⟩) (Nat.le_refl _) (.int .i64 0)).setCell (p := ⟨W.heap.size, 1, none⟩) (Nat.le_refl _) (.int .i64 0)
  refine bodyPost_ret (v := .tuple #[.agg #[.int .i64 0, .int .i64 0], .int .i64 1]) ?_ rfl ⟨?_, rfl⟩
  · simp [results, Try.results24, go_sem, *]
  · first | exact HB2.out | exact hB
set_option maxRecDepth 100000 in
theorem cpush_noc (h : NoC pv W) (a b : Int) : Calls Try.prog 14 #[pv, .agg #[.int .i64 a, .int .i64 b]] W fun e w' => Below W.heap.size W w' ∧ e = .returned (.int .i64 1) := by
  have HB := Hid.mk ((Below.refl W.heap.size W).alloc (Nat.le_refl _) (.cells #[.int .i64 a, .int .i64 b] 34))
  have HC := Hid.mk (ctop_noc (h.below HB.out))
  clear h
  go_enter Try.func14, Try.ntmps14
  go_wp2_with fail
  refine HC.out.mono ?_
  rintro e w1 ⟨hb, rfl⟩
  have HB2 := Hid.mk (HB.out.trans (hb.mono (by simp)))
  clear hb
  go_wp2_with fail
  go_ret
  exact ⟨HB2.out, rfl⟩
set_option maxRecDepth 100000 in
theorem cslot_noc (h : NoC pv W) (i : Int) : Calls Try.prog 45 #[pv, .int .i64 i] W fun e w' => Below W.heap.size W w' ∧ e = .returned (.tuple #[.int .i64 0, .int .i64 0, .int .i64 1]) := by
  have HC := Hid.mk (ctop_noc h)
  clear h
  go_enter Try.func45, Try.ntmps45
  go_wp2_with fail
  refine HC.out.mono ?_
  rintro e w1 ⟨hb, rfl⟩
  have HB2 := Hid.mk hb
  clear hb
  go_wp2_with fail
  refine bodyPost_ret (v := .tuple #[.int .i64 0, .int .i64 0, .int .i64 1]) (by simp [results, Try.results45, go_sem]) rfl ⟨HB2.out, rfl⟩
set_option maxRecDepth 100000 in
theorem cload_noc (h : NoC pv W) (i : Int) : Calls Try.prog 19 #[pv, .int .i64 i] W fun e w' => Below W.heap.size W w' ∧ e = .returned (.tuple #[.agg #[.int .i64 0, .int .i64 0], .int .i64 1]) := by
  have HB := Hid.mk ((Below.refl W.heap.size W).alloc (Nat.le_refl _) (.cells #[.int .i64 0, .int .i64 0] 34))
  have HC := Hid.mk (cslot_noc (h.below HB.out) i)
  clear h
  go_enter Try.func19, Try.ntmps19
  go_wp2_with fail
  refine HC.out.mono ?_
  rintro e w1 ⟨hb, rfl⟩
  have HB2 := Hid.mk (HB.out.trans (hb.mono (by simp)))
  have hbx : w1.heap[W.heap.size]? = some (.cells #[.int .i64 0, .int .i64 0] 34 (0, 0)) := (hb.block _ (by simp)).trans (heap_alloc_new _ _)
  have x0 : w1.cell? ⟨W.heap.size, 0, none⟩ = some (.int .i64 0) := by rw [cell_of_row w1 _ 0 _ _ _ hbx]; rfl
  have x1 : w1.cell? ⟨W.heap.size, 1, none⟩ = some (.int .i64 0) := by rw [cell_of_row w1 _ 1 _ _ _ hbx]; rfl
  have xf : ∀ j, w1.frozen? ⟨W.heap.size, j, none⟩ = false := fun j => frozen_of_row _ _ j _ _ hbx
  clear hb hbx
  go_wp2_with fail
  have hB := (HB2.out.setCell (p := ⟨W.heap.size, 0, none⟩) (Nat.le_refl _) (.int .i64 0)).setCell (p := ⟨W.heap.size, 1, none⟩) (Nat.le_refl _) (.int .i64 0)
  refine bodyPost_ret (v := .tuple #[.agg #[.int .i64 0, .int .i64 0], .int .i64 1]) ?_ rfl ⟨?_, rfl⟩
  · simp [results, Try.results19, go_sem, *]
  · first | exact HB2.out | exact hB
set_option maxRecDepth 100000 in
theorem cmay_noc (h : NoC pv W) (sa : Option Addr) (sn sc : Nat) (x y z place : Int) : Calls Try.prog 38 #[pv, .agg #[.slice sa sn sc, .int .i64 x, .int .i64 y, .int .i64 z], .int .i64 place] W fun e w' => Below W.heap.size W w' ∧ e = .returned (.int .i64 1) := by
  have HB := Hid.mk ((Below.refl W.heap.size W).alloc (Nat.le_refl _) (.cells #[.slice sa sn sc, .int .i64 x, .int .i64 y, .int .i64 z] 31))
  have HC := Hid.mk (h _ HB.out)
  clear h
  go_enter Try.func38, Try.ntmps38
  go_wp2_with fail
  refine HC.out.mono ?_
  rintro e w1 ⟨rfl, rfl⟩
  go_wp2_with fail
  go_ret
  exact ⟨HB.out, rfl⟩
set_option maxRecDepth 100000 in
theorem crun_noc (h : NoC pv W) (sa aa : Option Addr) (sn sc an ac : Nat) (x y z place : Int) : Calls Try.prog 12 #[pv, .agg #[.slice sa sn sc, .int .i64 x, .int .i64 y, .int .i64 z], .slice aa an ac, .int .i64 place] W fun e w' => Below W.heap.size W w' ∧ e = .returned (.int .i64 1) := by
  have HB := Hid.mk ((Below.refl W.heap.size W).alloc (Nat.le_refl _) (.cells #[.slice sa sn sc, .int .i64 x, .int .i64 y, .int .i64 z] 31))
  have c0 : (W.alloc (.cells #[.slice sa sn sc, .int .i64 x, .int .i64 y, .int .i64 z] 31)).cell? ⟨W.heap.size, 0, none⟩ = some (.slice sa sn sc) := by simp
  have c1 : (W.alloc (.cells #[.slice sa sn sc, .int .i64 x, .int .i64 y, .int .i64 z] 31)).cell? ⟨W.heap.size, 1, none⟩ = some (.int .i64 x) := by simp
  have c2 : (W.alloc (.cells #[.slice sa sn sc, .int .i64 x, .int .i64 y, .int .i64 z] 31)).cell? ⟨W.heap.size, 2, none⟩ = some (.int .i64 y) := by simp
  have c3 : (W.alloc (.cells #[.slice sa sn sc, .int .i64 x, .int .i64 y, .int .i64 z] 31)).cell? ⟨W.heap.size, 3, none⟩ = some (.int .i64 z) := by simp
  have HC := Hid.mk (cmay_noc (h.below HB.out) sa sn sc x y z place)
  clear h
  go_enter Try.func12, Try.ntmps12
  go_wp2_with fail
  refine HC.out.mono ?_
  rintro e w1 ⟨hb, rfl⟩
  have HB2 := Hid.mk (HB.out.trans (hb.mono (by simp)))
  clear hb c0 c1 c2 c3
  go_wp2_with fail
  go_ret
  exact ⟨HB2.out, rfl⟩
end
end Go.Proofs.Ytpfnnmcokbolhaa
