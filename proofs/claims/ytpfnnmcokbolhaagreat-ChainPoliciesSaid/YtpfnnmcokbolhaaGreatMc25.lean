/- Parts Vf, put together. -/
import Derived.Test.YtpfnnmcokbolhaaGreatMc24
/- ChainPolicies' walk. -/
namespace Go.Proofs.YtpfnnmcokbolhaaGreat
open Go.RowKit
set_option pp.deepTerms true
section
variable {w W : World} {F : List Asr} {t b p k : Nat} {sz ca many : Int} {C : Ch} {lv pv : Value} {ml : List Mv} {Q : List (Int × Pf)}
theorem twch_sub (h : Sep w (twL t b lv pv ml Q many ++ chP b p k sz ca C F) W) : Sep w F W := by
  rw [twch_eq] at h
  exact Sep.sub h (List.sublist_append_right _ _)
/-- one twin made, or none -/
def Tw1 (w W : World) (s c : Int) (F : List Asr) (a : Option Addr) : Prop := (segOk s c = true ∧ ∃ t b p k, Sep w (twL t b (.slice none 0 0) (.slice none 0 0) [] [] 0 ++ chP b p k s c (newC s).2 F) W ∧ a = some ⟨t, 0, none⟩) ∨ (Sep w F W ∧ a = none)
/-- two made, or one is none -/
def Tw2 (w W : World) (s c s' c' : Int) (F : List Asr) (a a' : Option Addr) : Prop := (segOk s c = true ∧ segOk s' c' = true ∧ ∃ t b p k t' b' p' k', Sep w (twL t' b' (.slice none 0 0) (.slice none 0 0) [] [] 0 ++ chP b' p' k' s' c' (newC s').2 (twL t b (.slice none 0 0) (.slice none 0 0) [] [] 0 ++ chP b p k s c (newC s).2 F)) W ∧ a = some ⟨t, 0, none⟩ ∧ a' = some ⟨t', 0, none⟩) ∨ (Sep w F W ∧ (a = none ∨ (∃ x, a = some x) ∧ a' = none))
theorem Tw1.sep {s c : Int} {a : Option Addr} (h : Tw1 w W s c F a) : Sep w F W := by
  rcases h with ⟨-, t, b, p, k, h, -⟩ | ⟨h, -⟩
  · exact twch_sub h
  · exact h
theorem Tw2.sep {s c s' c' : Int} {a a' : Option Addr} (h : Tw2 w W s c s' c' F a a') : Sep w F W := by
  rcases h with ⟨-, -, t, b, p, k, t', b', p', k', h, -⟩ | ⟨h, -⟩
  · exact twch_sub (twch_sub h)
  · exact h
theorem twins1 (h : Sep w F W) (s c : Int) : Calls Tryz.prog 6 #[.agg #[.int .i64 s, .int .i64 c]] W fun e w' => ∃ a, e = .returned (.pointer a) ∧ Tw1 w w' s c F a := by
  refine (twins_any h s c).mono ?_
  rintro e w2 (⟨hseg, t, b, p, k, h2, rfl⟩ | ⟨hseg, h2, rfl⟩)
  · exact ⟨_, rfl, .inl ⟨hseg, t, b, p, k, h2, rfl⟩⟩
  · exact ⟨_, rfl, .inr ⟨h2, rfl⟩⟩
theorem twins2 {s c : Int} {a : Option Addr} (h : Tw1 w W s c F a) (s' c' : Int) : Calls Tryz.prog 6 #[.agg #[.int .i64 s', .int .i64 c']] W fun e w' => ∃ a', e = .returned (.pointer a') ∧ Tw2 w w' s c s' c' F a a' := by
  rcases h with ⟨hs, t, b, p, k, h, rfl⟩ | ⟨h, rfl⟩
  · refine (twins_any h s' c').mono ?_
    rintro e w2 (⟨hseg, t', b', p', k', h2, rfl⟩ | ⟨hseg, h2, rfl⟩)
    · exact ⟨_, rfl, .inl ⟨hs, hseg, t, b, p, k, t', b', p', k', h2, rfl, rfl⟩⟩
    · exact ⟨_, rfl, .inr ⟨twch_sub h2, .inr ⟨⟨_, rfl⟩, rfl⟩⟩⟩
  · refine (twins_any h s' c').mono ?_
    rintro e w2 (⟨hseg, t', b', p', k', h2, rfl⟩ | ⟨hseg, h2, rfl⟩)
    · exact ⟨_, rfl, .inr ⟨twch_sub h2, .inl rfl⟩⟩
    · exact ⟨_, rfl, .inr ⟨h2, .inl rfl⟩⟩
end
set_option maxRecDepth 100000 in
set_option maxHeartbeats 4000000 in
theorem policies_any {w : World} {v : Value} {os : List OpV} (h : Ops25 w v os) (s c s' c' : Int) : Calls Tryz.prog 3 #[.agg #[.int .i64 s, .int .i64 c], .agg #[.int .i64 s', .int .i64 c'], v] w fun e w' => e = .returned (.bool true) ∧ Below w.heap.size w w' := by
  have h00 := h
  obtain ⟨⟨ao, cv, rfl⟩, hml, hok, hc⟩ := h
  obtain ⟨n, hn⟩ : ∃ n, os.length = n := ⟨_, rfl⟩
  have HN := Hid.mk hn
  have HC : Hid (∀ i (hi : i < os.length), ∃ b o, ao = some ⟨b, o, none⟩ ∧ b < w.heap.size ∧ OpVAt w b (o + i * 10) os[i] ∧ OpVOk w os[i]) := by
    intro i hi
    obtain ⟨b, o, c', e, hb, ha⟩ := hc (by omega)
    simp only [Value.slice.injEq] at e
    exact ⟨b, o, e.1, hb, ha i hi, hok _ (List.getElem_mem hi)⟩
  have H00 := Hid.mk h00
  obtain ⟨B2, hB2⟩ : ∃ B, w.heap.size = B := ⟨_, rfl⟩
  obtain ⟨B3, hB3⟩ : ∃ B, B2 + 1 = B := ⟨_, rfl⟩
  have h0 : Sep w [bx B3 (.cells #[.int .i64 s', .int .i64 c'] 23), bx B2 (.cells #[.int .i64 s, .int .i64 c] 23)] ((w.alloc (.cells #[.int .i64 s, .int .i64 c] 23)).alloc (.cells #[.int .i64 s', .int .i64 c'] 23)) := by
    have := ((Sep.nil (Below.refl w.heap.size w)).alloc (.cells #[.int .i64 s, .int .i64 c] 23)).alloc (.cells #[.int .i64 s', .int .i64 c'] 23)
    rw [World.size_alloc, hB2, hB3] at this
    exact this
  have H0 := Hid.mk h0
  have HB2 := Hid.mk hB2
  have HB3 := Hid.mk hB3
  rw [hn] at H00 ⊢
  clear hc hok hml h00 h0 hB2 hB3 hn
  have H00 := H00
  go_enter Tryz.func3, Tryz.ntmps3
  go_wp2_with fail
  refine (alive25_any _).mono ?_
  rintro e w1 ⟨hb1, rfl⟩
  have h1 := Sep.keep H0.out hb1
  rw [HB2.out]
  try rw [HB3.out]
  obtain ⟨c0, c1, -⟩ := two_cells h1 (q := B2) (List.Mem.tail _ (List.Mem.head _))
  obtain ⟨d0, d1, -⟩ := two_cells h1 (q := B3) (List.Mem.head _)
  have HT1 : Hid (∀ {W' : World}, Sep w [bx B3 (.cells #[.int .i64 s', .int .i64 c'] 23), bx B2 (.cells #[.int .i64 s, .int .i64 c] 23)] W' → Calls Tryz.prog 6 #[.agg #[.int .i64 s, .int .i64 c]] W' fun e w' => ∃ a, e = .returned (.pointer a) ∧ Tw1 w w' s c [bx B3 (.cells #[.int .i64 s', .int .i64 c'] 23), bx B2 (.cells #[.int .i64 s, .int .i64 c] 23)] a) := fun {W'} q => twins1 q s c
  have HT2 : Hid (∀ {W' : World} {a : Option Addr}, Tw1 w W' s c [bx B3 (.cells #[.int .i64 s', .int .i64 c'] 23), bx B2 (.cells #[.int .i64 s, .int .i64 c] 23)] a → Calls Tryz.prog 6 #[.agg #[.int .i64 s', .int .i64 c']] W' fun e w' => ∃ a', e = .returned (.pointer a') ∧ Tw2 w w' s c s' c' [bx B3 (.cells #[.int .i64 s', .int .i64 c'] 23), bx B2 (.cells #[.int .i64 s, .int .i64 c] 23)] a a') := fun {W' a} q => twins2 q s' c'
  have H1 := Hid.mk h1
  clear h1 hb1 H0
  go_upto_region 2 with (fail)
  go_region_held3 (fun X => (X.cell? ⟨B2, 0, none⟩ = some (.int .i64 s) ∧ X.cell? ⟨B2, 1, none⟩ = some (.int .i64 c)) ∧ (X.cell? ⟨B3, 0, none⟩ = some (.int .i64 s') ∧ X.cell? ⟨B3, 1, none⟩ = some (.int .i64 c'))) (first | exact s8 | exact s9 | exact ⟨⟨c0, c1⟩, ⟨d0, d1⟩⟩) (first | (go_at_call 6; refine (HT2.out h2).mono ?_; rintro e w3 ⟨a', rfl, h3⟩; have s8 := And.intro (And.intro (two_cells h3.sep (q := B2) (List.Mem.tail _ (List.Mem.head _))).1 (two_cells h3.sep (q := B2) (List.Mem.tail _ (List.Mem.head _))).2.1) (And.intro (two_cells h3.sep (q := B3) (List.Mem.head _)).1 (two_cells h3.sep (q := B3) (List.Mem.head _)).2.1)) | (go_at_call 6; refine (HT1.out H1.out.drew).mono ?_; rintro e w2 ⟨a, rfl, h2⟩; have s9 := And.intro (And.intro (two_cells h2.sep (q := B2) (List.Mem.tail _ (List.Mem.head _))).1 (two_cells h2.sep (q := B2) (List.Mem.tail _ (List.Mem.head _))).2.1) (And.intro (two_cells h2.sep (q := B3) (List.Mem.head _)).1 (two_cells h2.sep (q := B3) (List.Mem.head _)).2.1)))
  clear c0 c1 d0 d1 s8 s9 h2 HT1 HT2 H1
  try clear hHeld
  rcases h3 with ⟨hseg1, hseg2, t1, b1, p1, k1, t2, b2, p2, k2, h3, rfl, rfl⟩ | ⟨hf, rfl | ⟨⟨xx, rfl⟩, rfl⟩⟩
  · have H3 := Hid.mk h3
    have hf := twch_sub (twch_sub h3)
    have HSEG1 := Hid.mk hseg1
    have HSEG2 := Hid.mk hseg2
    clear h3 hseg1 hseg2
    obtain ⟨c0, c1, -⟩ := two_cells hf (q := B2) (List.Mem.tail _ (List.Mem.head _))
    obtain ⟨d0, d1, -⟩ := two_cells hf (q := B3) (List.Mem.head _)
    have HG := Hid.mk (great25_any (H00.out.below hf.size) s c)
    have H2 := Hid.mk hf
    clear hf
    go_wp2_with fail
    refine HG.out.mono ?_
    clear HG
    rintro e w5 ⟨hb5, rfl | ⟨rfl, hsm⟩⟩
    · have HB := Hid.mk (Sep.keep H2.out hb5).size
      clear hb5 H2 c0 c1 d0 d1
      try clear H3
      go_wp2_with fail
      go_ret
      exact ⟨rfl, HB.out⟩
    · have h5 := Sep.keep H2.out hb5
      obtain ⟨d0, d1, -⟩ := two_cells h5 (q := B3) (List.Mem.head _)
      have HG := Hid.mk (great25_any (H00.out.below h5.size) s' c')
      have H5 := Hid.mk h5
      have HB5 := Hid.mk hb5
      have HSM := Hid.mk hsm
      clear h5 hb5 hsm H2 c0 c1
      go_wp2_with fail
      refine HG.out.mono ?_
      clear HG
      rintro e w6 ⟨hb6, rfl | ⟨rfl, hsm'⟩⟩
      · have HB := Hid.mk (Sep.keep H5.out hb6).size
        clear hb6 H5 d0 d1 HB5 HSM
        try clear H3
        go_wp2_with fail
        go_ret
        exact ⟨rfl, HB.out⟩
      · have hs1 : s ≤ 2000 := by
          have h1 := HSEG1.out
          have h2 := HSM.out.2.1
          simp only [segOk, rangeB, Bool.and_eq_true, decide_eq_true_eq] at h1
          omega
        have hs2 : s' ≤ 2000 := by
          have h1 := HSEG2.out
          have h2 := hsm'.2.1
          simp only [segOk, rangeB, Bool.and_eq_true, decide_eq_true_eq] at h1
          omega
        have hs80 := hsm'.1
        rw [HN.out] at hs80
        have HS := Hid.mk hsm'.2.2
        have HR : Hid (∃ N, Null N ∧ Two w w6 ⟨t1, b1, p1, k1, s, c⟩ ⟨t2, b2, p2, k2, s', c'⟩ 0 0 N N [bx B3 (.cells #[.int .i64 s', .int .i64 c'] 23), bx B2 (.cells #[.int .i64 s, .int .i64 c] 23)]) := ⟨_, Null.of (by intro m hm; cases hm), (((Two.new H3.out HSEG2.out hs2 HSEG1.out hs1).keep HB5.out).keep (by first | exact hb6 | exact hb6.mono (Nat.le_refl _))).swap⟩
        clear hb6 hsm' H5 d0 d1 HB5 HSM hs1 hs2 H00 H3
        go_wp2_with fail
        go_loopw [52] (fun i wr => ∃ j : Nat, i = .int .i64 (j : Int) ∧ j ≤ n ∧ Hid (∃ N, Null N ∧ Two w wr ⟨t1, b1, p1, k1, s, c⟩ ⟨t2, b2, p2, k2, s', c'⟩ j j N N [bx B3 (.cells #[.int .i64 s', .int .i64 c'] 23), bx B2 (.cells #[.int .i64 s, .int .i64 c] 23)])) (fun i _ => n - (intOf i).toNat)
        case atStart => exact ⟨0, rfl, Nat.zero_le _, HR⟩
        case round =>
          obtain ⟨j, rfl, hj, HREL⟩ := hrel
          clear HR
          by_cases hlt : j < n
          · have h1 : j < os.length := by rw [HN.out]; exact hlt
            obtain ⟨ba, oa, rfl, hbl, ha, hv⟩ := HC.out j h1
            have hlen := HS.out _ (List.getElem_mem h1)
            obtain ⟨N, hnull, hR⟩ := HREL.out
            have hbw := hR.sep.size
            obtain ⟨a0, a1, a2, a3, a4, a5, a6, a7, a8, a9⟩ := ha.below hbw hbl
            obtain ⟨hv1, hv2, aa, ac, hav⟩ := hv
            obtain ⟨⟨o, sv, av, an, last⟩, hx⟩ : ∃ x, os[j] = x := ⟨_, rfl⟩
            rw [hx] at a0 a1 a2 a3 a4 a5 a6 a7 a8 a9 hv1 hv2 hav hlen
            simp only at a0 a1 a2 a3 a4 a5 a6 a7 a8 a9 hv1 hv2 hav hlen
            obtain ⟨sa, sc, rfl⟩ := hv1.shape
            subst hav
            have hm := hR.more (.cells #[.int .i64 o.kind, .int .i64 o.n, .slice sa o.l.slots.length sc, .int .i64 o.l.args, .int .i64 o.l.res, .int .i64 o.l.height, .slice aa an ac, .int .i64 o.v.1, .int .i64 o.v.2, .bool last] 36)
            obtain ⟨k0, -⟩ := hR.cells
            obtain ⟨N2, hN2⟩ : ∃ N2, stepN N o = N2 := ⟨_, rfl⟩
            have hnull2 : Null N2 := hN2 ▸ hnull.step o
            have HDO2 : Hid (∀ {W' : World} {x y : Tn} {m : Nat} {M : Nt} {G : List Asr}, Two w W' x y j m N M G → Calls Tryz.prog 8 #[.pointer (some ⟨x.t, 0, none⟩), (.agg #[.int .i64 o.kind, .int .i64 o.n, .slice sa o.l.slots.length sc, .int .i64 o.l.args, .int .i64 o.l.res, .int .i64 o.l.height, .slice aa an ac, .int .i64 o.v.1, .int .i64 o.v.2, .bool last])] W' fun e w' => Two w w' x y (j + 1) m N2 M G ∧ e = .returned (.bool true)) := fun {W' x y m M G} q => by
              subst hN2
              exact Two.fst (P := fun e => e = .returned (.bool true)) q (fun r => TwR.do_ (n' := j + 1) r (by omega) (by split <;> omega) (o := o) (av := .slice aa an ac) (last := last) (fun W' q => hv1.below q.size) hv2 hlen)
            have HDO := Hid.mk (HDO2.out hm)
            have HNULL := Hid.mk hnull2
            clear hR hm hv1 hv2 hlen hx ha hbl HREL h1 HC hbw hnull hnull2 hN2
            go_wp2_with fail
            refine HDO.out.mono ?_
            rintro e w7 ⟨hR7, rfl⟩
            clear HDO k0 a0 a1 a2 a3 a4 a5 a6 a7 a8 a9
            obtain ⟨a0, a1, a2, a3, a4, a5, a7, a8⟩ := ten_cells hR7.sep (List.Mem.head _)
            obtain ⟨a6, a9⟩ := ten_cells2 hR7.sep (List.Mem.head _)
            have HDO := Hid.mk (HDO2.out hR7.swap)
            clear hR7 HDO2
            go_wp2_with fail
            refine HDO.out.mono ?_
            rintro e w8 ⟨hR8, rfl⟩
            have hR8 := hR8.swap.sub (List.sublist_cons_self _ _)
            clear HDO a0 a1 a2 a3 a4 a5 a6 a7 a8 a9
            obtain ⟨k0, -⟩ := hR8.cells
            obtain ⟨pu, hpu⟩ : ∃ u, (placeN N2).1.1 = u := ⟨_, rfl⟩
            obtain ⟨pm, hpm⟩ : ∃ u, (placeN N2).1.2 = u := ⟨_, rfl⟩
            obtain ⟨pe, hpe⟩ : ∃ u, (placeN N2).2 = u := ⟨_, rfl⟩
            have HPL : Hid (∀ {W' : World} {x y : Tn} {m : Nat} {M : Nt} {G : List Asr}, Two w W' x y (j + 1) m N2 M G → Calls Tryz.prog 9 #[.pointer (some ⟨x.b, 0, none⟩)] W' fun e w' => Two w w' x y (j + 1) m N2 M G ∧ e = .returned (.tuple #[.int .i64 pu, .int .i64 pm, .int .i64 pe])) := fun {W' x y m M G} q => by
              subst hpu hpm hpe
              exact Two.fst (P := fun e => e = _) q (fun r => TwR.place r (by omega))
            have HP := Hid.mk (HPL.out hR8)
            clear hR8 hpu hpm hpe
            go_wp2_with fail
            refine HP.out.mono ?_
            rintro e w9 ⟨hR9, rfl⟩
            clear HP k0
            obtain ⟨k0, -⟩ := hR9.swap.cells
            have HP := Hid.mk (HPL.out hR9.swap)
            clear hR9 HPL
            go_wp2_with fail
            refine HP.out.mono ?_
            rintro e w10 ⟨hR10, rfl⟩
            clear HP k0
            have hR10 := hR10.swap
            obtain ⟨k0, ka, kc, k1⟩ := hR10.cells
            obtain ⟨l0, la, lc, l1⟩ := hR10.swap.cells
            obtain ⟨dm, hdm⟩ : ∃ m, N2.M.length = m := ⟨_, rfl⟩
            obtain ⟨hh, hhh⟩ : ∃ m, heightN N2 = m := ⟨_, rfl⟩
            have HDP : Hid (∀ {W' : World} {x y : Tn} {m : Nat} {M : Nt} {G : List Asr}, Two w W' x y (j + 1) m N2 M G → Calls Tryz.prog 10 #[.pointer (some ⟨x.b, 0, none⟩)] W' fun e w' => Two w w' x y (j + 1) m N2 M G ∧ Below W'.heap.size W' w' ∧ e = .returned (.int .i64 dm)) := fun {W' x y m M G} q => by
              subst hdm
              exact q.depthB
            have HHT : Hid (∀ {W' : World} {x y : Tn} {m : Nat} {M : Nt} {G : List Asr}, Two w W' x y (j + 1) m N2 M G → Calls Tryz.prog 11 #[.pointer (some ⟨x.b, 0, none⟩)] W' fun e w' => Two w w' x y (j + 1) m N2 M G ∧ Below W'.heap.size W' w' ∧ e = .returned (.int .i64 hh)) := fun {W' x y m M G} q => by
              subst hhh
              exact q.heightB (by omega)
            rw [hdm] at k1 l1
            have H10 := Hid.mk (hR10.keep (Below.refl _ _).drew)
            have s0 : (w10.drew.cell? ⟨t1, 0, none⟩ = some (.pointer (some ⟨b1, 0, none⟩)) ∧ w10.drew.cell? ⟨t1, 1, none⟩ = some (.slice ka dm kc)) ∧ (w10.drew.cell? ⟨t2, 0, none⟩ = some (.pointer (some ⟨b2, 0, none⟩)) ∧ w10.drew.cell? ⟨t2, 1, none⟩ = some (.slice la dm lc)) := ⟨⟨k0, k1⟩, ⟨l0, l1⟩⟩
            clear hR10 hdm hhh
            go_wp2_with fail
            go_region_held3 (fun X => (X.cell? ⟨t1, 0, none⟩ = some (.pointer (some ⟨b1, 0, none⟩)) ∧ X.cell? ⟨t1, 1, none⟩ = some (.slice ka dm kc)) ∧ (X.cell? ⟨t2, 0, none⟩ = some (.pointer (some ⟨b2, 0, none⟩)) ∧ X.cell? ⟨t2, 1, none⟩ = some (.slice la dm lc))) (first | exact s4 | exact s3 | exact s2 | exact s1 | exact s0) (first | (go_at_call 11; refine (HHT.out h23.swap).mono ?_; rintro e w14 ⟨h24, hb24, rfl⟩; have s4 := keep4 hb24 s3) | (go_at_call 11; refine (HHT.out h22.swap).mono ?_; rintro e w13 ⟨h23, hb23, rfl⟩; have s3 := keep4 hb23 s2) | (go_at_call 10; refine (HDP.out h21.swap).mono ?_; rintro e w12 ⟨h22, hb22, rfl⟩; have s2 := keep4 hb22 s1) | (go_at_call 10; refine (HDP.out H10.out).mono ?_; rintro e w11 ⟨h21, hb21, rfl⟩; have s1 := keep4 hb21 s0))
            have H24 := Hid.mk h24.swap
            clear s0 s1 s2 s3 s4 hb21 hb22 hb23 hb24 h21 h22 h23 h24 k0 k1 l0 l1 H10 HDP HHT
            try clear hHeld
            have h24 := H24.out
            obtain ⟨k0, -⟩ := h24.cells
            obtain ⟨ex, hex⟩ : ∃ m, (resN N2).2 = m := ⟨_, rfl⟩
            obtain ⟨xs, hxs⟩ : ∃ m, (resN N2).1 = m := ⟨_, rfl⟩
            have HRS : Hid (∀ {W' : World} {x y : Tn} {m : Nat} {M : Nt} {G : List Asr}, Two w W' x y (j + 1) m N2 M G → Calls Tryz.prog 12 #[.pointer (some ⟨x.b, 0, none⟩)] W' fun e w' => ∃ v, Two w w' x y (j + 1) m N2 M (vrow v xs :: G) ∧ e = .returned (.tuple #[v, .int .i64 ex])) := fun {W' x y m M G} q => by
              subst hex hxs
              exact q.results (by omega) HNULL.out
            have HLEN : Hid (xs.length ≤ 4194304) := by
              obtain ⟨G, hG⟩ := h24.at
              have := TwR.resLen hG (by omega)
              rw [hxs] at this
              exact this
            have HR1 := Hid.mk (HRS.out h24)
            clear h24 H24 hex hxs
            go_wp2_with fail
            refine HR1.out.mono ?_
            rintro e w15 ⟨v1, h15, rfl⟩
            clear HR1 k0
            obtain ⟨⟨ra1, rc1, rfl⟩, -⟩ := vrow_shape2 h15.sep (List.Mem.head _)
            obtain ⟨k0, -⟩ := h15.swap.cells
            have HR1 := Hid.mk (HRS.out h15.swap)
            clear h15 HRS
            go_wp2_with fail
            refine HR1.out.mono ?_
            rintro e w16 ⟨v2, h16, rfl⟩
            clear HR1 k0
            obtain ⟨⟨ra2, rc2, rfl⟩, hr2⟩ := vrow_shape2 h16.sep (List.Mem.head _)
            obtain ⟨-, hr1⟩ := vrow_shape2 h16.sep (List.Mem.tail _ (List.Mem.head _))
            have HSAME : Hid (Calls Tryz.prog 13 #[.slice ra1 xs.length rc1, .slice ra2 xs.length rc2] w16 fun e w' => Below w16.heap.size w16 w' ∧ e = .returned (.bool true)) := (same_Same02 hr1 hr2 HLEN.out).mono (fun e w' q => ⟨q.1, by rw [q.2]; simp⟩)
            have H16 := Hid.mk h16
            clear h16 hr1 hr2 HLEN
            go_wp2_with fail
            refine HSAME.out.mono ?_
            rintro e w17 ⟨hb17, rfl⟩
            have HR5 : Hid (∃ N, Null N ∧ Two w w17 ⟨t1, b1, p1, k1, s, c⟩ ⟨t2, b2, p2, k2, s', c'⟩ (j + 1) (j + 1) N N [bx B3 (.cells #[.int .i64 s', .int .i64 c'] 23), bx B2 (.cells #[.int .i64 s, .int .i64 c] 23)]) := ⟨_, HNULL.out, (H16.out.swap.keep hb17).sub ((List.sublist_cons_self _ _).trans (List.sublist_cons_self _ _))⟩
            clear HSAME H16 hb17
            go_wp2_with fail
            exact ⟨⟨j + 1, by go_num, by omega, HR5⟩, by simp [intOf]; omega⟩
          · obtain rfl : j = n := by omega
            obtain ⟨N, hnull, hR⟩ := HREL.out
            have HB := Hid.mk hR.sep.size
            clear hR HREL hnull
            go_wp2_with fail
            go_ret
            exact ⟨rfl, HB.out⟩

  · skip
    obtain ⟨c0, c1, -⟩ := two_cells hf (q := B2) (List.Mem.tail _ (List.Mem.head _))
    obtain ⟨d0, d1, -⟩ := two_cells hf (q := B3) (List.Mem.head _)
    have HG := Hid.mk (great25_any (H00.out.below hf.size) s c)
    have H2 := Hid.mk hf
    clear hf
    go_wp2_with fail
    refine HG.out.mono ?_
    clear HG
    rintro e w5 ⟨hb5, rfl | ⟨rfl, hsm⟩⟩
    · have HB := Hid.mk (Sep.keep H2.out hb5).size
      clear hb5 H2 c0 c1 d0 d1
      try clear H3
      go_wp2_with fail
      go_ret
      exact ⟨rfl, HB.out⟩
    · have h5 := Sep.keep H2.out hb5
      obtain ⟨d0, d1, -⟩ := two_cells h5 (q := B3) (List.Mem.head _)
      have HG := Hid.mk (great25_any (H00.out.below h5.size) s' c')
      have H5 := Hid.mk h5
      have HB5 := Hid.mk hb5
      have HSM := Hid.mk hsm
      clear h5 hb5 hsm H2 c0 c1
      go_wp2_with fail
      refine HG.out.mono ?_
      clear HG
      rintro e w6 ⟨hb6, rfl | ⟨rfl, hsm'⟩⟩
      · have HB := Hid.mk (Sep.keep H5.out hb6).size
        clear hb6 H5 d0 d1 HB5 HSM
        try clear H3
        go_wp2_with fail
        go_ret
        exact ⟨rfl, HB.out⟩
      · have HB := Hid.mk (Sep.keep H5.out hb6).size
        clear hb6 hsm' H5 d0 d1 HB5 HSM
        go_wp2_with fail
        go_ret
        exact ⟨rfl, HB.out⟩
  · skip
    obtain ⟨c0, c1, -⟩ := two_cells hf (q := B2) (List.Mem.tail _ (List.Mem.head _))
    obtain ⟨d0, d1, -⟩ := two_cells hf (q := B3) (List.Mem.head _)
    have HG := Hid.mk (great25_any (H00.out.below hf.size) s c)
    have H2 := Hid.mk hf
    clear hf
    go_wp2_with fail
    refine HG.out.mono ?_
    clear HG
    rintro e w5 ⟨hb5, rfl | ⟨rfl, hsm⟩⟩
    · have HB := Hid.mk (Sep.keep H2.out hb5).size
      clear hb5 H2 c0 c1 d0 d1
      try clear H3
      go_wp2_with fail
      go_ret
      exact ⟨rfl, HB.out⟩
    · have h5 := Sep.keep H2.out hb5
      obtain ⟨d0, d1, -⟩ := two_cells h5 (q := B3) (List.Mem.head _)
      have HG := Hid.mk (great25_any (H00.out.below h5.size) s' c')
      have H5 := Hid.mk h5
      have HB5 := Hid.mk hb5
      have HSM := Hid.mk hsm
      clear h5 hb5 hsm H2 c0 c1
      go_wp2_with fail
      refine HG.out.mono ?_
      clear HG
      rintro e w6 ⟨hb6, rfl | ⟨rfl, hsm'⟩⟩
      · have HB := Hid.mk (Sep.keep H5.out hb6).size
        clear hb6 H5 d0 d1 HB5 HSM
        try clear H3
        go_wp2_with fail
        go_ret
        exact ⟨rfl, HB.out⟩
      · have HB := Hid.mk (Sep.keep H5.out hb6).size
        clear hb6 hsm' H5 d0 d1 HB5 HSM
        go_wp2_with fail
        go_ret
        exact ⟨rfl, HB.out⟩
end Go.Proofs.YtpfnnmcokbolhaaGreat
