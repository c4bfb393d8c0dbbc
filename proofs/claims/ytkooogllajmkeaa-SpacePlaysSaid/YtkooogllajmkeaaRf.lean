/- The document's Move. -/
import Derived.Test.YtkooogllajmkeaaRe
namespace Go.Proofs.Ytkooogllajmkeaa
open Go.RowKit
theorem over_take {l vs : List (Int × Int)} {j q : Nat} (hq : q < vs.length) (h : j + vs.length ≤ l.length) : over l j (vs.take (q + 1)) = (over l j (vs.take q)).set (j + q) vs[q] := by
  unfold over
  apply List.ext_getElem
  · simp; omega
  · intro i h1 h2
    rw [List.getElem_set]
    rcases Nat.lt_or_ge i j with c | c
    · rw [if_neg (by omega), List.getElem_append_left (by simp; omega), List.getElem_append_left (by simp; omega)]
    · rw [List.getElem_append_right (by simp; omega)]
      rcases Nat.lt_or_ge i (j + (q + 1)) with d | d
      · rw [List.getElem_append_left (by simp; omega)]
        by_cases e : j + q = i
        · rw [if_pos e, List.getElem_take]
          congr 1
          simp; omega
        · rw [if_neg e, List.getElem_append_right (by simp; omega), List.getElem_append_left (by simp; omega)]
          simp only [List.getElem_take]
      · rw [if_neg (by omega), List.getElem_append_right (by simp; omega), List.getElem_append_right (by simp; omega), List.getElem_append_right (by simp; omega)]
        simp only [List.getElem_drop, List.length_take]
        congr 1
        omega
section
variable {w w' : World} {p : Nat} {last : Int} {rv wv : Value} {ls : List LReg}
/-- one region has m words from a on, m no less than 1 -/
theorem has_cases (ok : RegsOk last ls) (a m : Int) (hm0 : m ≠ 0) : (0 < m ∧ ∃ (i j : Nat) (hi : i < ls.length), j + m.toNat ≤ ls[i].words.length ∧ hasOf (ls.map LReg.reg) a m = true ∧ locate (ls.map LReg.reg) a m = some (i, j) ∧ whereOf (ls.map LReg.reg) a = ((i : Int), (j : Int))) ∨
    (hasOf (ls.map LReg.reg) a m = false ∧ (0 < m → locate (ls.map LReg.reg) a m = none)) := by
  by_cases hm1 : 0 < m
  · cases hl : locate (ls.map LReg.reg) a m with
    | none => exact .inr ⟨by simp [hasOf, hm0, hl], fun _ => rfl⟩
    | some x =>
      obtain ⟨i, j⟩ := x
      left
      obtain ⟨hi', h1, h2⟩ := locate_spec hl
      have hi : i < ls.length := by simpa using hi'
      obtain ⟨q1, q2, q3⟩ := hasB_iff.1 h1
      simp only [List.getElem_map, LReg.reg] at q1 q2 q3 h2
      refine ⟨hm1, i, j, hi, by omega, by simp [hasOf, hm1, hl], rfl, ?_⟩
      have ea : ls[i].base + (j : Int) = a := by omega
      unfold whereOf
      rw [← ea, loc_at ok hi (j := j) (m := 1) (by omega) (by omega)]
  · exact .inr ⟨by simp [hasOf, hm0, hm1], fun q => absurd q hm1⟩
/-- what the call reads of one region's words, from any world in which nothing old has turned -/
theorem RAt.reads (h : RAt w p last rv wv ls) {i : Nat} (hi : i < ls.length) : ∃ B n c, B < w.heap.size ∧ wv = .slice (some ⟨B, 0, none⟩) n c ∧ i < n ∧ n = ls.length ∧ w.cell? ⟨B, i, none⟩ = some (.slice (some ⟨ls[i].wb, 0, none⟩) ls[i].words.length ls[i].cap) ∧ ls[i].wb < w.heap.size := by
  obtain ⟨ao, c, e, hc⟩ := h.wshape
  obtain ⟨B, rfl, hB, hx⟩ := hc i hi
  exact ⟨B, _, c, hB, e, hi, rfl, hx, ((h.words _ (List.getElem_mem hi)).lt _ rfl).2⟩
set_option maxRecDepth 100000 in
set_option maxHeartbeats 2000000 in
theorem rmove_spc {S : Sp} {gs : List Nat} (h : RSpc w p S gs) (b a m : Int) (hbr : -9223372036854775808 ≤ b ∧ b ≤ 9223372036854775807) (ha : -9223372036854775808 ≤ a ∧ a ≤ 9223372036854775807) : Calls Try.prog 54 #[.pointer (some ⟨p, 0, none⟩), .int .i64 b, .int .i64 a, .int .i64 m] w fun e w' =>
    RStp w p gs (S.move b a m).2 w' ∧ e = .returned (.int .i64 (S.move b a m).1) := by
  have hS := h
  obtain ⟨rv, wv, ls, h, ok, hwd, hr, hgs⟩ := h
  have HC : Hid (∀ (W : World), Below w.heap.size w W → Calls Try.prog 82 #[.pointer (some ⟨p, 0, none⟩), .int .i64 a, .int .i64 m] W fun e w' => Below W.heap.size W w' ∧ e = .returned (.bool (hasOf (ls.map LReg.reg) a m))) := fun W hb => rhas_any (h.below hb) ok a m ha
  have hhas := rhas_any h ok b m hbr
  have HW1 : Hid (∀ (W : World), Below w.heap.size w W → Calls Try.prog 57 #[.pointer (some ⟨p, 0, none⟩), .int .i64 b] W fun e w' => Below W.heap.size W w' ∧ e = .returned (.tuple #[.int .i64 (whereOf (ls.map LReg.reg) b).1, .int .i64 (whereOf (ls.map LReg.reg) b).2])) := fun W hb => where_any (h.below hb) ok b hbr
  have HW2 : Hid (∀ (W : World), Below w.heap.size w W → Calls Try.prog 57 #[.pointer (some ⟨p, 0, none⟩), .int .i64 a] W fun e w' => Below W.heap.size W w' ∧ e = .returned (.tuple #[.int .i64 (whereOf (ls.map LReg.reg) a).1, .int .i64 (whereOf (ls.map LReg.reg) a).2])) := fun W hb => where_any (h.below hb) ok a ha
  by_cases hm0 : m = 0
  · subst hm0
    have e1 : hasOf (ls.map LReg.reg) b 0 = true := by simp [hasOf]
    have e3 : hasOf (ls.map LReg.reg) a 0 = true := by simp [hasOf]
    have e2 : S.move b a 0 = (0, S) := by unfold Sp.move; rw [if_pos rfl]
    rw [e1] at hhas
    rw [e3] at HC
    rw [e2]
    have HH := Hid.mk hS
    clear hS h ok hwd hr hgs e1 e2 e3
    go_enter Try.func54, Try.ntmps54
    go_wp2_with fail
    refine hhas.mono ?_
    rintro e w1 ⟨hb1, rfl⟩
    go_wp2_with fail
    refine (HC.out w1 hb1).mono ?_
    rintro e w2 ⟨hb2, rfl⟩
    replace hb2 := hb1.trans (hb2.mono hb1.size)
    clear hb1
    go_wp2_with fail
    refine (HW1.out w2 hb2).mono ?_
    rintro e w3 ⟨hb3, rfl⟩
    replace hb3 := hb2.trans (hb3.mono hb2.size)
    clear hb2
    go_wp2_with fail
    refine (HW2.out w3 hb3).mono ?_
    rintro e w4 ⟨hb4, rfl⟩
    replace hb4 := hb3.trans (hb4.mono hb3.size)
    clear hb3 HC HW1 HW2 hhas
    go_wp2_with fail
    refine wp_loop_rounds 1 ?_; rw [rounds_succ]
    go_wp2_with fail
    refine wp_loop_rounds 1 ?_; rw [rounds_succ]
    go_wp2_with fail
    go_ret
    exact ⟨RStp.of_below HH.out hb4, rfl⟩
  · rcases has_cases ok b m hm0 with ⟨hm1, i, j, hi, hjm, e1, hl1, ew1⟩ | ⟨e1, hl1⟩
    · rcases has_cases ok a m hm0 with ⟨_, i2, j2, hi2, hjm2, e3, hl2, ew2⟩ | ⟨e3, hl2⟩
      · rw [e1] at hhas
        rw [e3] at HC
        rw [ew1] at HW1
        rw [ew2] at HW2
        obtain ⟨nm, hnm⟩ : ∃ nm : Nat, m = nm := ⟨m.toNat, by omega⟩
        have hnt : m.toNat = nm := by omega
        rw [hnt] at hjm hjm2
        have e2 : S.move b a m = (0, { S with regs := setAt S.regs i (over (wordsAt S.regs i) j (seg (wordsAt S.regs i2) j2 nm)) }) := by
          unfold Sp.move
          rw [if_neg hm0, if_neg (by omega), hr, hl1, hl2]
          simp only [hnt]
        rw [e2]
        have hln := (ok.lo _ (List.getElem_mem hi)).2.2.1
        have hln2 := (ok.lo _ (List.getElem_mem hi2)).2.2.1
        have hn := ok.count
        have HH := Hid.mk h
        have HRD : Hid (∀ W, Below w.heap.size w W → ∀ q, j2 + q < ls[i2].words.length → W.cell? ⟨ls[i2].wb, (j2 + q) * 2, none⟩ = some (.int .i64 (ls[i2].words[j2 + q]?.getD (0, 0)).1) ∧ W.cell? ⟨ls[i2].wb, (j2 + q) * 2 + 1, none⟩ = some (.int .i64 (ls[i2].words[j2 + q]?.getD (0, 0)).2)) := by
          intro W hb q hq
          have h3 := h.below hb
          refine ⟨?_, ?_⟩
          · rw [h3.type hi2 hq]; simp [hq]
          · rw [h3.num hi2 hq]; simp [hq]
        have HSG : Hid (∀ q, q < nm → seg ls[i2].words j2 (q + 1) = seg ls[i2].words j2 q ++ [ls[i2].words[j2 + q]?.getD (0, 0)]) := by
          intro q hq
          rw [seg_snoc (by omega)]
          simp [show j2 + q < ls[i2].words.length by omega]
        have HA : Hid (∀ w5 W, Below w.heap.size w w5 → Kp [ls[i].wb] w5 W → W.ownsRow 0 29 2 (.slice (some ⟨ls[i].wb, 0, none⟩) ls[i].words.length ls[i].cap) ls[i].words.length (wcells (over ls[i].words j (seg ls[i2].words j2 nm))) →
            RStp w p gs { S with regs := setAt S.regs i (over (wordsAt S.regs i) j (seg (wordsAt S.regs i2) j2 nm)) } W) := by
          intro w5 W hb3 hk hrow
          have hws : wordsAt S.regs i = ls[i].words := by rw [hr]; exact wordsAt_map hi
          have hws2 : wordsAt S.regs i2 = ls[i2].words := by rw [hr]; exact wordsAt_map hi2
          rw [hws, hws2]
          have hle : (over ls[i].words j (seg ls[i2].words j2 nm)).length = ls[i].words.length := over_len (by rw [seg_len hjm2]; omega)
          have h4 := (h.below hb3).replace hi hk _ hle hrow
          refine ⟨_, ⟨rv, _, _, h4, ok.replace hi _ hle, words_set hwd ?_, ?_, rfl⟩, ?_, ?_⟩
          · intro v hv
            unfold over at hv
            rcases List.mem_append.1 hv with q | q
            · exact hwd _ (List.getElem_mem hi) v (List.mem_of_mem_take q)
            · rcases List.mem_append.1 q with q | q
              · unfold seg at q
                exact hwd _ (List.getElem_mem hi2) v (List.mem_of_mem_drop (List.mem_of_mem_take q))
              · exact hwd _ (List.getElem_mem hi) v (List.mem_of_mem_drop q)
          · simp only [hr]; exact setAt_map
          · rw [hgs]; exact (Kp.of_below hb3 _).trans hk (fun x hx => by simp only [List.mem_singleton] at hx; subst hx; left; simp [rfoot]; exact .inr (.inr (.inr ⟨_, List.getElem_mem hi, rfl⟩)))
          · intro b hb; left; rw [rfoot_setWords] at hb; rw [hgs]; exact hb
        obtain ⟨B, nn, cw, hB, rfl, hin, hnn, hx1, hwb1⟩ := h.reads hi
        obtain ⟨B', nn', cw', hB', ev, hin2, _, hx2, hwb2⟩ := h.reads hi2
        simp only [Value.slice.injEq, Option.some.injEq, Addr.mk.injEq, and_true] at ev
        obtain ⟨rfl, rfl, rfl⟩ := ev
        obtain ⟨ap1, ap2, ap3⟩ := h.apart hi
        have apB : B ∉ [ls[i].wb] := ap3 B rfl
        have hz := h.cell1
        have hpl : p < w.heap.size := lt_of_heap h.head
        have hnn4 : nn ≤ 4194304 := by omega
        have HROW : Hid (∀ W, Below w.heap.size w W → W.ownsRow 0 29 2 (.slice (some ⟨ls[i].wb, 0, none⟩) ls[i].words.length ls[i].cap) ls[i].words.length (wcells (over ls[i].words j []))) := by
          intro W hb
          have := over_zero ls[i].words j
          simp only [List.replicate_zero] at this
          rw [this]
          exact (h.below hb).wrow hi
        obtain ⟨ws, hws⟩ : ∃ ws, ls[i].words = ws := ⟨_, rfl⟩
        obtain ⟨wb, hwb⟩ : ∃ wb, ls[i].wb = wb := ⟨_, rfl⟩
        obtain ⟨cp, hcp⟩ : ∃ cp, ls[i].cap = cp := ⟨_, rfl⟩
        obtain ⟨us, hus⟩ : ∃ us, ls[i2].words = us := ⟨_, rfl⟩
        obtain ⟨ub, hub⟩ : ∃ ub, ls[i2].wb = ub := ⟨_, rfl⟩
        obtain ⟨uc, huc⟩ : ∃ uc, ls[i2].cap = uc := ⟨_, rfl⟩
        rw [hws, hwb, hcp] at HROW hx1
        rw [hws, hwb, hcp, hus] at HA
        rw [hus] at HSG hjm2 hln2
        rw [hus, hub] at HRD
        rw [hus, hub, huc] at hx2
        rw [hws] at hjm hln
        rw [hwb] at ap1 apB hwb1
        rw [hub] at hwb2
        have HLW : Hid (∃ n, n = ws.length) := ⟨_, rfl⟩
        obtain ⟨nw, hnw⟩ : ∃ nw, ws.length = nw := ⟨_, rfl⟩
        obtain ⟨nu, hnu⟩ : ∃ nu, us.length = nu := ⟨_, rfl⟩
        have HNW := Hid.mk hnw
        have HNU := Hid.mk hnu
        rw [hnw] at HROW HA hx1 hjm hln
        rw [hnu] at HRD hx2 hjm2 hln2
        subst hnm
        clear hS h ok hwd hr hgs e1 e2 e3 hl1 hl2 ew1 ew2 hnt hm0 hws hwb hcp hus hub huc hnw hnu ap2 ap3 HH HLW hnn hi hi2 hn
        obtain ⟨i0, hi0, hz0, hz1, hz2⟩ := info_parts infoV
        go_enter Try.func54, Try.ntmps54
        go_wp2_with fail
        refine hhas.mono ?_
        rintro e w1 ⟨hb1, rfl⟩
        go_wp2_with fail
        refine (HC.out w1 hb1).mono ?_
        rintro e w2 ⟨hb2, rfl⟩
        replace hb2 := hb1.trans (hb2.mono hb1.size)
        clear hb1
        go_wp2_with fail
        refine (HW1.out w2 hb2).mono ?_
        rintro e w3 ⟨hb3, rfl⟩
        replace hb3 := hb2.trans (hb3.mono hb2.size)
        clear hb2
        go_wp2_with fail
        refine (HW2.out w3 hb3).mono ?_
        rintro e w4 ⟨hb4, rfl⟩
        replace hb4 := hb3.trans (hb4.mono hb3.size)
        clear hb3 HC HW1 HW2 hhas
        go_wp2_with fail
        go_loopw [16, 15] (fun x v wr => ∃ q : Nat, x = .int .i64 q ∧ q ≤ nm ∧ Below w.heap.size w wr ∧ Hid (wr.ownsRow w.heap.size 29 2 v q (wcells (seg us j2 q)))) (fun x _ _ => nm - (intOf x).toNat)
        case atStart => exact ⟨0, rfl, by omega, hb4, by rw [seg_nil]; exact World.ownsRow_nil _ _ _ _⟩
        case round =>
          clear hb4
          obtain ⟨q, rfl, hq, hbw, HR⟩ := hrel
          rename_i v _ _
          by_cases hqn : q < nm
          · obtain ⟨d0, d1⟩ := HRD.out wr hbw q (by omega)
            have c1 := (hbw.cell (p := ⟨p, 1, none⟩) hpl).trans hz
            have cb := (hbw.cell (p := ⟨B, i2, none⟩) hB).trans hx2
            have HSN := Hid.mk (HSG.out q hqn)
            obtain ⟨x, hxx⟩ : ∃ x, us[j2 + q]?.getD (0, 0) = x := ⟨_, rfl⟩
            rw [hxx] at d0 d1 HSN
            clear hxx
            have hrow := HR.out
            go_wp2_with (at_builtin; refine wpList_append_own _ rfl _ _ 62 rfl w.heap.size 29 i0 (.agg #[.int .i64 0, .int .i64 0]) 2 16 Try.underlying62 hi0 hz0 hz1 hz2 rfl (by decide) _ _ _ rfl (hrow.alloc _) _ 1 1 [.int .i64 x.1, .int .i64 x.2] rfl rfl (two_new _ _ _ _) ?c3 ?c4 ?c5 ?c6 ?_)
            case c3 => intro u hu; simp only [List.mem_cons, List.not_mem_nil, or_false] at hu; obtain rfl | rfl := hu <;> rfl
            case c4 => unfold maxLen; omega
            case c5 => omega
            case c6 => have := hbw.size; simp; omega
            intro v' w9 hown' hgrow hnn
            have hb9 : Below w.heap.size w w9 := (hbw.alloc hbw.size (.cells #[.int .i64 x.1, .int .i64 x.2] 29)).grown hgrow (by have := hbw.size; simp; omega) (fun k hk => (hrow.lt k hk).1)
            have HR9 : Hid (w9.ownsRow w.heap.size 29 2 v' (q + 1) (wcells (seg us j2 (q + 1)))) := by
              show World.ownsRow _ _ _ _ _ _ _
              rw [HSN.out, wcells_app]
              simpa [wcells, wcell] using hown'
            clear hown' hgrow hrow hnn d0 d1 c1 cb HR
            go_wp2_with fail
            exact ⟨⟨q + 1, by go_num, by omega, hb9, HR9⟩, by simp [intOf]; omega⟩
          · obtain rfl : q = nm := by omega
            clear HSG HRD hx2
            have hlen : (seg us j2 q).length = q := seg_len (by rw [HNU.out]; exact hjm2)
            have h0q : 0 < q := by omega
            obtain ⟨g, cg, rfl⟩ := row_shape HR.out h0q
            have hgl := (HR.out.lt g rfl)
            have HV := Hid.mk (Rd.of_row HR.out hlen.symm)
            obtain ⟨L, hL⟩ : ∃ L, seg us j2 q = L := ⟨_, rfl⟩
            rw [hL] at HR HA hlen
            have HLN := Hid.mk hlen
            have HR0 := HROW.out wr hbw
            have HR00 : Hid (wr.ownsRow 0 29 2 (.slice (some ⟨wb, 0, none⟩) nw cp) nw (wcells (over ws j (L.take 0)))) := by rw [List.take_zero]; exact HR0
            have hgwb : g ∉ [wb] := by simp only [List.mem_singleton]; omega
            clear HV hL hlen HROW HR0
            go_wp2_with fail
            go_loopw [17] (fun x wz => ∃ t : Nat, x = .int .i64 t ∧ t ≤ q ∧ Kp [wb] wr wz ∧ Hid (wz.ownsRow 0 29 2 (.slice (some ⟨wb, 0, none⟩) nw cp) nw (wcells (over ws j (L.take t))))) (fun x _ => q - (intOf x).toNat)
            case atStart => exact ⟨0, rfl, by omega, Kp.refl _ _, HR00⟩
            case round =>
              clear HR00
              obtain ⟨t, rfl, ht, hk2, HRW⟩ := hrel
              by_cases htq : t < q
              · have htl : t < L.length := by rw [HLN.out]; exact htq
                have c1 := (kp_cell hk2 (j := 1) (Nat.lt_of_lt_of_le hpl hbw.size) ap1).trans ((hbw.cell (p := ⟨p, 1, none⟩) hpl).trans hz)
                have cb := (kp_cell hk2 (j := i) (Nat.lt_of_lt_of_le hB hbw.size) apB).trans ((hbw.cell (p := ⟨B, i, none⟩) hB).trans hx1)
                have hlr := hk2.row HR.out (fun k hk => by cases hk; exact hgwb)
                have l0 := row_cell hlr (wcells_fst htl)
                have l1 := row_cell hlr (wcells_snd htl)
                have hov : (over ws j (L.take t)).length = nw := (over_len (by have := HNW.out; simp; omega)).trans HNW.out
                have x0 := row_cell HRW.out (wcells_fst (l := over ws j (L.take t)) (i := j + t) (by omega))
                have x1 := row_cell HRW.out (wcells_snd (l := over ws j (L.take t)) (i := j + t) (by omega))
                have gf := row_free HRW.out
                have HS1 := Hid.mk (over_take (l := ws) (j := j) htl (by have := HNW.out; have := HLN.out; omega))
                obtain ⟨u0, hu0⟩ : ∃ u0, (over ws j (L.take t))[j + t] = u0 := ⟨_, rfl⟩
                obtain ⟨y, hy⟩ : ∃ y, L[t] = y := ⟨_, rfl⟩
                rw [hu0] at x0 x1
                rw [hy] at l0 l1 HS1
                clear hu0 hov hy htl hlr
                go_wp2_with fail
                go_region
                all_goals
                  go_wp2_with fail
                  refine ⟨⟨t + 1, by go_num, by omega, (hk2.drew.setCell (.inl (by simp)) _).setCell (.inl (by simp)) _, ?_⟩, by simp [intOf]; omega⟩
                  show World.ownsRow _ _ _ _ _ _ _
                  rw [HS1.out, wcells_set]
                  exact ((HRW.out.drew.stored ((j + t) * 2) _).1.stored ((j + t) * 2 + 1) _).1
              · obtain rfl : t = q := by omega
                have htk : L.take t = L := List.take_of_length_le (by rw [HLN.out]; exact Nat.le_refl _)
                rw [htk] at HRW
                have HE := Hid.mk (HA.out _ _ hbw hk2 HRW.out)
                clear HA HRW hk2 HR htk
                go_wp2_with fail
                go_ret
                exact ⟨HE.out, rfl⟩
      · rw [e1] at hhas
        rw [e3] at HC
        have e2 : S.move b a m = (210, S) := by
          unfold Sp.move
          rw [if_neg hm0, if_neg (by omega), hr, hl1, hl2 hm1]
        rw [e2]
        have HH := Hid.mk hS
        clear hS h ok hwd hr hgs e1 e2 e3 hl1 hl2 ew1 HW1 HW2 hi hjm
        go_enter Try.func54, Try.ntmps54
        go_wp2_with fail
        refine hhas.mono ?_
        rintro e w1 ⟨hb1, rfl⟩
        go_wp2_with fail
        refine (HC.out w1 hb1).mono ?_
        rintro e w2 ⟨hb2, rfl⟩
        replace hb2 := hb1.trans (hb2.mono hb1.size)
        clear hb1 hhas HC
        go_wp2_with fail
        go_ret
        exact ⟨RStp.of_below HH.out hb2, rfl⟩
    · rw [e1] at hhas
      have e2 : S.move b a m = (210, S) := by
        unfold Sp.move
        rw [if_neg hm0]
        by_cases hm1 : m < 0
        · rw [if_pos hm1]
        · rw [if_neg hm1, hr, hl1 (by omega)]
      rw [e2]
      obtain ⟨bb, hbb⟩ : ∃ bb, hasOf (ls.map LReg.reg) a m = bb := ⟨_, rfl⟩
      rw [hbb] at HC
      have HH := Hid.mk hS
      clear hS h ok hwd hr hgs e1 e2 hl1 HW1 HW2 hbb
      go_enter Try.func54, Try.ntmps54
      go_wp2_with fail
      refine hhas.mono ?_
      rintro e w1 ⟨hb1, rfl⟩
      go_wp2_with fail
      refine (HC.out w1 hb1).mono ?_
      rintro e w2 ⟨hb2, rfl⟩
      replace hb2 := hb1.trans (hb2.mono hb1.size)
      clear hb1 hhas HC
      go_wp2_with fail
      go_ret
      exact ⟨RStp.of_below HH.out hb2, rfl⟩
end
end Go.Proofs.Ytkooogllajmkeaa
