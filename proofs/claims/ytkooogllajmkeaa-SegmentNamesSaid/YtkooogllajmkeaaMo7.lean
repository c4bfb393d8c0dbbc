/- Parts Rf Rt Ru, put together. -/
import Derived.Test.YtkooogllajmkeaaMo6
import Derived.Deep.AppendLies
import Derived.Deep.DeepCutAuto
import Derived.Maps.AppendAt
/- The document's Move. -/
namespace Go.Proofs.Ytkooogllajmkeaa
open Go.RowKit
theorem over_take {l vs : List (Int × Int)} {j q : Nat} (hq : q < vs.length) (h : j + vs.length ≤ l.length) : over l j (vs.take (q + 1)) = (over l j (vs.take q)).set (j + q) vs[q] := by
  unfold over
  apply List.ext_getElem
  · simp; omega
  · intro i h1 h2
    rw [List.getElem_set]
    rcases Nat.lt_or_ge i j with c | c
    · rw [if_neg (by omega), List.getElem_append_left (by simp; omega), List.getElem_append_left (by simp; omega)]
    · rw [List.getElem_append_right (by simp; omega)]
      rcases Nat.lt_or_ge i (j + (q + 1)) with d | d
      · rw [List.getElem_append_left (by simp; omega)]
        by_cases e : j + q = i
        · rw [if_pos e, List.getElem_take]
          congr 1
          simp; omega
        · rw [if_neg e, List.getElem_append_right (by simp; omega), List.getElem_append_left (by simp; omega)]
          simp only [List.getElem_take]
      · rw [if_neg (by omega), List.getElem_append_right (by simp; omega), List.getElem_append_right (by simp; omega), List.getElem_append_right (by simp; omega)]
        simp only [List.getElem_drop, List.length_take]
        congr 1
        omega
section
variable {w w' : World} {p : Nat} {last : Int} {rv wv : Value} {ls : List LReg}
/-- one region has m words from a on, m no less than 1 -/
theorem has_cases (ok : RegsOk last ls) (a m : Int) (hm0 : m ≠ 0) : (0 < m ∧ ∃ (i j : Nat) (hi : i < ls.length), j + m.toNat ≤ ls[i].words.length ∧ hasOf (ls.map LReg.reg) a m = true ∧ locate (ls.map LReg.reg) a m = some (i, j) ∧ whereOf (ls.map LReg.reg) a = ((i : Int), (j : Int))) ∨
    (hasOf (ls.map LReg.reg) a m = false ∧ (0 < m → locate (ls.map LReg.reg) a m = none)) := by
  by_cases hm1 : 0 < m
  · cases hl : locate (ls.map LReg.reg) a m with
    | none => exact .inr ⟨by simp [hasOf, hm0, hl], fun _ => rfl⟩
    | some x =>
      obtain ⟨i, j⟩ := x
      left
      obtain ⟨hi', h1, h2⟩ := locate_spec hl
      have hi : i < ls.length := by simpa using hi'
      obtain ⟨q1, q2, q3⟩ := hasB_iff.1 h1
      simp only [List.getElem_map, LReg.reg] at q1 q2 q3 h2
      refine ⟨hm1, i, j, hi, by omega, by simp [hasOf, hm1, hl], rfl, ?_⟩
      have ea : ls[i].base + (j : Int) = a := by omega
      unfold whereOf
      rw [← ea, loc_at ok hi (j := j) (m := 1) (by omega) (by omega)]
  · exact .inr ⟨by simp [hasOf, hm0, hm1], fun q => absurd q hm1⟩
/-- what the call reads of one region's words, from any world in which nothing old has turned -/
theorem RAt.reads (h : RAt w p last rv wv ls) {i : Nat} (hi : i < ls.length) : ∃ B n c, B < w.heap.size ∧ wv = .slice (some ⟨B, 0, none⟩) n c ∧ i < n ∧ n = ls.length ∧ w.cell? ⟨B, i, none⟩ = some (.slice (some ⟨ls[i].wb, 0, none⟩) ls[i].words.length ls[i].cap) ∧ ls[i].wb < w.heap.size := by
  obtain ⟨ao, c, e, hc⟩ := h.wshape
  obtain ⟨B, rfl, hB, hx⟩ := hc i hi
  exact ⟨B, _, c, hB, e, hi, rfl, hx, ((h.words _ (List.getElem_mem hi)).lt _ rfl).2⟩
set_option maxRecDepth 100000 in
set_option maxHeartbeats 2000000 in
theorem rmove_spc {S : Sp} {gs : List Nat} (h : RSpc w p S gs) (b a m : Int) (hbr : -9223372036854775808 ≤ b ∧ b ≤ 9223372036854775807) (ha : -9223372036854775808 ≤ a ∧ a ≤ 9223372036854775807) : Calls Try.prog 54 #[.pointer (some ⟨p, 0, none⟩), .int .i64 b, .int .i64 a, .int .i64 m] w fun e w' =>
    RStp w p gs (S.move b a m).2 w' ∧ e = .returned (.int .i64 (S.move b a m).1) := by
  have hS := h
  obtain ⟨rv, wv, ls, h, ok, hwd, hr, hgs⟩ := h
  have HC : Hid (∀ (W : World), Below w.heap.size w W → Calls Try.prog 82 #[.pointer (some ⟨p, 0, none⟩), .int .i64 a, .int .i64 m] W fun e w' => Below W.heap.size W w' ∧ e = .returned (.bool (hasOf (ls.map LReg.reg) a m))) := fun W hb => rhas_any (h.below hb) ok a m ha
  have hhas := rhas_any h ok b m hbr
  have HW1 : Hid (∀ (W : World), Below w.heap.size w W → Calls Try.prog 57 #[.pointer (some ⟨p, 0, none⟩), .int .i64 b] W fun e w' => Below W.heap.size W w' ∧ e = .returned (.tuple #[.int .i64 (whereOf (ls.map LReg.reg) b).1, .int .i64 (whereOf (ls.map LReg.reg) b).2])) := fun W hb => where_any (h.below hb) ok b hbr
  have HW2 : Hid (∀ (W : World), Below w.heap.size w W → Calls Try.prog 57 #[.pointer (some ⟨p, 0, none⟩), .int .i64 a] W fun e w' => Below W.heap.size W w' ∧ e = .returned (.tuple #[.int .i64 (whereOf (ls.map LReg.reg) a).1, .int .i64 (whereOf (ls.map LReg.reg) a).2])) := fun W hb => where_any (h.below hb) ok a ha
  by_cases hm0 : m = 0
  · subst hm0
    have e1 : hasOf (ls.map LReg.reg) b 0 = true := by simp [hasOf]
    have e3 : hasOf (ls.map LReg.reg) a 0 = true := by simp [hasOf]
    have e2 : S.move b a 0 = (0, S) := by unfold Sp.move; rw [if_pos rfl]
    rw [e1] at hhas
    rw [e3] at HC
    rw [e2]
    have HH := Hid.mk hS
    clear hS h ok hwd hr hgs e1 e2 e3
    go_enter Try.func54, Try.ntmps54
    go_wp2_with fail
    refine hhas.mono ?_
    rintro e w1 ⟨hb1, rfl⟩
    go_wp2_with fail
    refine (HC.out w1 hb1).mono ?_
    rintro e w2 ⟨hb2, rfl⟩
    replace hb2 := hb1.trans (hb2.mono hb1.size)
    clear hb1
    go_wp2_with fail
    refine (HW1.out w2 hb2).mono ?_
    rintro e w3 ⟨hb3, rfl⟩
    replace hb3 := hb2.trans (hb3.mono hb2.size)
    clear hb2
    go_wp2_with fail
    refine (HW2.out w3 hb3).mono ?_
    rintro e w4 ⟨hb4, rfl⟩
    replace hb4 := hb3.trans (hb4.mono hb3.size)
    clear hb3 HC HW1 HW2 hhas
    go_wp2_with fail
    refine wp_loop_rounds 1 ?_; rw [rounds_succ]
    go_wp2_with fail
    refine wp_loop_rounds 1 ?_; rw [rounds_succ]
    go_wp2_with fail
    go_ret
    exact ⟨RStp.of_below HH.out hb4, rfl⟩
  · rcases has_cases ok b m hm0 with ⟨hm1, i, j, hi, hjm, e1, hl1, ew1⟩ | ⟨e1, hl1⟩
    · rcases has_cases ok a m hm0 with ⟨_, i2, j2, hi2, hjm2, e3, hl2, ew2⟩ | ⟨e3, hl2⟩
      · rw [e1] at hhas
        rw [e3] at HC
        rw [ew1] at HW1
        rw [ew2] at HW2
        obtain ⟨nm, hnm⟩ : ∃ nm : Nat, m = nm := ⟨m.toNat, by omega⟩
        have hnt : m.toNat = nm := by omega
        rw [hnt] at hjm hjm2
        have e2 : S.move b a m = (0, { S with regs := setAt S.regs i (over (wordsAt S.regs i) j (seg (wordsAt S.regs i2) j2 nm)) }) := by
          unfold Sp.move
          rw [if_neg hm0, if_neg (by omega), hr, hl1, hl2]
          simp only [hnt]
        rw [e2]
        have hln := (ok.lo _ (List.getElem_mem hi)).2.2.1
        have hln2 := (ok.lo _ (List.getElem_mem hi2)).2.2.1
        have hn := ok.count
        have HH := Hid.mk h
        have HRD : Hid (∀ W, Below w.heap.size w W → ∀ q, j2 + q < ls[i2].words.length → W.cell? ⟨ls[i2].wb, (j2 + q) * 2, none⟩ = some (.int .i64 (ls[i2].words[j2 + q]?.getD (0, 0)).1) ∧ W.cell? ⟨ls[i2].wb, (j2 + q) * 2 + 1, none⟩ = some (.int .i64 (ls[i2].words[j2 + q]?.getD (0, 0)).2)) := by
          intro W hb q hq
          have h3 := h.below hb
          refine ⟨?_, ?_⟩
          · rw [h3.type hi2 hq]; simp [hq]
          · rw [h3.num hi2 hq]; simp [hq]
        have HSG : Hid (∀ q, q < nm → seg ls[i2].words j2 (q + 1) = seg ls[i2].words j2 q ++ [ls[i2].words[j2 + q]?.getD (0, 0)]) := by
          intro q hq
          rw [seg_snoc (by omega)]
          simp [show j2 + q < ls[i2].words.length by omega]
        have HA : Hid (∀ w5 W, Below w.heap.size w w5 → Kp [ls[i].wb] w5 W → W.ownsRow 0 29 2 (.slice (some ⟨ls[i].wb, 0, none⟩) ls[i].words.length ls[i].cap) ls[i].words.length (wcells (over ls[i].words j (seg ls[i2].words j2 nm))) →
            RStp w p gs { S with regs := setAt S.regs i (over (wordsAt S.regs i) j (seg (wordsAt S.regs i2) j2 nm)) } W) := by
          intro w5 W hb3 hk hrow
          have hws : wordsAt S.regs i = ls[i].words := by rw [hr]; exact wordsAt_map hi
          have hws2 : wordsAt S.regs i2 = ls[i2].words := by rw [hr]; exact wordsAt_map hi2
          rw [hws, hws2]
          have hle : (over ls[i].words j (seg ls[i2].words j2 nm)).length = ls[i].words.length := over_len (by rw [seg_len hjm2]; omega)
          have h4 := (h.below hb3).replace hi hk _ hle hrow
          refine ⟨_, ⟨rv, _, _, h4, ok.replace hi _ hle, words_set hwd ?_, ?_, rfl⟩, ?_, ?_⟩
          · intro v hv
            unfold over at hv
            rcases List.mem_append.1 hv with q | q
            · exact hwd _ (List.getElem_mem hi) v (List.mem_of_mem_take q)
            · rcases List.mem_append.1 q with q | q
              · unfold seg at q
                exact hwd _ (List.getElem_mem hi2) v (List.mem_of_mem_drop (List.mem_of_mem_take q))
              · exact hwd _ (List.getElem_mem hi) v (List.mem_of_mem_drop q)
          · simp only [hr]; exact setAt_map
          · rw [hgs]; exact (Kp.of_below hb3 _).trans hk (fun x hx => by simp only [List.mem_singleton] at hx; subst hx; left; simp [rfoot]; exact .inr (.inr (.inr ⟨_, List.getElem_mem hi, rfl⟩)))
          · intro b hb; left; rw [rfoot_setWords] at hb; rw [hgs]; exact hb
        obtain ⟨B, nn, cw, hB, rfl, hin, hnn, hx1, hwb1⟩ := h.reads hi
        obtain ⟨B', nn', cw', hB', ev, hin2, _, hx2, hwb2⟩ := h.reads hi2
        simp only [Value.slice.injEq, Option.some.injEq, Addr.mk.injEq, and_true] at ev
        obtain ⟨rfl, rfl, rfl⟩ := ev
        obtain ⟨ap1, ap2, ap3⟩ := h.apart hi
        have apB : B ∉ [ls[i].wb] := ap3 B rfl
        have hz := h.cell1
        have hpl : p < w.heap.size := lt_of_heap h.head
        have hnn4 : nn ≤ 4194304 := by omega
        have HROW : Hid (∀ W, Below w.heap.size w W → W.ownsRow 0 29 2 (.slice (some ⟨ls[i].wb, 0, none⟩) ls[i].words.length ls[i].cap) ls[i].words.length (wcells (over ls[i].words j []))) := by
          intro W hb
          have := over_zero ls[i].words j
          simp only [List.replicate_zero] at this
          rw [this]
          exact (h.below hb).wrow hi
        obtain ⟨ws, hws⟩ : ∃ ws, ls[i].words = ws := ⟨_, rfl⟩
        obtain ⟨wb, hwb⟩ : ∃ wb, ls[i].wb = wb := ⟨_, rfl⟩
        obtain ⟨cp, hcp⟩ : ∃ cp, ls[i].cap = cp := ⟨_, rfl⟩
        obtain ⟨us, hus⟩ : ∃ us, ls[i2].words = us := ⟨_, rfl⟩
        obtain ⟨ub, hub⟩ : ∃ ub, ls[i2].wb = ub := ⟨_, rfl⟩
        obtain ⟨uc, huc⟩ : ∃ uc, ls[i2].cap = uc := ⟨_, rfl⟩
        rw [hws, hwb, hcp] at HROW hx1
        rw [hws, hwb, hcp, hus] at HA
        rw [hus] at HSG hjm2 hln2
        rw [hus, hub] at HRD
        rw [hus, hub, huc] at hx2
        rw [hws] at hjm hln
        rw [hwb] at ap1 apB hwb1
        rw [hub] at hwb2
        have HLW : Hid (∃ n, n = ws.length) := ⟨_, rfl⟩
        obtain ⟨nw, hnw⟩ : ∃ nw, ws.length = nw := ⟨_, rfl⟩
        obtain ⟨nu, hnu⟩ : ∃ nu, us.length = nu := ⟨_, rfl⟩
        have HNW := Hid.mk hnw
        have HNU := Hid.mk hnu
        rw [hnw] at HROW HA hx1 hjm hln
        rw [hnu] at HRD hx2 hjm2 hln2
        subst hnm
        clear hS h ok hwd hr hgs e1 e2 e3 hl1 hl2 ew1 ew2 hnt hm0 hws hwb hcp hus hub huc hnw hnu ap2 ap3 HH HLW hnn hi hi2 hn
        obtain ⟨i0, hi0, hz0, hz1, hz2⟩ := info_parts infoV
        go_enter Try.func54, Try.ntmps54
        go_wp2_with fail
        refine hhas.mono ?_
        rintro e w1 ⟨hb1, rfl⟩
        go_wp2_with fail
        refine (HC.out w1 hb1).mono ?_
        rintro e w2 ⟨hb2, rfl⟩
        replace hb2 := hb1.trans (hb2.mono hb1.size)
        clear hb1
        go_wp2_with fail
        refine (HW1.out w2 hb2).mono ?_
        rintro e w3 ⟨hb3, rfl⟩
        replace hb3 := hb2.trans (hb3.mono hb2.size)
        clear hb2
        go_wp2_with fail
        refine (HW2.out w3 hb3).mono ?_
        rintro e w4 ⟨hb4, rfl⟩
        replace hb4 := hb3.trans (hb4.mono hb3.size)
        clear hb3 HC HW1 HW2 hhas
        go_wp2_with fail
        go_loopw [16, 15] (fun x v wr => ∃ q : Nat, x = .int .i64 q ∧ q ≤ nm ∧ Below w.heap.size w wr ∧ Hid (wr.ownsRow w.heap.size 29 2 v q (wcells (seg us j2 q)))) (fun x _ _ => nm - (intOf x).toNat)
        case atStart => exact ⟨0, rfl, by omega, hb4, by rw [seg_nil]; exact World.ownsRow_nil _ _ _ _⟩
        case round =>
          clear hb4
          obtain ⟨q, rfl, hq, hbw, HR⟩ := hrel
          rename_i v _ _
          by_cases hqn : q < nm
          · obtain ⟨d0, d1⟩ := HRD.out wr hbw q (by omega)
            have c1 := (hbw.cell (p := ⟨p, 1, none⟩) hpl).trans hz
            have cb := (hbw.cell (p := ⟨B, i2, none⟩) hB).trans hx2
            have HSN := Hid.mk (HSG.out q hqn)
            obtain ⟨x, hxx⟩ : ∃ x, us[j2 + q]?.getD (0, 0) = x := ⟨_, rfl⟩
            rw [hxx] at d0 d1 HSN
            clear hxx
            have hrow := HR.out
            go_wp2_with (at_builtin; refine wpList_append_own _ rfl _ _ 62 rfl w.heap.size 29 i0 (.agg #[.int .i64 0, .int .i64 0]) 2 16 Try.underlying62 hi0 hz0 hz1 hz2 rfl (by decide) _ _ _ rfl (hrow.alloc _) _ 1 1 [.int .i64 x.1, .int .i64 x.2] rfl rfl (two_new _ _ _ _) ?c3 ?c4 ?c5 ?c6 ?_)
            case c3 => intro u hu; simp only [List.mem_cons, List.not_mem_nil, or_false] at hu; obtain rfl | rfl := hu <;> rfl
            case c4 => unfold maxLen; omega
            case c5 => omega
            case c6 => have := hbw.size; simp; omega
            intro v' w9 hown' hgrow hnn
            have hb9 : Below w.heap.size w w9 := (hbw.alloc hbw.size (.cells #[.int .i64 x.1, .int .i64 x.2] 29)).grown hgrow (by have := hbw.size; simp; omega) (fun k hk => (hrow.lt k hk).1)
            have HR9 : Hid (w9.ownsRow w.heap.size 29 2 v' (q + 1) (wcells (seg us j2 (q + 1)))) := by
              show World.ownsRow _ _ _ _ _ _ _
              rw [HSN.out, wcells_app]
              simpa [wcells, wcell] using hown'
            clear hown' hgrow hrow hnn d0 d1 c1 cb HR
            go_wp2_with fail
            exact ⟨⟨q + 1, by go_num, by omega, hb9, HR9⟩, by simp [intOf]; omega⟩
          · obtain rfl : q = nm := by omega
            clear HSG HRD hx2
            have hlen : (seg us j2 q).length = q := seg_len (by rw [HNU.out]; exact hjm2)
            have h0q : 0 < q := by omega
            obtain ⟨g, cg, rfl⟩ := row_shape HR.out h0q
            have hgl := (HR.out.lt g rfl)
            have HV := Hid.mk (Rd.of_row HR.out hlen.symm)
            obtain ⟨L, hL⟩ : ∃ L, seg us j2 q = L := ⟨_, rfl⟩
            rw [hL] at HR HA hlen
            have HLN := Hid.mk hlen
            have HR0 := HROW.out wr hbw
            have HR00 : Hid (wr.ownsRow 0 29 2 (.slice (some ⟨wb, 0, none⟩) nw cp) nw (wcells (over ws j (L.take 0)))) := by rw [List.take_zero]; exact HR0
            have hgwb : g ∉ [wb] := by simp only [List.mem_singleton]; omega
            clear HV hL hlen HROW HR0
            go_wp2_with fail
            go_loopw [17] (fun x wz => ∃ t : Nat, x = .int .i64 t ∧ t ≤ q ∧ Kp [wb] wr wz ∧ Hid (wz.ownsRow 0 29 2 (.slice (some ⟨wb, 0, none⟩) nw cp) nw (wcells (over ws j (L.take t))))) (fun x _ => q - (intOf x).toNat)
            case atStart => exact ⟨0, rfl, by omega, Kp.refl _ _, HR00⟩
            case round =>
              clear HR00
              obtain ⟨t, rfl, ht, hk2, HRW⟩ := hrel
              by_cases htq : t < q
              · have htl : t < L.length := by rw [HLN.out]; exact htq
                have c1 := (kp_cell hk2 (j := 1) (Nat.lt_of_lt_of_le hpl hbw.size) ap1).trans ((hbw.cell (p := ⟨p, 1, none⟩) hpl).trans hz)
                have cb := (kp_cell hk2 (j := i) (Nat.lt_of_lt_of_le hB hbw.size) apB).trans ((hbw.cell (p := ⟨B, i, none⟩) hB).trans hx1)
                have hlr := hk2.row HR.out (fun k hk => by cases hk; exact hgwb)
                have l0 := row_cell hlr (wcells_fst htl)
                have l1 := row_cell hlr (wcells_snd htl)
                have hov : (over ws j (L.take t)).length = nw := (over_len (by have := HNW.out; simp; omega)).trans HNW.out
                have x0 := row_cell HRW.out (wcells_fst (l := over ws j (L.take t)) (i := j + t) (by omega))
                have x1 := row_cell HRW.out (wcells_snd (l := over ws j (L.take t)) (i := j + t) (by omega))
                have gf := row_free HRW.out
                have HS1 := Hid.mk (over_take (l := ws) (j := j) htl (by have := HNW.out; have := HLN.out; omega))
                obtain ⟨u0, hu0⟩ : ∃ u0, (over ws j (L.take t))[j + t] = u0 := ⟨_, rfl⟩
                obtain ⟨y, hy⟩ : ∃ y, L[t] = y := ⟨_, rfl⟩
                rw [hu0] at x0 x1
                rw [hy] at l0 l1 HS1
                clear hu0 hov hy htl hlr
                go_wp2_with fail
                go_region
                all_goals
                  go_wp2_with fail
                  refine ⟨⟨t + 1, by go_num, by omega, (hk2.drew.setCell (.inl (by simp)) _).setCell (.inl (by simp)) _, ?_⟩, by simp [intOf]; omega⟩
                  show World.ownsRow _ _ _ _ _ _ _
                  rw [HS1.out, wcells_set]
                  exact ((HRW.out.drew.stored ((j + t) * 2) _).1.stored ((j + t) * 2 + 1) _).1
              · obtain rfl : t = q := by omega
                have htk : L.take t = L := List.take_of_length_le (by rw [HLN.out]; exact Nat.le_refl _)
                rw [htk] at HRW
                have HE := Hid.mk (HA.out _ _ hbw hk2 HRW.out)
                clear HA HRW hk2 HR htk
                go_wp2_with fail
                go_ret
                exact ⟨HE.out, rfl⟩
      · rw [e1] at hhas
        rw [e3] at HC
        have e2 : S.move b a m = (210, S) := by
          unfold Sp.move
          rw [if_neg hm0, if_neg (by omega), hr, hl1, hl2 hm1]
        rw [e2]
        have HH := Hid.mk hS
        clear hS h ok hwd hr hgs e1 e2 e3 hl1 hl2 ew1 HW1 HW2 hi hjm
        go_enter Try.func54, Try.ntmps54
        go_wp2_with fail
        refine hhas.mono ?_
        rintro e w1 ⟨hb1, rfl⟩
        go_wp2_with fail
        refine (HC.out w1 hb1).mono ?_
        rintro e w2 ⟨hb2, rfl⟩
        replace hb2 := hb1.trans (hb2.mono hb1.size)
        clear hb1 hhas HC
        go_wp2_with fail
        go_ret
        exact ⟨RStp.of_below HH.out hb2, rfl⟩
    · rw [e1] at hhas
      have e2 : S.move b a m = (210, S) := by
        unfold Sp.move
        rw [if_neg hm0]
        by_cases hm1 : m < 0
        · rw [if_pos hm1]
        · rw [if_neg hm1, hr, hl1 (by omega)]
      rw [e2]
      obtain ⟨bb, hbb⟩ : ∃ bb, hasOf (ls.map LReg.reg) a m = bb := ⟨_, rfl⟩
      rw [hbb] at HC
      have HH := Hid.mk hS
      clear hS h ok hwd hr hgs e1 e2 hl1 HW1 HW2 hbb
      go_enter Try.func54, Try.ntmps54
      go_wp2_with fail
      refine hhas.mono ?_
      rintro e w1 ⟨hb1, rfl⟩
      go_wp2_with fail
      refine (HC.out w1 hb1).mono ?_
      rintro e w2 ⟨hb2, rfl⟩
      replace hb2 := hb1.trans (hb2.mono hb1.size)
      clear hb1 hhas HC
      go_wp2_with fail
      go_ret
      exact ⟨RStp.of_below HH.out hb2, rfl⟩
end
end Go.Proofs.Ytkooogllajmkeaa
/- The document's Take. -/
namespace Go.Proofs.Ytkooogllajmkeaa
open Go.RowKit
theorem infoS : (Try.prog.info? 62).map (fun i => (i.zero, i.size, i.bytes)) = some (some (.slice none 0 0), 1, 24) := by kernel_rfl
section
variable {w w' : World} {p : Nat} {last : Int} {rv wv : Value} {ls : List LReg}
/-- behind the first append: the row of regions has one more -/
def RTa (w : World) (p : Nat) (last : Int) (rv wv : Value) (ls : List LReg) (nb : Int) (k : Nat) (W : World) : Prop :=
  ∃ g c, W.heap[p]? = some (.cells #[.slice (some ⟨g, 0, none⟩) (ls.length + 1) c, wv, .int .i64 last] 56 (0, 0)) ∧ W.ownsRow 0 39 2 (.slice (some ⟨g, 0, none⟩) (ls.length + 1) c) (ls.length + 1) (gcells ls ++ [.int .i64 nb, .int .i64 k]) ∧
    W.ownsRow 0 62 1 wv ls.length (ls.map LReg.sl) ∧ (∀ r ∈ ls, W.ownsRow 0 29 2 r.sl r.words.length (wcells r.words)) ∧ Kp (rfoot p rv wv ls) w W ∧ (rv.ownBlock = some g ∨ w.heap.size ≤ g)
theorem rta_mk (h : RAt w p last rv wv ls) {wc w2 : World} (hb : Below w.heap.size w wc) {nb : Int} {k g c : Nat} {T : TypeId} (hown : w2.ownsRow 0 39 2 (.slice (some ⟨g, 0, none⟩) (ls.length + 1) c) (ls.length + 1) (gcells ls ++ [.int .i64 nb, .int .i64 k]))
    (hg : (wc.alloc (.cells #[.int .i64 nb, .int .i64 k] T)).grownBy w2 rv.ownBlock) (hat : rv.ownBlock = some g ∨ g = wc.heap.size + 1) :
    RTa w p last rv wv ls nb k (w2.setCell ⟨p, 0, none⟩ (.slice (some ⟨g, 0, none⟩) (ls.length + 1) c)) := by
  have hw := h.below hb
  have hnd := h.nodup
  have hpl := lt_of_heap hw.head
  have hd1 := List.nodup_append.1 (List.nodup_cons.1 hnd).2
  have hsp : rv.ownBlock ≠ some p := fun e => (List.nodup_cons.1 hnd).1 (List.mem_append.2 (.inl (by simp [e])))
  have hgp : g ≠ p := by
    rcases hat with e | e
    · rintro rfl; exact hsp e
    · omega
  have hh2 : w2.heap[p]? = some (.cells #[rv, wv, .int .i64 last] 56 (0, 0)) := (hg.block p (by simp; omega) (fun e => hsp e.symm)).trans ((Below.heap_alloc _ _ _ hpl).trans hw.head)
  have keep : ∀ (T1 z : Nat) (v : Value) (n : Nat) (xs : List Value), wc.ownsRow 0 T1 z v n xs → (∀ x, v.ownBlock = some x → rv.ownBlock ≠ some x ∧ x ≠ p) →
      (w2.setCell ⟨p, 0, none⟩ (.slice (some ⟨g, 0, none⟩) (ls.length + 1) c)).ownsRow 0 T1 z v n xs := by
    intro T1 z v n xs ho hx
    cases hv : v.ownBlock with
    | none =>
      have h2 := (ho.alloc (.cells #[.int .i64 nb, .int .i64 k] T)).kept hg (.inl hv)
      exact ownsRow_setCell_other h2 (by rw [hv]; simp) _
    | some x =>
      have h2 := (ho.alloc (.cells #[.int .i64 nb, .int .i64 k] T)).kept hg (.inr (by rw [hv]; exact Ne.symm (hx x hv).1))
      exact ownsRow_setCell_other h2 (by rw [hv]; simpa using (hx x hv).2) _
  refine ⟨g, c, ?_, ?_, ?_, ?_, ?_, ?_⟩
  · have := heap_setCell_same w2 p 0 _ _ (.slice (some ⟨g, 0, none⟩) (ls.length + 1) c) hh2
    simpa using this
  · exact ownsRow_setCell_other hown (by simp [Value.ownBlock, hgp]) _
  · refine keep _ _ _ _ _ hw.tab (fun x hx => ⟨fun e => ?_, ?_⟩)
    · exact hd1.2.2 x (by simp [e]) x (List.mem_append.2 (.inl (by simp [hx]))) rfl
    · rintro rfl
      exact (List.nodup_cons.1 hnd).1 (List.mem_append.2 (.inr (List.mem_append.2 (.inl (by simp [hx])))))
  · intro r hr
    have hin : r.wb ∈ ls.map (·.wb) := List.mem_map.2 ⟨r, hr, rfl⟩
    refine keep _ _ _ _ _ (hw.words r hr) (fun x hx => ?_)
    simp only [LReg.sl, Value.ownBlock, Option.some.injEq] at hx
    subst hx
    refine ⟨fun e => ?_, ?_⟩
    · exact hd1.2.2 r.wb (by simp [e]) r.wb (List.mem_append.2 (.inr hin)) rfl
    · intro e
      exact (List.nodup_cons.1 hnd).1 (List.mem_append.2 (.inr (List.mem_append.2 (.inr (e ▸ hin)))))
  · refine Kp.setCell (Kp.grown (Kp.alloc (Kp.of_below hb _) _) hg (fun x hx => .inl (by simp [rfoot, hx]))) (.inl (by simp [rfoot])) _
  · rcases hat with e | e
    · exact .inl e
    · exact .inr (by have := hb.size; omega)
/-- behind the second append: the rows' row has one more, too -/
def RTb (w : World) (p : Nat) (last : Int) (rv wv : Value) (ls : List LReg) (nb : Int) (k : Nat) (W : World) : Prop :=
  ∃ g c g' c' G, W.heap[p]? = some (.cells #[.slice (some ⟨g, 0, none⟩) (ls.length + 1) c, .slice (some ⟨g', 0, none⟩) (ls.length + 1) c', .int .i64 last] 56 (0, 0)) ∧
    W.ownsRow 0 39 2 (.slice (some ⟨g, 0, none⟩) (ls.length + 1) c) (ls.length + 1) (gcells ls ++ [.int .i64 nb, .int .i64 k]) ∧
    W.ownsRow 0 62 1 (.slice (some ⟨g', 0, none⟩) (ls.length + 1) c') (ls.length + 1) (ls.map LReg.sl ++ [.slice (some ⟨G, 0, none⟩) k k]) ∧
    (∀ r ∈ ls, W.ownsRow 0 29 2 r.sl r.words.length (wcells r.words)) ∧ W.ownsRow 0 29 2 (.slice (some ⟨G, 0, none⟩) k k) k (wcells (List.replicate k (0, 0))) ∧
    Kp (rfoot p rv wv ls) w W ∧ (rv.ownBlock = some g ∨ w.heap.size ≤ g) ∧ (wv.ownBlock = some g' ∨ w.heap.size ≤ g') ∧ w.heap.size ≤ G ∧ g ≠ g' ∧ G ≠ g ∧ G ≠ g'
theorem one_new (w : World) (a : Value) (T : TypeId) : ∀ j u, [a][j]? = some u → (w.alloc (.cells #[a] T)).cell? ((⟨w.heap.size, 0, none⟩ : Addr).add j) = some u := by
  intro j u hu
  match j, hu with
  | 0, hu => simpa [Addr.add] using hu
theorem rtb_mk (h : RAt w p last rv wv ls) {W3 w5 : World} {nb : Int} {k : Nat} (hk2 : k ≤ 1048576) (ha : RTa w p last rv wv ls nb k W3) {g' c' : Nat} {T : TypeId}
    (hown : w5.ownsRow 0 62 1 (.slice (some ⟨g', 0, none⟩) (ls.length + 1) c') (ls.length + 1) (ls.map LReg.sl ++ [.slice (some ⟨W3.heap.size, 0, none⟩) k k]))
    (hg : (((W3.alloc (.cells (madeCells #[Value.int .i64 0, .int .i64 0] (k * 2)) 29)).alloc (.cells #[.slice (some ⟨W3.heap.size, 0, none⟩) k k] T)).drew).grownBy w5 wv.ownBlock) (hat : wv.ownBlock = some g' ∨ g' = W3.heap.size + 2) :
    RTb w p last rv wv ls nb k (w5.setCell ⟨p, 1, none⟩ (.slice (some ⟨g', 0, none⟩) (ls.length + 1) c')) := by
  obtain ⟨g, c, hh, hr, ht, hw, hk, hat0⟩ := ha
  have hnd := h.nodup
  have hpl := lt_of_heap hh
  have hpw := lt_of_heap h.head
  have hd1 := List.nodup_append.1 (List.nodup_cons.1 hnd).2
  have hd2 := List.nodup_append.1 hd1.2.1
  have hwlt : ∀ x, wv.ownBlock = some x → x < w.heap.size := fun x hx => h.lt x (by simp [rfoot, hx])
  have hsp : wv.ownBlock ≠ some p := fun e => (List.nodup_cons.1 hnd).1 (List.mem_append.2 (.inr (List.mem_append.2 (.inl (by simp [e])))))
  have hgl : g < W3.heap.size := (hr.lt g rfl).2
  have hsz : w.heap.size ≤ W3.heap.size := hk.size
  have hgw : wv.ownBlock ≠ some g := fun e => by
    rcases hat0 with q | q
    · exact hd1.2.2 g (by simp [q]) g (List.mem_append.2 (.inl (by simp [e]))) rfl
    · have := hwlt g e; omega
  have hgp' : g ≠ p := by
    rcases hat0 with q | q
    · rintro rfl; exact (List.nodup_cons.1 hnd).1 (List.mem_append.2 (.inl (by simp [q])))
    · omega
  have hgp : g' ≠ p := by
    rcases hat with e | e
    · rintro rfl; exact hsp e
    · omega
  have hp5 : w5.heap[p]? = some (.cells #[.slice (some ⟨g, 0, none⟩) (ls.length + 1) c, wv, .int .i64 last] 56 (0, 0)) :=
    (hg.block p (by simp; omega) (fun e => hsp e.symm)).trans ((Below.heap_alloc _ _ _ (by simp; omega)).trans ((Below.heap_alloc _ _ _ hpl).trans hh))
  have keep2 : ∀ (T1 z : Nat) (v : Value) (n : Nat) (xs : List Value), (W3.alloc (.cells (madeCells #[Value.int .i64 0, .int .i64 0] (k * 2)) 29)).ownsRow 0 T1 z v n xs → (∀ x, v.ownBlock = some x → wv.ownBlock ≠ some x ∧ x ≠ p) →
      (w5.setCell ⟨p, 1, none⟩ (.slice (some ⟨g', 0, none⟩) (ls.length + 1) c')).ownsRow 0 T1 z v n xs := by
    intro T1 z v n xs ho hx
    have h1 := (ho.alloc (.cells #[.slice (some ⟨W3.heap.size, 0, none⟩) k k] T)).drew
    cases hv : v.ownBlock with
    | none => exact ownsRow_setCell_other (h1.kept hg (.inl hv)) (by rw [hv]; simp) _
    | some x => exact ownsRow_setCell_other (h1.kept hg (.inr (by rw [hv]; exact Ne.symm (hx x hv).1))) (by rw [hv]; simpa using (hx x hv).2) _
  refine ⟨g, c, g', c', W3.heap.size, ?_, ?_, ?_, ?_, ?_, ?_, hat0, ?_, hsz, ?_, by omega, ?_⟩
  · have := heap_setCell_same w5 p 1 _ _ (.slice (some ⟨g', 0, none⟩) (ls.length + 1) c') hp5
    simpa using this
  · exact keep2 _ _ _ _ _ (hr.alloc _) (fun x hx => by simp only [Value.ownBlock, Option.some.injEq] at hx; subst hx; exact ⟨hgw, hgp'⟩)
  · exact ownsRow_setCell_other hown (by simp [Value.ownBlock, hgp]) _
  · intro r hr'
    have hin : r.wb ∈ ls.map (·.wb) := List.mem_map.2 ⟨r, hr', rfl⟩
    refine keep2 _ _ _ _ _ ((hw r hr').alloc _) (fun x hx => ?_)
    simp only [LReg.sl, Value.ownBlock, Option.some.injEq] at hx
    subst hx
    refine ⟨fun e => hd2.2.2 r.wb (by simp [e]) r.wb hin rfl, fun e => ?_⟩
    exact (List.nodup_cons.1 hnd).1 (List.mem_append.2 (.inr (List.mem_append.2 (.inr (e ▸ hin)))))
  · have := World.ownsRow_lit (base := 0) (e := 29) (size := 2) W3 (madeCells #[Value.int .i64 0, .int .i64 0] (k * 2)) k (Nat.zero_le _) (by unfold maxLen; omega) (by rw [size_madeCells])
    rw [made_zero] at this
    refine keep2 _ _ _ _ _ this (fun x hx => ?_)
    simp only [Value.ownBlock, Option.some.injEq] at hx
    subst hx
    exact ⟨fun e => by have := hwlt _ e; omega, by omega⟩
  · refine Kp.setCell (Kp.grown (Kp.drew (Kp.alloc (Kp.alloc hk _) _)) hg (fun x hx => .inl (by simp [rfoot, hx]))) (.inl (by simp [rfoot])) _
  · rcases hat with e | e
    · exact .inl e
    · exact .inr (by omega)
  · rcases hat with e | e
    · rintro rfl; exact hgw e
    · omega
  · rcases hat with e | e
    · have := hwlt _ e; omega
    · omega
theorem rtc_mk {S : Sp} {gs : List Nat} (h : RAt w p S.last rv wv ls) (ok : RegsOk S.last ls) (hwd : Words ls) (hr : S.regs = ls.map LReg.reg) (hgs : gs = rfoot p rv wv ls) {k : Nat} (hk1 : 1 ≤ k) (hk2 : k ≤ 1048576) (hk3 : tot ls + k ≤ 4194304)
    (hl : S.last ≤ 1152921504606846976) {W : World} (hb : RTb w p S.last rv wv ls (nextBase S.last) k W) :
    RStp w p gs ⟨S.regs ++ [⟨nextBase S.last, List.replicate k (0, 0)⟩], nextBase S.last + k - 1⟩ (W.setCell ⟨p, 2, none⟩ (.int .i64 (nextBase S.last + k - 1))) := by
  obtain ⟨g, c, g', c', G, hh, hrow, ht, hw, hG, hk, q1, q2, q3, q4, q5, q6⟩ := hb
  have hnd := h.nodup
  have hpw := lt_of_heap h.head
  have hd0 := List.nodup_cons.1 hnd
  have hd1 := List.nodup_append.1 hd0.2
  have hd2 := List.nodup_append.1 hd1.2.1
  have hwbl : ∀ x ∈ ls.map (·.wb), x < w.heap.size := fun x hx => h.lt x (by simp only [rfoot, List.mem_cons, List.mem_append]; exact .inr (.inr (.inr hx)))
  have hgp : g ≠ p := by
    rcases q1 with q | q
    · rintro rfl; exact hd0.1 (List.mem_append.2 (.inl (by simp [q])))
    · omega
  have hgp' : g' ≠ p := by
    rcases q2 with q | q
    · rintro rfl; exact hd0.1 (List.mem_append.2 (.inr (List.mem_append.2 (.inl (by simp [q])))))
    · omega
  have hgx : ∀ x ∈ ls.map (·.wb), g ≠ x := fun x hx e => by
    rcases q1 with q | q
    · exact hd1.2.2 g (by simp [q]) x (List.mem_append.2 (.inr hx)) e
    · have := hwbl x hx; omega
  have hgx' : ∀ x ∈ ls.map (·.wb), g' ≠ x := fun x hx e => by
    rcases q2 with q | q
    · exact hd2.2.2 g' (by simp [q]) x hx e
    · have := hwbl x hx; omega
  have hpx : ∀ x ∈ ls.map (·.wb), p ≠ x := fun x hx e => hd0.1 (List.mem_append.2 (.inr (List.mem_append.2 (.inr (e ▸ hx)))))
  have keep : ∀ (T1 z : Nat) (v : Value) (n : Nat) (xs : List Value), W.ownsRow 0 T1 z v n xs → v.ownBlock ≠ some p → (W.setCell ⟨p, 2, none⟩ (.int .i64 (nextBase S.last + k - 1))).ownsRow 0 T1 z v n xs :=
    fun T1 z v n xs ho hx => ownsRow_setCell_other ho hx _
  refine ⟨_, ⟨.slice (some ⟨g, 0, none⟩) (ls.length + 1) c, .slice (some ⟨g', 0, none⟩) (ls.length + 1) c', ls ++ [⟨nextBase S.last, G, k, List.replicate k (0, 0)⟩], ⟨?_, ?_, ?_, ?_, ?_⟩, regs_snoc ok k G hk1 hk2 hk3 hl, ?_, ?_, rfl⟩, ?_, ?_⟩
  · have := heap_setCell_same W p 2 _ _ (.int .i64 (nextBase S.last + k - 1)) hh
    simpa using this
  · rw [gcells_snoc, List.length_append]
    simp only [gcell, List.length_replicate, List.length_singleton]
    exact keep _ _ _ _ _ hrow (by simp [Value.ownBlock, hgp])
  · rw [List.map_append, List.length_append]
    simp only [List.map_cons, List.map_nil, LReg.sl, List.length_replicate, List.length_singleton]
    exact keep _ _ _ _ _ ht (by simp [Value.ownBlock, hgp'])
  · intro r hr'
    rcases List.mem_append.1 hr' with hr' | hr'
    · refine keep _ _ _ _ _ (hw r hr') ?_
      simp only [LReg.sl, Value.ownBlock, ne_eq, Option.some.injEq]
      exact fun e => hpx r.wb (List.mem_map.2 ⟨r, hr', rfl⟩) e.symm
    · obtain rfl : r = _ := by simpa using hr'
      simp only [LReg.sl, List.length_replicate]
      refine keep _ _ _ _ _ hG ?_
      simp only [Value.ownBlock, ne_eq, Option.some.injEq]
      omega
  · simp only [rfoot, Value.ownBlock, Option.toList_some, List.map_append, List.map_cons, List.map_nil]
    refine List.nodup_cons.2 ⟨?_, List.nodup_append.2 ⟨by simp, List.nodup_append.2 ⟨by simp, List.nodup_append.2 ⟨hd2.2.1, by simp, ?_⟩, ?_⟩, ?_⟩⟩
    · intro q
      simp only [List.mem_append, List.mem_singleton] at q
      rcases q with q | q | q | q
      · exact hgp q.symm
      · exact hgp' q.symm
      · exact hpx p q rfl
      · omega
    · intro x hx y hy e
      simp only [List.mem_singleton] at hy
      have := hwbl x hx; omega
    · intro x hx y hy e
      simp only [List.mem_singleton] at hx
      subst hx
      rcases List.mem_append.1 hy with q | q
      · exact hgx' y q e
      · simp only [List.mem_singleton] at q; subst q; exact q6 e.symm
    · intro x hx y hy e
      simp only [List.mem_singleton] at hx
      subst hx
      rcases List.mem_append.1 hy with q | q
      · simp only [List.mem_singleton] at q; subst q; exact q4 e
      · rcases List.mem_append.1 q with q | q
        · exact hgx y q e
        · simp only [List.mem_singleton] at q; subst q; exact q5 e.symm
  · intro r hr' v hv
    rcases List.mem_append.1 hr' with hr' | hr'
    · exact hwd r hr' v hv
    · obtain rfl : r = _ := by simpa using hr'
      exact .inl (List.eq_of_mem_replicate hv)
  · simp [hr, LReg.reg]
  · rw [hgs]; exact hk.setCell (.inl (by simp [rfoot])) _
  · intro b hb
    rw [hgs]
    simp only [rfoot, Value.ownBlock, Option.toList_some, List.map_append, List.map_cons, List.map_nil, List.mem_cons, List.mem_append, List.not_mem_nil, or_false, Option.mem_toList] at hb ⊢
    rcases hb with q | q | q | q | q
    · exact .inl (.inl q)
    · subst q
      rcases q1 with q | q
      · exact .inl (.inr (.inl q))
      · exact .inr q
    · subst q
      rcases q2 with q | q
      · exact .inl (.inr (.inr (.inl q)))
      · exact .inr q
    · exact .inl (.inr (.inr (.inr q)))
    · subst q; exact .inr q3
set_option maxRecDepth 100000 in
set_option maxHeartbeats 2000000 in
theorem rtake_spc {S : Sp} {gs : List Nat} (h : RSpc w p S gs) (m : Int) (hl : S.last ≤ 1152921504606846976) : Calls Try.prog 49 #[.pointer (some ⟨p, 0, none⟩), .int .i64 m] w fun e w' =>
    RStp w p gs (S.take m).2 w' ∧ e = .returned (.tuple #[.int .i64 (S.take m).1.1, .int .i64 (S.take m).1.2]) := by
  have hS := h
  obtain ⟨rv, wv, ls, h, ok, hwd, hr, hgs⟩ := h
  have hlive := rlive_any h ok
  have htl := ok.live
  by_cases hm : m < 1 ∨ 1048576 < m
  · have e2 : S.take m = ((0, 211), S) := by unfold Sp.take; rw [if_pos (by omega)]
    rw [e2]
    have HH := Hid.mk hS
    clear hS h ok hwd hr hgs e2 hlive
    rcases Int.lt_or_le m 1 with c | c
    · have d1 : decide (m < 1) = true := by simp; omega
      go_enter Try.func49, Try.ntmps49
      go_wp2_with fail
      go_ret2
      exact ⟨RStp.of_below HH.out (Below.refl _ _), rfl⟩
    · have d1 : decide (m < 1) = false := by simp; omega
      have d2 : decide (m > 1048576) = true := by simp; omega
      go_enter Try.func49, Try.ntmps49
      go_wp2_with fail
      go_ret2
      exact ⟨RStp.of_below HH.out (Below.refl _ _), rfl⟩
  · have d1 : decide (m < 1) = false := by simp; omega
    have d2 : decide (m > 1048576) = false := by simp; omega
    have htot : total S.regs = tot ls := by rw [hr, total_map]
    have hto : tot ls ≤ 4194304 := htl
    by_cases hm2 : 4194304 < (tot ls : Int) + m
    · have e2 : S.take m = ((0, 211), S) := by unfold Sp.take; rw [htot, if_pos (by omega)]
      rw [e2]
      have HH := Hid.mk hS
      have d3 : decide ((tot ls : Int) + m > 4194304) = true := by simp; omega
      obtain ⟨tt, htt⟩ : ∃ tt, tot ls = tt := ⟨_, rfl⟩
      rw [htt] at hlive d3 hto
      have w1 : IntKind.i64.wrap ((tt : Int) + m) = tt + m := by rw [IntKind.wrap_i64]; omega
      clear hS h ok hwd hr hgs e2 htot htt htl hm hm2
      go_enter Try.func49, Try.ntmps49
      go_wp2_with fail
      refine hlive.mono ?_
      rintro e w1 ⟨hb1, rfl⟩
      go_wp2_with fail
      go_ret2
      exact ⟨RStp.of_below HH.out hb1, rfl⟩
    · obtain ⟨k, hk⟩ : ∃ k : Nat, m = k := ⟨m.toNat, by omega⟩
      subst hk
      have hk2 : k ≤ 1048576 := by omega
      have hkk : 1 ≤ k ∧ tot ls + k ≤ 4194304 := by omega
      have e2 : S.take k = ((nextBase S.last, 0), ⟨S.regs ++ [⟨nextBase S.last, List.replicate k (0, 0)⟩], nextBase S.last + k - 1⟩) := by
        unfold Sp.take
        rw [htot, if_neg (by omega)]
        simp
      rw [e2]
      obtain ⟨nb, hnb⟩ : ∃ nb, nextBase S.last = nb := ⟨_, rfl⟩
      have h0 := ok.last0
      have hcn := ok.count
      obtain ⟨la, hla⟩ : ∃ la, S.last = la := ⟨_, rfl⟩
      have hnb' : nb = if la = 0 then 1 else la + 2 := by rw [← hnb, ← hla]; rfl
      rw [hla] at h0 hl h
      rw [hnb]
      have d3 : decide ((tot ls : Int) + k > 4194304) = false := by simp; omega
      obtain ⟨tt, htt⟩ : ∃ tt, tot ls = tt := ⟨_, rfl⟩
      rw [htt] at hlive d3 hto hm2
      have w1 : IntKind.i64.wrap ((tt : Int) + k) = tt + k := by rw [IntKind.wrap_i64]; omega
      have hH := Hid.mk h
      have HO := Hid.mk ok
      have HWD := Hid.mk hwd
      have HRR := Hid.mk hr
      have HGS := Hid.mk hgs
      have HLA := Hid.mk hla
      have HNB := Hid.mk hnb
      clear hS ok hwd hr hgs e2 htot htl hnb hla h
      go_enter Try.func49, Try.ntmps49
      go_wp2_with fail
      refine hlive.mono ?_
      rintro e w1 ⟨hb1, rfl⟩
      clear hlive
      have c2 := (hH.out.below hb1).cell2
      go_upto_if 24 with (fail)
      go_cut [6] (fun b W => Hid (b = .int .i64 nb ∧ Below w.heap.size w W))
      case first =>
        by_cases hz : la = 0
        · rw [if_pos hz] at hnb'
          subst hz
          subst hnb'
          go_wp2_with fail
          go_meet
          case rel => exact ⟨rfl, hb1⟩
        · rw [if_neg hz] at hnb'
          subst hnb'
          have z1 : decide (la > 0) = true := by simp; omega
          go_wp2_with fail
          go_meet
          case rel => exact ⟨rfl, hb1⟩
      case rest =>
        have hnbr : 1 ≤ nb ∧ nb ≤ 1152921504606846978 := by rw [hnb']; split <;> omega
        clear hb1 c2 d1 d2 d3 hnb'
        obtain ⟨rfl, hb⟩ := hcut.out
        clear hcut
        have hR := hH.out.below hb
        have hhead := hR.head
        have hrow := hR.row
        have c0 := hR.cell0
        have hpl := lt_of_heap hhead
        have c0a := fun ob => (cell_alloc (w := wc) (o := ob) (a := ⟨p, 0, none⟩) hpl).trans c0
        have hsp : rv.ownBlock ≠ some p := fun e => by have := (List.nodup_cons.1 hR.nodup).1; exact this (List.mem_append.2 (.inl (by simp [e])))
        obtain ⟨i0, hi0, hz0, hz1, hz2⟩ := info_parts infoR
        go_wp2_with (at_builtin; refine wpList_append_lies _ rfl _ _ 36 rfl 0 39 i0 (.agg #[.int .i64 0, .int .i64 0]) 2 16 Try.underlying36 hi0 hz0 hz1 hz2 rfl (by decide) _ _ _ rfl (hrow.alloc _) _ 1 1 [.int .i64 nb, .int .i64 k] rfl rfl (two_new _ _ _ _) ?c3 (by omega) ?c4 ?c5 (Nat.zero_le _) _ rfl ?_)
        case c3 => intro u hu; simp only [List.mem_cons, List.not_mem_nil, or_false] at hu; obtain rfl | rfl := hu <;> rfl
        case c4 => unfold maxLen; omega
        case c5 => omega
        intro g cap w2 hown' hgrow hat hlt
        have hh2 : w2.heap[p]? = some (.cells #[rv, wv, .int .i64 la] 56 (0, 0)) := (hgrow.block p (by simp; omega) (fun e => hsp e.symm)).trans ((Below.heap_alloc _ _ _ hpl).trans hhead)
        have v0 : w2.cell? ⟨p, 0, none⟩ = some rv := by rw [cell_of_row w2 p 0 _ _ _ hh2]; rfl
        have vf : w2.frozen? ⟨p, 0, none⟩ = false := frozen_of_row w2 p 0 _ _ hh2
        have HTA := Hid.mk (rta_mk hH.out hb hown' hgrow hat)
        clear hown' hgrow hat hh2 hrow hR hhead c0 c0a
        go_upto_region 7 with (fail)
        obtain ⟨W3, hW3⟩ : ∃ W3, w2.setCell ⟨p, 0, none⟩ (.slice (some ⟨g, 0, none⟩) (ls.length + 1) cap) = W3 := ⟨_, rfl⟩
        rw [hW3] at HTA ⊢
        clear hW3 v0 vf
        go_cut [] (fun W => Hid (RTb w p la rv wv ls nb k W))
        case first =>
          obtain ⟨g3, c3, hh3, -, ht3, -, -, -⟩ := HTA.out
          have y1 : W3.cell? ⟨p, 1, none⟩ = some wv := by rw [cell_of_row W3 p 1 _ _ _ hh3]; rfl
          have hp3 := lt_of_heap hh3
          have y1a := fun ob => (cell_alloc (w := W3) (o := ob) (a := ⟨p, 1, none⟩) hp3).trans y1
          have y1b := fun ob ob' => (cell_alloc (w := W3.alloc ob) (o := ob') (a := ⟨p, 1, none⟩) (by simp; omega)).trans (y1a ob)
          have hmk := makeV k hk2
          have hswp : wv.ownBlock ≠ some p := fun e => by have := (List.nodup_cons.1 hH.out.nodup).1; exact this (List.mem_append.2 (.inr (List.mem_append.2 (.inl (by simp [e])))))
          have HR := Hid.mk ht3
          have HHH := Hid.mk hh3
          clear ht3 hh3
          obtain ⟨i0, hi, hz0, hz1, hz2⟩ := info_parts infoS
          go_region_law (refine step_append_lies _ (by rfl) _ _ _ (by rfl) 0 62 i0 _ 1 24 Try.underlying54 hi hz0 hz1 hz2 rfl (by omega) wv ls.length (ls.map LReg.sl) (by rfl) (((HR.out.alloc _).alloc _).drew) ⟨W3.heap.size + 1, 0, none⟩ 1 1 [.slice (some ⟨W3.heap.size, 0, none⟩) k k] (by rfl) (by rfl) (by intro j u hu; have := one_new (W3.alloc (.cells (madeCells #[Value.int .i64 0, .int .i64 0] (k * 2)) 29)) (.slice (some ⟨W3.heap.size, 0, none⟩) k k) 62 j u hu; simpa using this) (by simp [Value.oneCell']) (by omega) (by unfold maxLen; omega) (by omega) (Nat.zero_le _) (W3.heap.size + 2) (by simp) ?_; intro gg cap w5 hown5 hgrow5 hat5 hlt5; have hh5 : w5.heap[p]? = some (.cells #[.slice (some ⟨g3, 0, none⟩) (ls.length + 1) c3, wv, .int .i64 la] 56 (0, 0)) := (hgrow5.block p (by simp; omega) (fun e => hswp e.symm)).trans ((Below.heap_alloc _ _ _ (by simp; omega)).trans ((Below.heap_alloc _ _ _ hp3).trans HHH.out)); have v1 : w5.cell? ⟨p, 1, none⟩ = some wv := (by rw [cell_of_row w5 p 1 _ _ _ hh5]; rfl); have vf : w5.frozen? ⟨p, 1, none⟩ = false := frozen_of_row w5 p 1 _ _ hh5)
          all_goals
            go_wp2_with fail
            go_meet
            case rel => exact rtb_mk hH.out hk2 HTA.out hown5 hgrow5 hat5
        case rest =>
          clear HTA
          have hh4 := hcut.out
          obtain ⟨g3, c3, g4, c4, G, hh3, -⟩ := hh4
          have v2 : wc.cell? ⟨p, 2, none⟩ = some (.int .i64 la) := by rw [cell_of_row wc p 2 _ _ _ hh3]; rfl
          have vf : wc.frozen? ⟨p, 2, none⟩ = false := frozen_of_row wc p 2 _ _ hh3
          have w2 : IntKind.i64.wrap (nb + (k : Int)) = nb + k := by rw [IntKind.wrap_i64]; omega
          have w3 : IntKind.i64.wrap (nb + (k : Int) - 1) = nb + k - 1 := by rw [IntKind.wrap_i64]; omega
          have HF := hcut
          clear hcut hh3
          go_wp2_with fail
          go_ret2
          refine ⟨?_, rfl⟩
          have hF := HF.out
          rw [← HLA.out] at hF hH
          have := HNB.out
          subst this
          exact rtc_mk hH.out HO.out HWD.out HRR.out HGS.out hkk.1 hk2 hkk.2 (by rw [HLA.out]; exact hl) hF
end
end Go.Proofs.Ytkooogllajmkeaa
/- The document's Let: the plain part. -/
namespace Go.Proofs.Ytkooogllajmkeaa
open Go.RowKit
section
variable {w : World} {p : Nat} {last : Int} {rv wv : Value} {ls : List LReg}
theorem let_at {S : Sp} (hr : S.regs = ls.map LReg.reg) {a : Int} {i : Nat} (hi : i < ls.length) (ha : ls[i].base = a) (hno : ∀ j (hj : j < ls.length), j < i → ls[j].base ≠ a) : S.let_ a = (0, { S with regs := (ls.eraseIdx i).map LReg.reg }) := by
  have hf : S.regs.findIdx? (fun r => r.base == a) = some i := by
    rw [hr, List.findIdx?_eq_some_iff_getElem]
    refine ⟨by simpa using hi, by simpa [LReg.reg] using ha, fun j hj => ?_⟩
    simpa [LReg.reg] using hno j (by omega) hj
  unfold Sp.let_
  rw [hf]
  simp only [hr, map_erase]
theorem let_none {S : Sp} (hr : S.regs = ls.map LReg.reg) {a : Int} (hno : ∀ j (hj : j < ls.length), ls[j].base ≠ a) : S.let_ a = (211, S) := by
  have hf : S.regs.findIdx? (fun r => r.base == a) = none := by
    rw [hr, List.findIdx?_eq_none_iff]
    intro x hx
    obtain ⟨y, hy, rfl⟩ := List.mem_map.1 hx
    obtain ⟨j, hj, rfl⟩ := List.getElem_of_mem hy
    simpa [LReg.reg] using hno j hj
  unfold Sp.let_
  rw [hf]
theorem gcells_app (l1 l2 : List LReg) : gcells (l1 ++ l2) = gcells l1 ++ gcells l2 := by simp [gcells]
theorem gcells_erase (i : Nat) : gcells (ls.eraseIdx i) = gcells (ls.take i) ++ gcells (ls.drop (i + 1)) := by rw [List.eraseIdx_eq_take_drop_succ, gcells_app]
theorem sl_erase (i : Nat) : (ls.eraseIdx i).map LReg.sl = (ls.take i).map LReg.sl ++ (ls.drop (i + 1)).map LReg.sl := by rw [List.eraseIdx_eq_take_drop_succ, List.map_append]
theorem words_erase (hw : Words ls) (i : Nat) : Words (ls.eraseIdx i) := fun r hr v hv => hw r (List.mem_of_mem_eraseIdx hr) v hv
theorem gcells_one : ∀ v ∈ gcells ls, v.oneCell' = true := by
  intro v hv
  simp only [gcells, gcell, List.mem_flatMap, List.mem_cons, List.not_mem_nil, or_false] at hv
  obtain ⟨r, _, rfl | rfl⟩ := hv <;> rfl
theorem sl_one : ∀ v ∈ ls.map LReg.sl, v.oneCell' = true := by
  intro v hv
  obtain ⟨r, _, rfl⟩ := List.mem_map.1 hv
  rfl
/-- the row of regions: its block, its room, its cells -/
theorem RAt.rrow (h : RAt w p last rv wv ls) (hn : 0 < ls.length) : ∃ B c, rv = .slice (some ⟨B, 0, none⟩) ls.length c ∧ ls.length ≤ c ∧ B < w.heap.size ∧ ∀ j u, (gcells ls)[j]? = some u → w.cell? ⟨B, j, none⟩ = some u := by
  have hr := h.row
  rcases h.row.2 with ⟨rfl, h0⟩ | ⟨B, cap, cur, rfl, _, hg, hc, _⟩
  · omega
  · exact ⟨B, cap, rfl, hc, lt_of_heap hg, fun j u hu => row_cell hr hu⟩
theorem RAt.trow (h : RAt w p last rv wv ls) (hn : 0 < ls.length) : ∃ B c, wv = .slice (some ⟨B, 0, none⟩) ls.length c ∧ ls.length ≤ c ∧ B < w.heap.size ∧ ∀ j u, (ls.map LReg.sl)[j]? = some u → w.cell? ⟨B, j, none⟩ = some u := by
  have hr := h.tab
  rcases h.tab.2 with ⟨rfl, h0⟩ | ⟨B, cap, cur, rfl, _, hg, hc, _⟩
  · omega
  · exact ⟨B, cap, rfl, hc, lt_of_heap hg, fun j u hu => row_cell hr hu⟩
theorem gcells_take_at {i j : Nat} {u : Value} (h : (gcells (ls.take i))[j]? = some u) : (gcells ls)[j]? = some u := by
  have e : gcells ls = gcells (ls.take i) ++ gcells (ls.drop i) := by rw [← gcells_app, List.take_append_drop]
  rw [e, List.getElem?_append_left (List.getElem?_eq_some_iff.1 h).1]
  exact h
theorem gcells_drop_at {i j : Nat} {u : Value} (hi : i ≤ ls.length) (h : (gcells (ls.drop i))[j]? = some u) : (gcells ls)[i * 2 + j]? = some u := by
  have e : gcells ls = gcells (ls.take i) ++ gcells (ls.drop i) := by rw [← gcells_app, List.take_append_drop]
  have hl : (gcells (ls.take i)).length = i * 2 := by rw [gcells_len, List.length_take, Nat.min_eq_left hi]
  rw [e, List.getElem?_append_right (by omega), hl, show i * 2 + j - i * 2 = j by omega]
  exact h
end
end Go.Proofs.Ytkooogllajmkeaa
