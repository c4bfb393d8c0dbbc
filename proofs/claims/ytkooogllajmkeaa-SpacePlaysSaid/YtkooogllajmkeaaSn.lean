/- Have both spaces of a play (layer 21) the same? -/
import Derived.Test.YtkooogllajmkeaaDd
namespace Go.Proofs.Ytkooogllajmkeaa
open Go.RowKit
set_option pp.deepTerms true
attribute [local go_sem ↓] Go.wp_at_zero Go.wp_at_succ
section
variable {w W : World} {q p pr : Nat} {S : Sp}
theorem Two.ok (h : Two w p pr S S [(q, plo p pr)] W) : ∃ ls, S.regs = ls.map LReg.reg ∧ RegsOk S.last ls := by
  obtain ⟨fs, gs, h1, -⟩ := h
  exact spc_reg h1
theorem Two.q1 (h : Two w p pr S S [(q, plo p pr)] W) : W.cell? ⟨q, 0, none⟩ = some (.pointer (some ⟨p, 0, none⟩)) ∧ W.cell? ⟨q, 1, none⟩ = some (.pointer (some ⟨pr, 0, none⟩)) := ⟨h.box (List.Mem.head _) rfl, h.box (List.Mem.head _) rfl⟩
theorem tells_few (h : ∃ ls, S.regs = ls.map LReg.reg ∧ RegsOk S.last ls) : (tells S.regs).length ≤ 4194304 ∧ total S.regs ≤ 4194304 ∧ ∀ i (hi : i < (tells S.regs).length), 1 ≤ (tells S.regs)[i].1 ∧ 1 ≤ (tells S.regs)[i].2 ∧ (tells S.regs)[i].2 ≤ 1048576 ∧ (tells S.regs)[i].1 ≤ 2305843009213693952 := by
  obtain ⟨ls, hr, ok⟩ := h
  refine ⟨by rw [hr]; simpa [tells] using ok.count, by rw [hr, total_map]; exact ok.live, fun i hi => ?_⟩
  have hi' : i < ls.length := by rw [hr] at hi; simpa [tells] using hi
  have := ok.lo _ (List.getElem_mem hi')
  have hl := ok.last1
  simp only [hr, tells, List.getElem_map, LReg.reg]
  omega
set_option maxRecDepth 100000 in
set_option maxHeartbeats 4000000 in
theorem same21_any (h : Two w p pr S S [(q, plo p pr)] W) : Calls Try.prog 22 #[.pointer (some ⟨q, 0, none⟩)] W fun e w' => e = .returned (.bool true) ∧ Two w p pr S S [(q, plo p pr)] w' ∧ Below W.heap.size W w' := by
  obtain ⟨f1, f2, f3⟩ := tells_few h.ok
  have x := h.q1
  obtain ⟨x1, x2⟩ := x
  obtain ⟨l, hl⟩ : ∃ l, tells S.regs = l := ⟨_, rfl⟩
  rw [hl] at f1 f3
  obtain ⟨tt, htt⟩ : ∃ tt, total S.regs = tt := ⟨_, rfl⟩
  rw [htt] at f2
  have HT := Hid.mk htt
  have HF3 := Hid.mk f3
  have HL := Hid.mk hl
  clear htt f3 hl
  go_enter Try.func22, Try.ntmps22
  go_wp2_with fail
  refine (regions_two h).mono ?_
  rintro e w1 ⟨hx, hb, v, hv, rfl⟩
  rw [HL.out] at hv
  clear h x1 x2
  obtain ⟨x1, x2⟩ := hx.q1
  obtain ⟨rv, r1, hrv⟩ := hx.rrow
  rw [HL.out] at hrv
  have b0 := hx.keep (Below.refl _ _).drew
  have hdr : Below w1.heap.size w1 w1.drew := (Below.refl _ _).drew
  have hv0 := hv.below hdr
  have hrv0 := hrv.below hdr
  have hdec : decide (l = l) = true := by simp
  obtain ⟨n, hn⟩ : ∃ n, l.length = n := ⟨_, rfl⟩
  obtain ⟨av, cv, rfl⟩ := hv.shape
  rw [hn] at hv hv0
  rw [hn]
  have HN := Hid.mk hn
  obtain ⟨rav, rcv, rfl⟩ := hrv.shape
  have HRV0 := Hid.mk hrv0
  clear hn hrv hrv0
  go_upto_region 2 with (fail)
  go_cut [33] (fun t W' => Hid (t = .bool false ∧ Two w p pr S S [(q, plo p pr)] W' ∧ Rd W' (.slice av n cv) l ∧ Below W.heap.size W W'))
  case first =>
    go_region_held3 (fun W' => W'.cell? ⟨q, 0, none⟩ = some (.pointer (some ⟨p, 0, none⟩)) ∧ W'.cell? ⟨q, 1, none⟩ = some (.pointer (some ⟨pr, 0, none⟩)) ∧ W'.cell? ⟨pr, 0, none⟩ = some (.slice rav l.length rcv)) (first | exact s3 | exact s2 | exact s1 | exact ⟨x1, x2, r1⟩) (first | (go_at_call 27; refine (same_Same21 hv0 HRV0.out f1).mono ?_; rintro e wx ⟨hbx, rfl⟩;  have k1 := b0.keep hbx; have R1 := hv0.below hbx; have s1 := And.intro k1.q1.1 (And.intro k1.q1.2 ((hbx.cell (cell_lt r1)).trans r1))) | (go_at_call 16; refine (live_two (w := w) (pr := pr) (S := S) (R := S) (E := [(q, plo p pr)]) ?_).mono ?_; exact k1; rintro e wy ⟨k2, hby, rfl⟩; have R2 := R1.below hby; have s2 := And.intro k2.q1.1 (And.intro k2.q1.2 ((hby.cell (cell_lt s1.2.2)).trans s1.2.2))) | (go_at_call 58; refine (rlive_two (w := w) (p := p) (S := S) (R := S) (E := [(q, plo p pr)]) ?_).mono ?_; exact k2; rintro e wz ⟨k3, hbz, rfl⟩; have R3 := R2.below hbz; have s3 := And.intro k3.q1.1 (And.intro k3.q1.2 ((hbz.cell (cell_lt s2.2.2)).trans s2.2.2))))
    all_goals
      have HK := Hid.mk (And.intro k3 (And.intro R3 (hb.trans (((undrew hbx).trans ((hby.trans (hbz.mono hby.size)).mono (undrew hbx).size)).mono hb.size))))
      clear k1 k2 k3 R1 R2 R3 s1 s2 s3 hbx hby hbz
      go_wp2_with fail
      go_meet
      case rel => exact ⟨by simp, HK.out⟩
  case rest =>
    obtain ⟨rfl, HKR⟩ := hcut.out
    clear hcut x1 x2 r1 b0 hdr hv0 hv hx HRV0
    have hn : n ≤ 4194304 := by rw [← HN.out]; exact f1
    go_wp2_with fail
    go_loopw [36] (fun i wr => ∃ k : Nat, i = .int .i64 k ∧ k ≤ n ∧ Hid (Two w p pr S S [(q, plo p pr)] wr ∧ Rd wr (.slice av n cv) l ∧ Below W.heap.size W wr)) (fun i _ => n - (intOf i).toNat)
    case atStart => exact ⟨0, rfl, by omega, HKR⟩
    case round =>
      clear HKR
      obtain ⟨k, rfl, hk, HX⟩ := hrel
      by_cases hlt : k < n
      · have h1 : k < l.length := by rw [HN.out]; exact hlt
        obtain ⟨g1, g2, g3, g4⟩ := HF3.out k h1
        obtain ⟨y1, hy1⟩ : ∃ y1, l[k].1 = y1 := ⟨_, rfl⟩
        obtain ⟨y2, hy2⟩ : ∃ y2, l[k].2 = y2 := ⟨_, rfl⟩
        obtain ⟨ba, oa, ca, ev, -⟩ := HX.out.2.1.some (by omega)
        rw [HN.out] at ev
        simp only [Value.slice.injEq, true_and] at ev
        obtain ⟨rfl, rfl⟩ := ev
        have HC : Hid (∀ W', Rd W' (.slice (some ⟨ba, oa, none⟩) n cv) l → W'.cell? ⟨ba, oa + k * 2, none⟩ = some (.int .i64 y1) ∧ W'.cell? ⟨ba, oa + k * 2 + 1, none⟩ = some (.int .i64 y2)) := by
          intro W' hR
          obtain ⟨b', o', c', ev, hb', hc'⟩ := hR.some (by omega)
          simp only [Value.slice.injEq, Option.some.injEq, Addr.mk.injEq, and_true] at ev
          obtain ⟨⟨rfl, rfl⟩, _, _⟩ := ev
          have := hc' k h1
          rw [hy1, hy2] at this
          exact this
        rw [hy1] at g1 g4
        rw [hy2] at g2 g3
        clear hy1 hy2 h1
        go_wp2_with fail
        go_loopw [5] (fun j ws => ∃ m : Nat, j = .int .i64 ((m : Int) - 1) ∧ (m : Int) ≤ y2 + 2 ∧ Hid (Two w p pr S S [(q, plo p pr)] ws ∧ Rd ws (.slice (some ⟨ba, oa, none⟩) n cv) l ∧ Below W.heap.size W ws)) (fun j _ => (y2 + 2 - (intOf j + 1)).toNat)
        case atStart => exact ⟨0, rfl, by omega, HX⟩
        case round =>
          clear HX
          obtain ⟨m, rfl, hm, HX⟩ := hrel
          obtain ⟨d1, d2⟩ := HC.out _ HX.out.2.1
          by_cases hmy : (m : Int) - 1 ≤ y2
          · have w1 : IntKind.i64.wrap (y1 + ((m : Int) - 1)) = y1 + ((m : Int) - 1) := by rw [IntKind.wrap_i64]; omega
            have w2 : IntKind.i64.wrap ((m : Int) - 1 + 1) = ((m + 1 : Nat) : Int) - 1 := by rw [IntKind.wrap_i64]; omega
            go_wp2_with fail
            refine (do3_any HX.out.1 0 (y1 + ((m : Int) - 1)) 0 0 0 ⟨by omega, by omega⟩).mono ?_
            rintro e w3 ⟨⟨rfl, hk3⟩, hb3⟩
            have HY := Hid.mk (And.intro hk3 (And.intro (HX.out.2.1.below hb3) (HX.out.2.2.trans (hb3.mono HX.out.2.2.size))))
            clear HX hk3 hb3 d1 d2 w1
            go_wp2_with fail
            exact ⟨⟨m + 1, by first | rfl | simp, by omega, HY⟩, by simp [intOf]; omega⟩
          · have w1 : decide ((m : Int) - 1 ≤ y2) = false := by simp; omega
            go_wp2_with fail
            exact ⟨⟨k + 1, by go_num, by omega, HX⟩, by simp [intOf]; omega⟩
      · obtain rfl : k = n := by omega
        go_wp2_with fail
        go_ret
        exact ⟨rfl, HX.out.1, HX.out.2.2⟩
end
end Go.Proofs.Ytkooogllajmkeaa
