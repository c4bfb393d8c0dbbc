/- Parts Xp Xs, put together. -/
import Derived.Test.YtpfnnmcokbolhaaMe11
import Derived.Outline
import Derived.LoopN
import Derived.Deep.DeepCutAuto
import Derived.Deep.CutBlock
/- A chain's Get. -/
namespace Go.Proofs.Ytpfnnmcokbolhaa
open Go.RowKit
set_option pp.deepTerms true
def inR (r : Int × Int) (a : Int) : Bool := decide (r.1 ≤ a) && decide (a < r.1 + r.2)
theorem inL_some {l : List (Int × Int)} {a : Int} {j : Nat} (hj : j < l.length) (h : inR l[j] a = true) : inL l a = true := List.any_eq_true.2 ⟨_, List.getElem_mem hj, h⟩
theorem inL_none {l : List (Int × Int)} {a : Int} (h : ∀ j (hj : j < l.length), inR l[j] a = false) : inL l a = false := by
  unfold inL
  rw [List.any_eq_false]
  intro r hr
  obtain ⟨j, hj, rfl⟩ := List.getElem_of_mem hr
  exact fun q => by have := h j hj; unfold inR at this; rw [this] at q; cases q
/-- two boxes of values, in a world behind them -/
theorem two_box {W X : World} {u1 u2 v1 v2 : Value} {T1 T2 : TypeId} (h : Below ((W.alloc (.cells #[u1, u2] T1)).alloc (.cells #[v1, v2] T2)).heap.size ((W.alloc (.cells #[u1, u2] T1)).alloc (.cells #[v1, v2] T2)) X) :
    X.cell? ⟨W.heap.size, 0, none⟩ = some u1 ∧ X.cell? ⟨W.heap.size, 1, none⟩ = some u2 ∧ X.cell? ⟨W.heap.size + 1, 0, none⟩ = some v1 ∧ X.cell? ⟨W.heap.size + 1, 1, none⟩ = some v2 ∧ (∀ j, X.frozen? ⟨W.heap.size + 1, j, none⟩ = false) ∧ W.heap.size + 1 < X.heap.size ∧ Below W.heap.size W X := by
  have B1 := below_at h ((Below.heap_alloc _ _ _ (by simp)).trans (heap_alloc_new W (.cells #[u1, u2] T1))) (by simp; omega)
  have B2' := heap_alloc_new (W.alloc (.cells #[u1, u2] T1)) (.cells #[v1, v2] T2)
  simp only [World.size_alloc] at B2'
  have B2 := below_at h B2' (by simp)
  have hA : Below W.heap.size W ((W.alloc (.cells #[u1, u2] T1)).alloc (.cells #[v1, v2] T2)) := ((Below.refl _ _).alloc (Nat.le_refl _) _).alloc (by simp) _
  exact ⟨by rw [cell_of_row _ _ 0 _ _ _ B1]; rfl, by rw [cell_of_row _ _ 1 _ _ _ B1]; rfl, by rw [cell_of_row _ _ 0 _ _ _ B2]; rfl, by rw [cell_of_row _ _ 1 _ _ _ B2]; rfl, fun j => frozen_of_row _ _ j _ _ B2, lt_of_heap B2, hA.trans (h.mono hA.size)⟩
section
variable {w W : World} {F : List Asr} {b p k g c : Nat} {sz ca : Int} {C : Ch} {x : Value × Fr} {l : List (Value × Fr)}
set_option maxRecDepth 100000 in
set_option maxHeartbeats 2000000 in
theorem cget_T (h : ChT w W b p k g c x l (spA p C.S :: lkA k p sz ca C.L :: F)) (hF : C.F = x.2 :: l.map Prod.snd) (ok : ChOk C) (pv : Int × Int) : Calls Try.prog 20 #[.pointer (some ⟨b, 0, none⟩), .agg #[.int .i64 pv.1, .int .i64 pv.2]] W fun e w' => ChT w w' b p k g c x l (spA p C.S :: lkA k p sz ca C.L :: F) ∧ Below W.heap.size W w' ∧ e = .returned (.tuple #[.agg #[.int .i64 (getC C pv).1.1, .int .i64 (getC C pv).1.2], .int .i64 (getC C pv).2]) := by
  obtain ⟨t, a⟩ := pv
  have hl : l.length ≤ 1000 := by have := ok.few; rw [hF] at this; simp at this; omega
  have hA : Below W.heap.size W ((W.alloc (.cells #[.int .i64 t, .int .i64 a] 34)).alloc (.cells #[.int .i64 0, .int .i64 0] 34)) := ((Below.refl _ _).alloc (Nat.le_refl _) _).alloc (by simp) _
  have HT := Hid.mk (ctop_some (h.keep hA) hl)
  have H0 := Hid.mk (fun W' (q : Below W.heap.size W W') => h.keep q)
  have hwd := ok.wide
  have hlv := ok.live
  have HL : Hid (∀ {W' : World}, Below W.heap.size W W' → Calls Try.prog 51 #[.pointer (some ⟨k, 0, none⟩)] W' fun e w' => ∃ ao c, e = .returned (.slice ao C.L.live.length c) ∧ Rd w' (.slice ao C.L.live.length c) C.L.live ∧ Below W'.heap.size W' w') := fun {W'} q => by
    refine (live_sep (F := F ++ _) (h.keep q).out ok.live).mono ?_
    rintro e w' ⟨ao, c, rfl, h1, h2⟩
    exact ⟨ao, c, rfl, Rd.of_row (h1.owns (List.Mem.head _)) rfl, h2⟩
  have HG : Hid (∀ {W' : World}, Below W.heap.size W W' → Calls Try.prog 53 #[.pointer (some ⟨p, 0, none⟩), .int .i64 a] W' fun e w' => Below W'.heap.size W' w' ∧ e = .returned (.tuple #[.agg #[.int .i64 (C.S.get a).1.1, .int .i64 (C.S.get a).1.2], .int .i64 (C.S.get a).2])) := fun {W'} q => (get_T (h.keep q) a).mono (fun e w' r => ⟨r.2.1, r.2.2⟩)
  have hK : W.cell? ⟨b, 0, none⟩ = some (.pointer (some ⟨p, 0, none⟩)) ∧ W.cell? ⟨b, 1, none⟩ = some (.pointer (some ⟨k, 0, none⟩)) := ⟨h.k0, h.k1⟩
  obtain ⟨n, hn⟩ : ∃ n, C.L.live.length = n := ⟨_, rfl⟩
  obtain ⟨⟨⟨r1, r2⟩, r3⟩, hr⟩ : ∃ r, getC C (t, a) = r := ⟨_, rfl⟩
  rw [hr]
  unfold getC at hr
  rw [hF] at hr
  simp only at hr
  rw [hn] at HL
  have HN := Hid.mk hn
  have HHr := Hid.mk hr
  have HA := Hid.mk hA
  have hbA : (⟨W.heap.size, 0, none⟩ : Addr).block < W.heap.size + 2 := by simp
  have HW : Hid (∀ r ∈ C.L.live, 0 ≤ r.1 ∧ r.1 ≤ 1152921504606846976 ∧ 0 ≤ r.2 ∧ r.2 ≤ 1048576) := fun r q => hwd r (List.mem_append.2 (.inl q))
  clear h hF hr hn hA hwd ok hl
  go_enter Try.func20, Try.ntmps20
  go_wp2_with fail
  refine wp_scope_straight ?_
  go_wp2_with fail
  refine HT.out.mono ?_
  rintro e w1 ⟨-, hb1, rfl⟩
  have hB1 := HA.out.trans (hb1.mono HA.out.size)
  have k1 := keep_be hB1 hK.2
  have HB1 := Hid.mk hB1
  have HB1' := Hid.mk hb1
  clear HT hB1 hb1
  go_wp2_with fail
  refine wp_label ?_
  go_wp2_with fail
  refine (HL.out HB1.out).mono ?_
  rintro e w2 ⟨ao, cc, rfl, hrd, hb2⟩
  have HB2 := Hid.mk (HB1'.out.trans (hb2.mono HB1'.out.size))
  have HRD := Hid.mk hrd
  clear HB1 HB1' hb2 HL hrd k1
  go_upto_block 0 with (fail)
  go_cut [8] (fun v X => Hid (v = .bool (inL C.L.live a) ∧ Below ((W.alloc (.cells #[.int .i64 t, .int .i64 a] 34)).alloc (.cells #[.int .i64 0, .int .i64 0] 34)).heap.size ((W.alloc (.cells #[.int .i64 t, .int .i64 a] 34)).alloc (.cells #[.int .i64 0, .int .i64 0] 34)) X))
  case first =>
    rcases Nat.eq_zero_or_pos n with h0 | h0
    · subst h0
      have e0 : C.L.live = [] := List.eq_nil_of_length_eq_zero HN.out
      have HE : Hid (inL C.L.live a = false) := by rw [e0]; rfl
      clear e0 HRD HG HHr HW H0
      go_wp2_with fail
      refine wp_loop_rounds 1 ?_; rw [rounds_succ]
      go_wp2_with fail
      go_meet
      case rel => exact ⟨by rw [HE.out], HB2.out⟩
    · obtain ⟨rb, ro, cc', e, hrb, hc⟩ := HRD.out.some (by have := HN.out; omega)
      rw [HN.out] at e
      simp only [Value.slice.injEq, true_and] at e
      obtain ⟨rfl, rfl⟩ := e
      clear HRD HG HHr H0
      go_wp2_with fail
      go_loopw [8, 10, 28] (fun v _ i wr => ∃ j : Nat, i = .int .i64 j ∧ j ≤ n ∧ v = .bool false ∧ Hid (∀ q (hq : q < C.L.live.length), q < j → inR C.L.live[q] a = false) ∧ Hid (Below w2.heap.size w2 wr)) (fun _ _ i _ => n - (intOf i).toNat)
      case atStart => exact ⟨0, rfl, by omega, rfl, fun q _ hq => absurd hq (by omega), Below.refl _ _⟩
      case round =>
        obtain ⟨j, rfl, hj, rfl, hno, hbl⟩ := hrel
        by_cases hlt : j < n
        · have hj' : j < C.L.live.length := by have := HN.out; omega
          have hw9 := HW.out _ (List.getElem_mem hj')
          obtain ⟨rr, hrr⟩ : ∃ rr, C.L.live[j] = rr := ⟨_, rfl⟩
          have c0 := (hbl.out.cell (p := ⟨rb, ro + j * 2, none⟩) hrb).trans (hc j hj').1
          have c1 := (hbl.out.cell (p := ⟨rb, ro + j * 2 + 1, none⟩) hrb).trans (hc j hj').2
          rw [hrr] at c0 c1 hw9
          obtain ⟨ra, rw9⟩ := rr
          simp only at c0 c1 hw9
          have hbX := HB2.out.trans (hbl.out.mono HB2.out.size)
          obtain ⟨d0, d1, -, -, -, hlt9, -⟩ := two_box hbX
          have HBX := Hid.mk (hbl.out.alloc hbl.out.size (.cells #[.int .i64 ra, .int .i64 rw9] 88))
          have HIN : Hid (inR C.L.live[j] a = (decide (ra ≤ a) && decide (a < ra + rw9))) := by rw [hrr]; rfl
          have a1 := alloc_cell (o := .cells #[.int .i64 ra, .int .i64 rw9] 88) d1
          have hw1 : IntKind.i64.wrap (ra + rw9) = ra + rw9 := by rw [IntKind.wrap_i64]; omega
          have HNX : Hid ((decide (ra ≤ a) && decide (a < ra + rw9)) = false → ∀ q (hq : q < C.L.live.length), q < j + 1 → inR C.L.live[q] a = false) := fun hf q hq hqj => by
            rcases Nat.lt_or_ge q j with r | r
            · exact hno.out q hq r
            · obtain rfl : q = j := by omega
              rw [HIN.out, hf]
          have HYS : Hid ((decide (ra ≤ a) && decide (a < ra + rw9)) = true → inL C.L.live a = true) := fun ht => inL_some hj' (by rw [HIN.out, ht])
          clear hc hrb hrr hbX hno hbl HW
          by_cases q1 : ra ≤ a
          · have z1 : decide (a ≥ ra) = true := by simpa using q1
            by_cases q2 : a < ra + rw9
            · have z2 : decide (a < ra + rw9) = true := by simpa using q2
              have HY := Hid.mk (HYS.out (by simp [q1, q2]))
              clear q1 q2 HYS HNX
              go_wp2_with fail
              go_meet
              case rel => exact ⟨by rw [HY.out], HB2.out.trans (HBX.out.mono HB2.out.size)⟩
            · have z2 : decide (a < ra + rw9) = false := by simpa using q2
              have HY := Hid.mk (HNX.out (by simp [q2]))
              clear q1 q2 HYS HNX
              go_wp2_with fail
              exact ⟨⟨j + 1, by go_num, by omega, rfl, HY.out, HBX.out⟩, by simp [intOf]; omega⟩
          · have z1 : decide (a ≥ ra) = false := by simpa using q1
            have HY := Hid.mk (HNX.out (by simp [q1]))
            clear q1 HYS HNX
            go_wp2_with fail
            exact ⟨⟨j + 1, by go_num, by omega, rfl, HY.out, HBX.out⟩, by simp [intOf]; omega⟩
        · obtain rfl : j = n := by omega
          have HE : Hid (inL C.L.live a = false) := inL_none (fun q hq => hno.out q hq (by have := HN.out; omega))
          go_wp2_with fail
          go_meet
          case rel => exact ⟨by rw [HE.out], HB2.out.trans (hbl.out.mono HB2.out.size)⟩
  case rest =>
    obtain ⟨rfl, hX⟩ := hcut.out
    clear hcut HB2 HRD HW HN
    obtain ⟨d0, d1, -, -, -, -, hXW⟩ := two_box hX
    have k0 := keep_be hXW hK.1
    obtain ⟨⟨⟨y1, y2⟩, ey⟩, hy⟩ : ∃ r, C.S.get a = r := ⟨_, rfl⟩
    rw [hy] at HHr HG
    simp only at HHr HG
    have hlt : b ≠ wc.heap.size := Nat.ne_of_lt (cell_lt k0)
    have hlt1 : W.heap.size ≠ wc.heap.size := Nat.ne_of_lt (cell_lt d1)
    have hA9 : Below W.heap.size W (wc.alloc (.cells #[.int .i64 0, .int .i64 0] 34)).drew := (hXW.alloc hXW.size _).drew
    clear hy
    apply_assumption
    go_wp2_with fail
    go_region_held3 (fun X => X.cell? ⟨b, 0, none⟩ = some (.pointer (some ⟨p, 0, none⟩)) ∧ X.cell? ⟨W.heap.size, 1, none⟩ = some (.int .i64 a)) (first | exact s9 | exact ⟨alloc_cell s9.1, alloc_cell s9.2⟩ | exact ⟨keep_set (keep_set s9.1 hlt) hlt, keep_set (keep_set s9.2 hlt1) hlt1⟩ | exact ⟨k0, d1⟩ | exact ⟨alloc_cell k0, alloc_cell d1⟩) (first | (go_at_call 53; refine (HG.out (W' := wc.drew) hXW.drew).mono ?_; rintro e w3 ⟨hb3, rfl⟩; have s9 := And.intro (keep_dr hb3 k0) (keep_dr hb3 d1); have hb13 := hX.trans ((undrew hb3).mono hX.size)) | (go_at_call 53; refine (HG.out hA9).mono ?_; rintro e w3 ⟨hb3, rfl⟩; have s9 := And.intro (keep_dr hb3 (alloc_cell k0)) (keep_dr hb3 (alloc_cell d1)); have hb13 := hX.trans (((Below.refl wc.heap.size wc).alloc (Nat.le_refl _) (.cells #[.int .i64 0, .int .i64 0] 34)).trans ((undrew hb3).mono (by simp))|>.mono hX.size); have B3 := below_at (undrew hb3) (heap_alloc_new wc _) (by simp); have t0 : w3.cell? ⟨wc.heap.size, 0, none⟩ = some (.int .i64 0) := (by rw [cell_of_row _ _ 0 _ _ _ B3]; rfl); have t1 : w3.cell? ⟨wc.heap.size, 1, none⟩ = some (.int .i64 0) := (by rw [cell_of_row _ _ 1 _ _ _ B3]; rfl); have z0 := frozen_of_row _ _ 0 _ _ B3; have z1 := frozen_of_row _ _ 1 _ _ B3))
    · obtain ⟨Wf, hWf⟩ : ∃ Wf, Wf = w3.alloc (.cells #[.int .i64 y1, .int .i64 y2] 34) := ⟨_, rfl⟩
      have hXf := hb13.alloc hb13.size (.cells #[.int .i64 y1, .int .i64 y2] 34)
      have f0 : (w3.alloc (.cells #[.int .i64 y1, .int .i64 y2] 34)).cell? ⟨w3.heap.size, 0, none⟩ = some (.int .i64 y1) := by simp
      have f1 : (w3.alloc (.cells #[.int .i64 y1, .int .i64 y2] 34)).cell? ⟨w3.heap.size, 1, none⟩ = some (.int .i64 y2) := by simp
      rw [← hWf] at f0 f1 hXf ⊢
      obtain ⟨g0, -, g2, g3, gz, -, hFB⟩ := two_box hXf
      have gz0 := gz 0
      have gz1 := gz 1
      clear hWf hb3 hb13 s9 d0 d1 k0 hA9 gz hXf hXW hX
      have HFB := Hid.mk hFB
      have hr := HHr.out
      clear hFB
      by_cases q1 : t = 4
      · have z1 : (t != 4) = false := by simp [q1]
        cases q2 : inL C.L.live a
        · have z2 : True := trivial
          rw [q2] at hr
          rw [if_neg (by simp)] at hr
          simp only [Prod.mk.injEq] at hr
          obtain ⟨⟨rfl, rfl⟩, rfl⟩ := hr
          have hE := (HFB.out.setCell (p := ⟨W.heap.size + 1, 0, none⟩) (by simp) (.int .i64 0)).setCell (p := ⟨W.heap.size + 1, 1, none⟩) (by simp) (.int .i64 0)
          clear HG HA HHr
          go_wp2_with fail
          dsimp only [Exit.noGoto]
          refine bodyPost_ret (v := .tuple #[.agg #[.int .i64 0, .int .i64 0], .int .i64 250]) ?_ rfl ⟨H0.out _ hE, hE, rfl⟩
          simp [results, Try.results20, go_sem, *]
        · rw [q2] at hr
          by_cases q3 : ey = 0
          · have z3 : (ey != 0) = false := by simp [q3]
            by_cases q4 : y1 = 1
            · have z4 : (y1 != 1) = false := by simp [q4]
              rw [if_pos ⟨q1, rfl, q3, q4⟩] at hr
              simp only [Prod.mk.injEq] at hr
              obtain ⟨⟨rfl, rfl⟩, rfl⟩ := hr
              have hE := (HFB.out.setCell (p := ⟨W.heap.size + 1, 0, none⟩) (by simp) (.int .i64 y1)).setCell (p := ⟨W.heap.size + 1, 1, none⟩) (by simp) (.int .i64 y2)
              clear HG HA HHr q1 q2 q3 q4
              go_wp2_with fail
              dsimp only [Exit.noGoto]
              refine bodyPost_ret (v := .tuple #[.agg #[.int .i64 y1, .int .i64 y2], .int .i64 0]) ?_ rfl ⟨H0.out _ hE, hE, rfl⟩
              simp [results, Try.results20, go_sem, *]
            · have z4 : (y1 != 1) = true := by simpa using q4
              rw [if_neg (fun q => q4 q.2.2.2)] at hr
              simp only [Prod.mk.injEq] at hr
              obtain ⟨⟨rfl, rfl⟩, rfl⟩ := hr
              have hE := (HFB.out.setCell (p := ⟨W.heap.size + 1, 0, none⟩) (by simp) (.int .i64 0)).setCell (p := ⟨W.heap.size + 1, 1, none⟩) (by simp) (.int .i64 0)
              clear HG HA HHr
              go_wp2_with fail
              dsimp only [Exit.noGoto]
              refine bodyPost_ret (v := .tuple #[.agg #[.int .i64 0, .int .i64 0], .int .i64 250]) ?_ rfl ⟨H0.out _ hE, hE, rfl⟩
              simp [results, Try.results20, go_sem, *]
          · have z3 : (ey != 0) = true := by simpa using q3
            rw [if_neg (fun q => q3 q.2.2.1)] at hr
            simp only [Prod.mk.injEq] at hr
            obtain ⟨⟨rfl, rfl⟩, rfl⟩ := hr
            have hE := (HFB.out.setCell (p := ⟨W.heap.size + 1, 0, none⟩) (by simp) (.int .i64 0)).setCell (p := ⟨W.heap.size + 1, 1, none⟩) (by simp) (.int .i64 0)
            clear HG HA HHr
            go_wp2_with fail
            dsimp only [Exit.noGoto]
            refine bodyPost_ret (v := .tuple #[.agg #[.int .i64 0, .int .i64 0], .int .i64 250]) ?_ rfl ⟨H0.out _ hE, hE, rfl⟩
            simp [results, Try.results20, go_sem, *]
      · have z1 : (t != 4) = true := by simpa using q1
        rw [if_neg (fun q => q1 q.1)] at hr
        simp only [Prod.mk.injEq] at hr
        obtain ⟨⟨rfl, rfl⟩, rfl⟩ := hr
        have hE := (HFB.out.setCell (p := ⟨W.heap.size + 1, 0, none⟩) (by simp) (.int .i64 0)).setCell (p := ⟨W.heap.size + 1, 1, none⟩) (by simp) (.int .i64 0)
        clear HG HA HHr
        go_wp2_with fail
        dsimp only [Exit.noGoto]
        refine bodyPost_ret (v := .tuple #[.agg #[.int .i64 0, .int .i64 0], .int .i64 250]) ?_ rfl ⟨H0.out _ hE, hE, rfl⟩
        simp [results, Try.results20, go_sem, *]
    · obtain ⟨Wf, hWf⟩ : ∃ Wf, Wf = (w3.setCell ⟨wc.heap.size, 0, none⟩ (.int .i64 y1)).setCell ⟨wc.heap.size, 1, none⟩ (.int .i64 y2) := ⟨_, rfl⟩
      have hszc := hX.size
      have hXf := (hb13.setCell (p := ⟨wc.heap.size, 0, none⟩) hszc (.int .i64 y1)).setCell (p := ⟨wc.heap.size, 1, none⟩) hszc (.int .i64 y2)
      have f0 : ((w3.setCell ⟨wc.heap.size, 0, none⟩ (.int .i64 y1)).setCell ⟨wc.heap.size, 1, none⟩ (.int .i64 y2)).cell? ⟨wc.heap.size, 0, none⟩ = some (.int .i64 y1) := by simp [go_sem, t0, t1]
      have f1 : ((w3.setCell ⟨wc.heap.size, 0, none⟩ (.int .i64 y1)).setCell ⟨wc.heap.size, 1, none⟩ (.int .i64 y2)).cell? ⟨wc.heap.size, 1, none⟩ = some (.int .i64 y2) := by simp [go_sem, t0, t1]
      rw [← hWf] at f0 f1 hXf ⊢
      obtain ⟨g0, -, g2, g3, gz, -, hFB⟩ := two_box hXf
      have gz0 := gz 0
      have gz1 := gz 1
      clear hWf hb3 hb13 s9 d0 d1 k0 hA9 gz hXf hXW hX B3 t0 t1 z0 z1
      have HFB := Hid.mk hFB
      have hr := HHr.out
      clear hFB
      by_cases q1 : t = 4
      · have z1 : (t != 4) = false := by simp [q1]
        cases q2 : inL C.L.live a
        · have z2 : True := trivial
          rw [q2] at hr
          rw [if_neg (by simp)] at hr
          simp only [Prod.mk.injEq] at hr
          obtain ⟨⟨rfl, rfl⟩, rfl⟩ := hr
          have hE := (HFB.out.setCell (p := ⟨W.heap.size + 1, 0, none⟩) (by simp) (.int .i64 0)).setCell (p := ⟨W.heap.size + 1, 1, none⟩) (by simp) (.int .i64 0)
          clear HG HA HHr
          go_wp2_with fail
          dsimp only [Exit.noGoto]
          refine bodyPost_ret (v := .tuple #[.agg #[.int .i64 0, .int .i64 0], .int .i64 250]) ?_ rfl ⟨H0.out _ hE, hE, rfl⟩
          simp [results, Try.results20, go_sem, *]
        · rw [q2] at hr
          by_cases q3 : ey = 0
          · have z3 : (ey != 0) = false := by simp [q3]
            by_cases q4 : y1 = 1
            · have z4 : (y1 != 1) = false := by simp [q4]
              rw [if_pos ⟨q1, rfl, q3, q4⟩] at hr
              simp only [Prod.mk.injEq] at hr
              obtain ⟨⟨rfl, rfl⟩, rfl⟩ := hr
              have hE := (HFB.out.setCell (p := ⟨W.heap.size + 1, 0, none⟩) (by simp) (.int .i64 y1)).setCell (p := ⟨W.heap.size + 1, 1, none⟩) (by simp) (.int .i64 y2)
              clear HG HA HHr q1 q2 q3 q4
              go_wp2_with fail
              dsimp only [Exit.noGoto]
              refine bodyPost_ret (v := .tuple #[.agg #[.int .i64 y1, .int .i64 y2], .int .i64 0]) ?_ rfl ⟨H0.out _ hE, hE, rfl⟩
              simp [results, Try.results20, go_sem, *]
            · have z4 : (y1 != 1) = true := by simpa using q4
              rw [if_neg (fun q => q4 q.2.2.2)] at hr
              simp only [Prod.mk.injEq] at hr
              obtain ⟨⟨rfl, rfl⟩, rfl⟩ := hr
              have hE := (HFB.out.setCell (p := ⟨W.heap.size + 1, 0, none⟩) (by simp) (.int .i64 0)).setCell (p := ⟨W.heap.size + 1, 1, none⟩) (by simp) (.int .i64 0)
              clear HG HA HHr
              go_wp2_with fail
              dsimp only [Exit.noGoto]
              refine bodyPost_ret (v := .tuple #[.agg #[.int .i64 0, .int .i64 0], .int .i64 250]) ?_ rfl ⟨H0.out _ hE, hE, rfl⟩
              simp [results, Try.results20, go_sem, *]
          · have z3 : (ey != 0) = true := by simpa using q3
            rw [if_neg (fun q => q3 q.2.2.1)] at hr
            simp only [Prod.mk.injEq] at hr
            obtain ⟨⟨rfl, rfl⟩, rfl⟩ := hr
            have hE := (HFB.out.setCell (p := ⟨W.heap.size + 1, 0, none⟩) (by simp) (.int .i64 0)).setCell (p := ⟨W.heap.size + 1, 1, none⟩) (by simp) (.int .i64 0)
            clear HG HA HHr
            go_wp2_with fail
            dsimp only [Exit.noGoto]
            refine bodyPost_ret (v := .tuple #[.agg #[.int .i64 0, .int .i64 0], .int .i64 250]) ?_ rfl ⟨H0.out _ hE, hE, rfl⟩
            simp [results, Try.results20, go_sem, *]
      · have z1 : (t != 4) = true := by simpa using q1
        rw [if_neg (fun q => q1 q.1)] at hr
        simp only [Prod.mk.injEq] at hr
        obtain ⟨⟨rfl, rfl⟩, rfl⟩ := hr
        have hE := (HFB.out.setCell (p := ⟨W.heap.size + 1, 0, none⟩) (by simp) (.int .i64 0)).setCell (p := ⟨W.heap.size + 1, 1, none⟩) (by simp) (.int .i64 0)
        clear HG HA HHr
        go_wp2_with fail
        dsimp only [Exit.noGoto]
        refine bodyPost_ret (v := .tuple #[.agg #[.int .i64 0, .int .i64 0], .int .i64 250]) ?_ rfl ⟨H0.out _ hE, hE, rfl⟩
        simp [results, Try.results20, go_sem, *]
end
end Go.Proofs.Ytpfnnmcokbolhaa
/- A chain's Put. -/
namespace Go.Proofs.Ytpfnnmcokbolhaa
open Go.RowKit
set_option pp.deepTerms true
theorem getC_er {C : Ch} (pv : Int × Int) (hF : C.F ≠ []) : (getC C pv).2 = 0 ∨ (getC C pv).2 = 250 := by
  obtain ⟨f, fs, hF⟩ := ne_cons hF
  unfold getC
  rw [hF]
  simp only
  split <;> simp
section
variable {w W : World} {F : List Asr} {b p k g c : Nat} {sz ca : Int} {C : Ch} {x : Value × Fr} {l : List (Value × Fr)}
theorem cget_any (h : Sep w (chP b p k sz ca C F) W) (ok : ChOk C) (hF : C.F ≠ []) (pv : Int × Int) : Calls Try.prog 20 #[.pointer (some ⟨b, 0, none⟩), .agg #[.int .i64 pv.1, .int .i64 pv.2]] W fun e w' => Sep w (chP b p k sz ca C F) w' ∧ Below W.heap.size W w' ∧ e = .returned (.tuple #[.agg #[.int .i64 (getC C pv).1.1, .int .i64 (getC C pv).1.2], .int .i64 (getC C pv).2]) := by
  obtain ⟨f, fs, hF⟩ := ne_cons hF
  obtain ⟨g, c, x, l, h1, -, -, h4⟩ := chP_cons h hF
  refine (cget_T h4 h1 ok pv).mono ?_
  rintro e w' ⟨-, hb, rfl⟩
  exact ⟨h.keep hb, hb, rfl⟩
set_option maxRecDepth 100000 in
set_option maxHeartbeats 1000000 in
theorem cput_any (h : Sep w (chP b p k sz ca C F) W) (ok : ChOk C) (hF : C.F ≠ []) (pv v : Int × Int) : Calls Try.prog 18 #[.pointer (some ⟨b, 0, none⟩), .agg #[.int .i64 pv.1, .int .i64 pv.2], .agg #[.int .i64 v.1, .int .i64 v.2]] W fun e w' => Sep w (chP b p k sz ca (putC C pv v).2 F) w' ∧ e = .returned (.int .i64 (putC C pv v).1) := by
  obtain ⟨t, a⟩ := pv
  obtain ⟨v1, v2⟩ := v
  have h0 := chP_in ((chP_in (h.alloc (.cells #[.int .i64 t, .int .i64 a] 34))).alloc (.cells #[.int .i64 v1, .int .i64 v2] 34))
  simp only [World.size_alloc] at h0
  have HG := Hid.mk (cget_any h0 ok hF (t, a))
  have HX : Hid (∀ {S' : Sp} {W' : World}, Sep w (chP b p k sz ca ⟨S', C.L, C.F⟩ (bx (W.heap.size + 1) (.cells #[.int .i64 v1, .int .i64 v2] 34) :: bx W.heap.size (.cells #[.int .i64 t, .int .i64 a] 34) :: F)) W' → W'.cell? ⟨b, 0, none⟩ = some (.pointer (some ⟨p, 0, none⟩)) ∧ W'.cell? ⟨W.heap.size, 1, none⟩ = some (.int .i64 a) ∧ W'.cell? ⟨W.heap.size + 1, 0, none⟩ = some (.int .i64 v1) ∧ W'.cell? ⟨W.heap.size + 1, 1, none⟩ = some (.int .i64 v2)) := fun {S' W'} q => by
    obtain ⟨k0, -, -⟩ := ch_k0 (show Sep w (chA b p k C.F :: spA p S' :: lkA k p sz ca C.L :: bx (W.heap.size + 1) (.cells #[.int .i64 v1, .int .i64 v2] 34) :: bx W.heap.size (.cells #[.int .i64 t, .int .i64 a] 34) :: F) W' from q)
    have B1 := Sep.at q (b := W.heap.size) (o := (.cells #[.int .i64 t, .int .i64 a] 34)) (by simp [chP])
    have B2 := Sep.at q (b := W.heap.size + 1) (o := (.cells #[.int .i64 v1, .int .i64 v2] 34)) (by simp [chP])
    exact ⟨k0, by rw [cell_of_row _ _ 1 _ _ _ B1]; rfl, by rw [cell_of_row _ _ 0 _ _ _ B2]; rfl, by rw [cell_of_row _ _ 1 _ _ _ B2]; rfl⟩
  have her := getC_er (t, a) hF
  obtain ⟨⟨⟨y1, y2⟩, ey⟩, hy⟩ : ∃ r, getC C (t, a) = r := ⟨_, rfl⟩
  obtain ⟨⟨r, C'⟩, hr⟩ : ∃ r, putC C (t, a) (v1, v2) = r := ⟨_, rfl⟩
  rw [hr]
  unfold putC at hr
  rw [hy] at HG her hr
  simp only at HG her hr
  clear hy
  rcases her with rfl | rfl
  · rw [if_pos rfl] at hr
    by_cases q : v1 = 1
    · have z : (v1 != 1) = false := by simp [q]
      rw [if_pos q] at hr
      simp only [Prod.mk.injEq] at hr
      obtain ⟨rfl, rfl⟩ := hr
      clear h q hF ok
      go_enter Try.func18, Try.ntmps18
      go_wp2_with fail
      refine HG.out.mono ?_
      rintro e w1 ⟨h1, hb1, rfl⟩
      have h2 := h1.keep ((Below.refl w1.heap.size w1).alloc (Nat.le_refl _) (.cells #[.int .i64 y1, .int .i64 y2] 34))
      obtain ⟨k0, d1, d2, d3⟩ := HX.out h2
      have HP := Hid.mk (put_sep (F := lkA k p sz ca C.L :: chA b p k C.F :: bx (W.heap.size + 1) (.cells #[.int .i64 v1, .int .i64 v2] 34) :: bx W.heap.size (.cells #[.int .i64 t, .int .i64 a] 34) :: F) (Sep.rot [_] [_, _] h2.drew) a v1 v2)
      have HB : Hid (∀ {W'}, Sep w (spA p (C.S.put a (v1, v2)).2 :: lkA k p sz ca C.L :: chA b p k C.F :: bx (W.heap.size + 1) (.cells #[.int .i64 v1, .int .i64 v2] 34) :: bx W.heap.size (.cells #[.int .i64 t, .int .i64 a] 34) :: F) W' → Sep w (chP b p k sz ca ⟨(C.S.put a (v1, v2)).2, C.L, C.F⟩ (bx (W.heap.size + 1) (.cells #[.int .i64 v1, .int .i64 v2] 34) :: bx W.heap.size (.cells #[.int .i64 t, .int .i64 a] 34) :: F)) W') := fun {W'} q => Sep.rot [_, _] [_] q
      clear HG h1 hb1 h2 h0
      go_wp2_with fail
      go_region_held3 (fun X => X.cell? ⟨b, 0, none⟩ = some (.pointer (some ⟨p, 0, none⟩)) ∧ X.cell? ⟨W.heap.size, 1, none⟩ = some (.int .i64 a) ∧ X.cell? ⟨W.heap.size + 1, 0, none⟩ = some (.int .i64 v1) ∧ X.cell? ⟨W.heap.size + 1, 1, none⟩ = some (.int .i64 v2)) (first | exact s9 | exact ⟨k0, d1, d2, d3⟩) (first | (go_at_call 47; refine HP.out.mono ?_; rintro e w3 ⟨h3, rfl⟩; have h4 := HB.out h3; have s9 := HX.out h4))
      have HE : Hid (Sep w (chP b p k sz ca ⟨(C.S.put a (v1, v2)).2, C.L, C.F⟩ F) w3) := Sep.lose 3 (Sep.lose 3 h4)
      clear HP h3 h4 HX s9
      go_wp2_with fail
      go_ret
      exact ⟨HE.out, rfl⟩
    · have z : (v1 != 1) = true := by simpa using q
      rw [if_neg q] at hr
      simp only [Prod.mk.injEq] at hr
      obtain ⟨rfl, rfl⟩ := hr
      clear h q hF ok
      go_enter Try.func18, Try.ntmps18
      go_wp2_with fail
      refine HG.out.mono ?_
      rintro e w1 ⟨h1, hb1, rfl⟩
      obtain ⟨-, -, d2, -⟩ := HX.out h1
      have HE : Hid (Sep w (chP b p k sz ca C F) _) := (Sep.lose 3 (Sep.lose 3 (h1.keep ((Below.refl w1.heap.size w1).alloc (Nat.le_refl _) (.cells #[.int .i64 y1, .int .i64 y2] 34)))))
      have d2' := alloc_cell (o := .cells #[.int .i64 y1, .int .i64 y2] 34) d2
      clear HG h1 hb1
      go_wp2_with fail
      go_ret
      exact ⟨HE.out, rfl⟩
  · rw [if_neg (by simp)] at hr
    simp only [Prod.mk.injEq] at hr
    obtain ⟨rfl, rfl⟩ := hr
    clear h hF ok
    go_enter Try.func18, Try.ntmps18
    go_wp2_with fail
    refine HG.out.mono ?_
    rintro e w1 ⟨h1, hb1, rfl⟩
    have HE : Hid (Sep w (chP b p k sz ca C F) _) := (Sep.lose 3 (Sep.lose 3 (h1.keep ((Below.refl w1.heap.size w1).alloc (Nat.le_refl _) (.cells #[.int .i64 y1, .int .i64 y2] 34)))))
    clear HG h1 hb1
    go_wp2_with fail
    go_ret
    exact ⟨HE.out, rfl⟩
end
end Go.Proofs.Ytpfnnmcokbolhaa
