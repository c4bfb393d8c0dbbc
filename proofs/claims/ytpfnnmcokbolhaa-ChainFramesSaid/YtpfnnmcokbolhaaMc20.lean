/- Parts Ui Uj, put together. -/
import Derived.Test.YtpfnnmcokbolhaaMc19
/- The twin's put. -/
namespace Go.Proofs.Ytpfnnmcokbolhaa
open Go.RowKit
set_option pp.deepTerms true
section
variable {w W : World} {F G : List Asr} {t b p k g c : Nat} {sz ca many : Int} {C : Ch} {lv pv : Value} {ml l : List Mv} {x : Mv} {Q : List (Int × Pf)} {A : Asr} {T : Tw} {Z : List (Md × Af)} {n : Nat}
set_option maxRecDepth 100000 in
set_option maxHeartbeats 4000000 in
theorem tput_any (h : Sep w (twL t b lv pv (x :: l) Q many ++ chP b p k sz ca C F) W) (hs : Sim sz ca n ⟨C, (x :: l).map (·.m), Q, many⟩ Z) (hn : n ≤ 290) (y : Int) :
    Calls Try.prog 34 #[.pointer (some ⟨t, 0, none⟩), .int .i64 y] W fun e w' => TwR w w' t b p k sz ca n (putN (Tw.N ⟨C, (x :: l).map (·.m), Q, many⟩) y) F ∧ e = .returned (.bool true) := by
  have HSIM := Hid.mk hs
  have HSAME : Hid (∀ {W'}, Sep w (twL t b lv pv (x :: l) Q many ++ chP b p k sz ca C F) W' → putN (Tw.N ⟨C, (x :: l).map (·.m), Q, many⟩) y = Tw.N ⟨C, (x :: l).map (·.m), Q, many⟩ → TwR w W' t b p k sz ca n (putN (Tw.N ⟨C, (x :: l).map (·.m), Q, many⟩) y) F) := fun {W'} q e => ⟨_, _, ⟨_, _, _, rfl, q⟩, hs, e.symm⟩
  obtain ⟨g, c, rfl, hc, -, -, -, -, -, k5, -, -⟩ := tw_top h
  obtain ⟨pa, pc, rfl⟩ := (tw_shapes h).2
  obtain ⟨k0, k1, k2, -, -⟩ := tw_k h
  obtain ⟨ao, c2, hov, hc2, hao⟩ := tw_ovShape h
  rw [hov] at k5
  obtain ⟨-, -, -, -, hol⟩ := hs.md (m := x.m) (by simp)
  have hll : l.length ≤ 290 := by
    have := hs.len.1
    simp at this
    omega
  obtain ⟨lm, hlm⟩ : ∃ lm, l.length = lm := ⟨_, rfl⟩
  obtain ⟨m, hm⟩ : ∃ m, x.m.ops.length = m := ⟨_, rfl⟩
  have HLM := Hid.mk hlm
  have HM := Hid.mk hm
  have HOV := Hid.mk hov
  have H := Hid.mk h
  rw [hlm] at hc k1 k5 hll
  rw [hm] at k5 hol hc2 hao
  have w1 : IntKind.i64.wrap (((lm + 1 : Nat) : Int) - 1) = (lm : Int) := by rw [IntKind.wrap_i64]; omega
  have w2 : IntKind.i64.wrap ((lm : Int) + 1 - 1) = (lm : Int) := by rw [IntKind.wrap_i64]; omega
  have w3 : IntKind.i64.wrap ((m : Int) - 1) = (m : Int) - 1 := by rw [IntKind.wrap_i64]; omega
  have hk3 : lm < lm + 1 := by omega
  have hk4 : (lm : Int) < (lm : Int) + 1 := by omega
  clear h hs hlm hm hov
  go_enter Try.func34, Try.ntmps34
  go_upto_region 1 with (fail)
  go_quiet (fail)
  go_wp2_with fail
  go_loopw [6] (fun i wr => ∃ j : Nat, i = .int .i64 ((j : Int) - 1) ∧ j ≤ m ∧ Hid (NoPtr (x.m.ops.drop j) ∧ Sep w (twL t b (.slice (some ⟨g, 0, none⟩) (l.length + 1 : Nat) c) (.slice pa Q.length pc) (x :: l) Q many ++ chP b p k sz ca C F) wr)) (fun i _ => (intOf i + 1).toNat)
  case atStart => exact ⟨m, rfl, Nat.le_refl _, Hid.mk ⟨by rw [← HM.out, List.drop_length]; simp [NoPtr], Sep.keep H.out (below_drewN (Below.refl _ _) nq)⟩⟩
  case round =>
    obtain ⟨j, hi, hj, HREL⟩ := hrel
    clear k0 k1 k2 k5
    rcases j with _ | j
    · subst hi
      have hno : putN (Tw.N ⟨C, (x :: l).map (·.m), Q, many⟩) y = Tw.N ⟨C, (x :: l).map (·.m), Q, many⟩ := by
        have := topPtr_none (by simpa using HREL.out.1)
        unfold putN Tw.N
        simp only [List.map_cons]
        rw [this]
      have HNO := Hid.mk hno
      clear hno
      go_wp2_with fail
      go_ret
      exact ⟨HSAME.out HREL.out.2 HNO.out, rfl⟩
    · have e0 : ((j + 1 : Nat) : Int) - 1 = (j : Int) := by omega
      rw [e0] at hi
      subst hi
      obtain ⟨g2, hg2⟩ := hao (by omega)
      have hg2' : some (⟨g2, 0, none⟩ : Addr) = ao := hg2.symm
      have hjx : j < x.m.ops.length := by rw [HM.out]; omega
      obtain ⟨o0, o1⟩ := tw_ovAt HREL.out.2 (by rw [HOV.out, HM.out, hg2]) HM.out hjx
      obtain ⟨-, -, -, -, -, -, k5, -, -⟩ := tw_topAt HREL.out.2
      rw [HOV.out, HM.out, hg2, HLM.out] at k5
      obtain ⟨k0, k1, k2, -, -⟩ := tw_k HREL.out.2
      rw [HLM.out] at k1
      have hvo := (HSIM.out.vo (m := x.m) (by simp)).2 _ (List.getElem_mem hjx)
      obtain ⟨u, hu⟩ : ∃ u, x.m.ops[j] = u := ⟨_, rfl⟩
      have HU : Hid (∃ hj : j < x.m.ops.length, x.m.ops[j] = u) := ⟨hjx, hu⟩
      rw [hu] at o0 o1 hvo
      clear hu hjx hg2 hg2'
      obtain ⟨u1, u2⟩ := u
      simp only at o0 o1
      have hm1 : IntKind.i64.wrap ((j : Int) - 1) = (j : Int) - 1 := by rw [IntKind.wrap_i64]; omega
      have hk5 : j < m := by omega
      obtain ⟨B7, hB7⟩ : ∃ B7, wr.heap.size = B7 := ⟨_, rfl⟩
      by_cases hp : u1 = 4 ∧ u2 ≠ 0
      · obtain ⟨rfl, hp2⟩ := hp
        have hu0 : 0 ≤ u2 := by
          have := hvo.1
          simp [okV, knownB] at this
          exact this
        have hu2 := hvo.2 rfl
        simp only at hu2
        obtain ⟨q, hq⟩ := Int.eq_ofNat_of_zero_le (show 0 ≤ u2 - 1 by omega)
        obtain rfl : u2 = (q : Int) + 1 := by omega
        have hqq : q < Q.length := by omega
        obtain ⟨gp, rfl, hpc, hpt⟩ := tw_ptAt HREL.out.2 hqq
        have hptok := HSIM.out.pts Q[q] (List.getElem_mem hqq)
        have hq4 : Q[q] ∈ Q := List.getElem_mem hqq
        obtain ⟨⟨a, dp, sl, wh⟩, hz⟩ : ∃ z, Q[q] = z := ⟨_, rfl⟩
        rw [hz] at hpt hptok hq4
        have hdp := hptok.d
        simp only at hdp
        obtain ⟨D, rfl⟩ := Int.eq_ofNat_of_zero_le hdp
        have htop : topPtr x.m.ops = some (4, (q : Int) + 1) := by
          obtain ⟨hjx, hu⟩ := HU.out
          have := topPtr_at hjx HREL.out.1 (by rw [hu]) (by rw [hu]; exact hp2)
          rw [hu] at this
          exact this
        have hPQ : (Q.map (·.2))[((q : Int) + 1 - 1).toNat]? = some ⟨(D : Int), sl, wh⟩ := by
          have e : ((q : Int) + 1 - 1).toNat = q := by omega
          rw [e, List.getElem?_map, List.getElem?_eq_getElem hqq, hz]
          rfl
        have h1 := tw_more HREL.out.2 (.cells #[.int .i64 4, .int .i64 ((q : Int) + 1)] 34)
        have d0 := alloc_cell (o := .cells #[.int .i64 4, .int .i64 ((q : Int) + 1)] 34) (hpt 0 _ rfl)
        have d1 := alloc_cell (o := .cells #[.int .i64 4, .int .i64 ((q : Int) + 1)] 34) (hpt 1 _ rfl)
        have d2 := alloc_cell (o := .cells #[.int .i64 4, .int .i64 ((q : Int) + 1)] 34) (hpt 2 _ rfl)
        have d3 := alloc_cell (o := .cells #[.int .i64 4, .int .i64 ((q : Int) + 1)] 34) (hpt 3 _ rfl)
        have d4 := alloc_cell (o := .cells #[.int .i64 4, .int .i64 ((q : Int) + 1)] 34) (hpt 4 _ rfl)
        have k2' := alloc_cell (o := .cells #[.int .i64 4, .int .i64 ((q : Int) + 1)] 34) k2
        obtain ⟨v0, v1, -⟩ := two_cells h1 (q := wr.heap.size) (tw_mem (List.Mem.head _))
        obtain ⟨qn, hqn⟩ : ∃ qn, Q.length = qn := ⟨_, rfl⟩
        have HQN := Hid.mk hqn
        rw [hqn] at k2' hpc hqq
        simp only [Nat.add_zero] at d0
        have y1 : IntKind.i64.wrap ((q : Int) + 1 - 1) = (q : Int) := by rw [IntKind.wrap_i64]; have := HSIM.out.n2; simp only [hqn] at this; omega
        have y2 : (4 != (4 : Int)) = false := rfl
        have y3 : (((q : Int) + 1) == 0) = false := by simp; omega
        have y4 : (q : Int) < (qn : Int) := by omega
        have y5 : IntKind.i64.wrap (q : Int) = (q : Int) := by rw [IntKind.wrap_i64] at y1 ⊢; have := HSIM.out.n2; simp only [hqn] at this; omega
        have HTOP := Hid.mk (And.intro htop hPQ)
        have HZ : Hid (∃ hqq : q < Q.length, Q[q] = (a, ⟨(D : Int), sl, wh⟩)) := ⟨by omega, hz⟩
        have HQ4 := Hid.mk hq4
        have H1 := Hid.mk h1
        have HREL2 := Hid.mk HREL.out.2
        clear HU HREL hp2 hz hpt hptok hvo hq4 hq hu2 hdp htop hPQ h1 k2 hqn
        go_upto_region 7 with (fail)
        clear k5 o0 o1 k0 k1
        obtain ⟨X1, hX1⟩ : ∃ X, X = wr.alloc (.cells #[.int .i64 4, .int .i64 ((q : Int) + 1)] 34) := ⟨_, rfl⟩
        have h1 := H1.out
        rw [hB7, ← hX1] at h1
        rw [hB7, ← hX1] at v0 v1
        rw [← hX1] at d0 d1 d2 d3 d4 k2' ⊢
        clear hX1 H1 hB7
        have H1 := Hid.mk h1
        clear h1
        refine wp_region_L 10 (fun X => X.cell? ⟨t, 2, none⟩ = some (.slice (some ⟨gp, 0, none⟩) qn pc) ∧ X.cell? ⟨B7, 1, none⟩ = some (.int .i64 ((q : Int) + 1)) ∧ X.cell? ⟨gp, q * 5, none⟩ = some (.int .i64 4) ∧ X.cell? ⟨gp, q * 5 + 1, none⟩ = some (.int .i64 a) ∧ X.cell? ⟨gp, q * 5 + 2, none⟩ = some (.int .i64 (D : Int)) ∧ X.cell? ⟨gp, q * 5 + 3, none⟩ = some (.int .i64 sl) ∧ X.cell? ⟨gp, q * 5 + 4, none⟩ = some (.int .i64 wh)) (by kernel_rfl) ⟨k2', v1, d0, d1, d2, d3, d4⟩ (fun hHeld => ?_)
        refine wpAnyL_take (i := 0) (v := ?_) rfl (by kernel_rfl) (by kernel_rfl) (by kernel_rfl) (by kernel_rfl) (fun _ _ _ h => h) (Or.inl ⟨by rfl, ?_⟩) (by assumption) ?_
        rotate_left
        · (intro w hSw; (try dsimp only at hSw); go_simp <;> with_reducible rfl)
        (try simp only [Act.put, List.getElem_toArray, List.getElem_cons_zero, List.getElem_cons_succ, List.setIfInBounds_toArray, List.set_cons_zero, List.set_cons_succ])
        refine wpAnyL_take (i := 1) (v := ?_) rfl (by kernel_rfl) (by kernel_rfl) (by kernel_rfl) (by kernel_rfl) (fun _ _ _ h => h) (Or.inl ⟨by rfl, ?_⟩) (by assumption) ?_
        rotate_left
        · (intro w hSw; (try dsimp only at hSw); go_simp <;> with_reducible rfl)
        (try simp only [Act.put, List.getElem_toArray, List.getElem_cons_zero, List.getElem_cons_succ, List.setIfInBounds_toArray, List.set_cons_zero, List.set_cons_succ])
        refine wpAnyL_take (i := 2) (v := ?_) rfl (by kernel_rfl) (by kernel_rfl) (by kernel_rfl) (by kernel_rfl) (fun _ _ _ h => h) (Or.inl ⟨by rfl, ?_⟩) (by assumption) ?_
        rotate_left
        · (intro w hSw; (try dsimp only at hSw); go_simp <;> with_reducible rfl)
        (try simp only [Act.put, List.getElem_toArray, List.getElem_cons_zero, List.getElem_cons_succ, List.setIfInBounds_toArray, List.set_cons_zero, List.set_cons_succ])
        refine wpAnyL_take (i := 3) (v := ?_) rfl (by kernel_rfl) (by kernel_rfl) (by kernel_rfl) (by kernel_rfl) (fun _ _ _ h => h) (Or.inl ⟨by rfl, ?_⟩) (by assumption) ?_
        rotate_left
        · (intro w hSw; (try dsimp only at hSw); go_simp <;> with_reducible rfl)
        (try simp only [Act.put, List.getElem_toArray, List.getElem_cons_zero, List.getElem_cons_succ, List.setIfInBounds_toArray, List.set_cons_zero, List.set_cons_succ])
        refine wpAnyL_take (i := 4) (v := ?_) rfl (by kernel_rfl) (by kernel_rfl) (by kernel_rfl) (by kernel_rfl) (fun _ _ _ h => h) (Or.inl ⟨by rfl, ?_⟩) (by assumption) ?_
        rotate_left
        · (intro w hSw; (try dsimp only at hSw); go_simp <;> with_reducible rfl)
        (try simp only [Act.put, List.getElem_toArray, List.getElem_cons_zero, List.getElem_cons_succ, List.setIfInBounds_toArray, List.set_cons_zero, List.set_cons_succ])
        refine wpAnyL_take (i := 5) (v := ?_) rfl (by kernel_rfl) (by kernel_rfl) (by kernel_rfl) (by kernel_rfl) (fun _ _ _ h => h) (Or.inl ⟨by rfl, ?_⟩) (by assumption) ?_
        rotate_left
        · (intro w hSw; (try dsimp only at hSw); go_simp <;> with_reducible rfl)
        (try simp only [Act.put, List.getElem_toArray, List.getElem_cons_zero, List.getElem_cons_succ, List.setIfInBounds_toArray, List.set_cons_zero, List.set_cons_succ])
        refine wpAnyL_take (i := 6) (v := ?_) rfl (by kernel_rfl) (by kernel_rfl) (by kernel_rfl) (by kernel_rfl) (fun _ _ _ h => h) (Or.inl ⟨by rfl, ?_⟩) (by assumption) ?_
        rotate_left
        · (intro w hSw; (try dsimp only at hSw); go_simp <;> with_reducible rfl)
        (try simp only [Act.put, List.getElem_toArray, List.getElem_cons_zero, List.getElem_cons_succ, List.setIfInBounds_toArray, List.set_cons_zero, List.set_cons_succ])
        refine wpAnyL_take (i := 7) (v := ?_) rfl (by kernel_rfl) (by kernel_rfl) (by kernel_rfl) (by kernel_rfl) (fun _ _ _ h => h) (Or.inl ⟨by rfl, ?_⟩) (by assumption) ?_
        rotate_left
        · (intro w hSw; (try dsimp only at hSw); go_simp <;> with_reducible rfl)
        (try simp only [Act.put, List.getElem_toArray, List.getElem_cons_zero, List.getElem_cons_succ, List.setIfInBounds_toArray, List.set_cons_zero, List.set_cons_succ])
        refine wpAnyL_take (i := 8) (v := ?_) rfl (by kernel_rfl) (by kernel_rfl) (by kernel_rfl) (by kernel_rfl) (fun _ _ _ h => h) (Or.inl ⟨by rfl, ?_⟩) (by assumption) ?_
        rotate_left
        · (intro w hSw; (try dsimp only at hSw); go_simp <;> with_reducible rfl)
        (try simp only [Act.put, List.getElem_toArray, List.getElem_cons_zero, List.getElem_cons_succ, List.setIfInBounds_toArray, List.set_cons_zero, List.set_cons_succ])
        refine wpAnyL_only (i := 9) (by kernel_rfl) rfl (fun K hK => ?_)
        go_simp
        refine hK _ _ (fun _ => ⟨alloc_cell hHeld.1, alloc_cell hHeld.2.1, alloc_cell hHeld.2.2.1, alloc_cell hHeld.2.2.2.1, alloc_cell hHeld.2.2.2.2.1, alloc_cell hHeld.2.2.2.2.2.1, alloc_cell hHeld.2.2.2.2.2.2⟩) (fun hHeld0 => ?_)
        have hHeld := hHeld0 rfl
        clear hK K hHeld0
        (try simp only [Act.put, List.getElem_toArray, List.getElem_cons_zero, List.getElem_cons_succ, List.setIfInBounds_toArray, List.set_cons_zero, List.set_cons_succ])
        refine wpAnyL_only (i := 10) (by kernel_rfl) rfl (fun K hK => ?_)
        go_simp
        refine hK _ _ (fun q => by cases q) (fun hHeld0 => ?_)
        clear hK K hHeld0
        refine wpAnyL_done (by kernel_rfl) ?_
        have h2 := (tw_more H1.out (.cells #[.int .i64 4, .int .i64 a, .int .i64 (D : Int), .int .i64 sl, .int .i64 wh] 114)).drew
        obtain ⟨B8, hB8⟩ : ∃ B, X1.heap.size = B := ⟨_, rfl⟩
        obtain ⟨X2, hX2⟩ : ∃ X, X = (X1.alloc (.cells #[.int .i64 4, .int .i64 a, .int .i64 (D : Int), .int .i64 sl, .int .i64 wh] 114)).drew := ⟨_, rfl⟩
        rw [← hX2, hB8] at h2
        rw [← hX2, hB8]
        clear hX2 hB8 H1 k2' hHeld
        obtain ⟨-, k1, -, -, -⟩ := tw_k h2
        rw [HLM.out] at k1
        obtain ⟨b0, b1, b2, b3, b4⟩ := five_cells h2 (q := B8) (tw_mem (List.Mem.head _))
        have H2 := Hid.mk h2
        clear h2
        by_cases hge : lm + 1 ≤ D
        · have z0 : decide ((D : Int) ≥ (lm : Int) + 1) = true := by simp; omega
          have z1 : decide ((lm : Int) + 1 ≤ (D : Int)) = true := by simp; omega
          have hno : putN (Tw.N ⟨C, (x :: l).map (·.m), Q, many⟩) y = Tw.N ⟨C, (x :: l).map (·.m), Q, many⟩ := by
            unfold putN Tw.N
            simp only [List.map_cons]
            rw [HTOP.out.1]
            simp only
            rw [HTOP.out.2]
            simp only
            have : getAt (D : Int).toNat (x.m :: l.map (·.m)) = none := getAt_none (by simp [HLM.out]; omega)
            rw [this]
          have HNO := Hid.mk hno
          clear hno hge
          go_upto_region 8 with (fail)
          go_quiet (fail)
          go_wp2_with fail
          go_ret
          exact ⟨HSAME.out (Sep.keep (tw_lose (tw_lose H2.out)) (below_drewN (Below.refl _ _) _)) HNO.out, rfl⟩
        · obtain ⟨pre, yv, post, e, hpl⟩ := split_at (x :: l) (d := D) (by simp [HLM.out]; omega)
          have z0 : decide ((D : Int) ≥ (lm : Int) + 1) = false := by simp; omega
          have z1 : decide ((lm : Int) + 1 ≤ (D : Int)) = false := by simp; omega
          have zb : (D : Int) < (lm : Int) + 1 := by omega
          have zb2 : D < lm + 1 := by omega
          have h2 := H2.out
          rw [e] at h2
          obtain ⟨c4, c6⟩ := tw_modAt h2
          rw [hpl] at c4 c6
          have hga : getAt (D : Int).toNat (x.m :: l.map (·.m)) = some yv.m ∧ ∀ f, modAt (D : Int).toNat f (x.m :: l.map (·.m)) = pre.map (·.m) ++ f yv.m :: post.map (·.m) := by
            have e2 : x.m :: l.map (·.m) = pre.map (·.m) ++ yv.m :: post.map (·.m) := by
              have := congrArg (List.map (·.m)) e
              simpa using this
            rw [e2, Int.toNat_natCast, ← hpl, show post.length = (post.map (·.m)).length by simp]
            exact getAt_split
          have HGA := Hid.mk hga
          have HE := Hid.mk e
          have HPL := Hid.mk hpl
          clear hga e hpl hge
          by_cases hw : yv.m.which = wh
          · subst hw
            have z2 : (yv.m.which != yv.m.which) = false := by simp
            obtain ⟨r1, sl0, sl1, r2, Z2, hs2⟩ := Sim.put HSIM.out HQ4.out (m := yv.m) HGA.out.1 rfl y
            simp only at r1 sl0 sl1 r2 hs2
            obtain ⟨s, rfl⟩ := Int.eq_ofNat_of_zero_le sl0
            have hs : s < yv.m.slots.length := by omega
            rw [Int.toNat_natCast] at hs2
            have hok := HSIM.out.ok (by omega)
            have hok2 := hs2.ok (by omega)
            have hne := HSIM.out.ne rfl
            have hne2 : (putC C (4, a) (1, y)).2.F ≠ [] := by
              have e1 : (putC C (4, a) (1, y)).2.F = C.F := by
                unfold putC
                split
                · split <;> rfl
                · rfl
              rw [e1]
              exact hne
            obtain ⟨C2, hC2⟩ : ∃ C2, (putC C (4, a) (1, y)).2 = C2 := ⟨_, rfl⟩
            rw [hC2] at r2 hs2 hok2 hne2
            have HPUT : Hid (∀ {F' : List Asr} {W' : World}, Sep w (chP b p k sz ca C F') W' → Calls Try.prog 18 #[.pointer (some ⟨b, 0, none⟩), .agg #[.int .i64 4, .int .i64 a], .agg #[.int .i64 1, .int .i64 y]] W' fun e w' => Sep w (chP b p k sz ca C2 F') w' ∧ e = .returned (.int .i64 0)) := fun {F' W'} q => by
              have := cput_any q hok hne (4, a) (1, y)
              rw [hC2, r1] at this
              exact this
            have HGET : Hid (∀ {F' : List Asr} {W' : World}, Sep w (chP b p k sz ca C2 F') W' → Calls Try.prog 20 #[.pointer (some ⟨b, 0, none⟩), .agg #[.int .i64 4, .int .i64 a]] W' fun e w' => Sep w (chP b p k sz ca C2 F') w' ∧ Below W'.heap.size W' w' ∧ e = .returned (.tuple #[.agg #[.int .i64 1, .int .i64 y], .int .i64 0])) := fun {F' W'} q => by
              have := cget_any q hok2 hne2 (4, a)
              rw [r2] at this
              exact this
            have HS2 := Hid.mk hs2
            obtain ⟨gs, cs, hsv, hcs, -⟩ := tw_slot h2 hs
            obtain ⟨ns, hns⟩ : ∃ ns, yv.m.slots.length = ns := ⟨_, rfl⟩
            rw [hns] at hsv hcs
            have hs3 : s < ns := by omega
            have hs4 : (s : Int) < (ns : Int) := by omega
            have HSV := Hid.mk hsv
            have HX : Hid (∀ {C' : Ch} {F' : List Asr} {W' : World} {yv' : Mv}, yv'.sv = yv.sv → bx B8 (.cells #[.int .i64 4, .int .i64 a, .int .i64 (D : Int), .int .i64 (s : Int), .int .i64 yv.m.which] 114) ∈ F' → Sep w (twL t b (.slice (some ⟨g, 0, none⟩) (l.length + 1 : Nat) c) (.slice (some ⟨gp, 0, none⟩) Q.length pc) (pre ++ yv' :: post) Q many ++ chP b p k sz ca C' F') W' → (W'.cell? ⟨t, 0, none⟩ = some (.pointer (some ⟨b, 0, none⟩)) ∧ W'.cell? ⟨B8, 0, none⟩ = some (.int .i64 4) ∧ W'.cell? ⟨B8, 1, none⟩ = some (.int .i64 a)) ∧ W'.cell? ⟨t, 1, none⟩ = some (.slice (some ⟨g, 0, none⟩) (lm + 1 : Nat) c) ∧ W'.cell? ⟨B8, 1, none⟩ = some (.int .i64 a) ∧ W'.cell? ⟨B8, 2, none⟩ = some (.int .i64 (D : Int)) ∧ W'.cell? ⟨B8, 3, none⟩ = some (.int .i64 (s : Int)) ∧ W'.cell? ⟨g, D * 7 + 4, none⟩ = some (.slice (some ⟨gs, 0, none⟩) ns cs)) := fun {C' F' W' yv'} hv hB q => by
              obtain ⟨e0, e1, -, -, -⟩ := tw_k q
              obtain ⟨f0, f1, f2, f3, f4⟩ := five_cells q (q := B8) (tw_mem hB)
              obtain ⟨g4, -⟩ := tw_modAt q
              rw [HPL.out, hv, hsv] at g4
              rw [HLM.out] at e1
              exact ⟨⟨e0, f0, f1⟩, e1, f1, f2, f3, g4⟩
            obtain ⟨⟨s0, s1, s2⟩, -⟩ := HX.out (yv' := yv) rfl (List.Mem.head _) h2
            have H2 := Hid.mk h2
            have HSL := Hid.mk hs
            have HHNO : Hid ((putN (Tw.N ⟨C, (x :: l).map (·.m), Q, many⟩) y) = Tw.N ⟨C2, modAt (D : Int).toNat (fun m => m.set s (1, y)) ((x :: l).map (·.m)), Q, many⟩) := by
              unfold Hid putN Tw.N
              simp only [List.map_cons]
              rw [HTOP.out.1]
              simp only
              rw [HTOP.out.2]
              simp only
              rw [HGA.out.1]
              simp only
              rw [if_pos trivial, Int.toNat_natCast, Int.toNat_natCast]
            clear h2 r1 sl0 sl1 r2 hs2 hs hok hok2 hne hne2 hC2 hsv hns
            go_upto_region 8 with (fail)
            go_quiet (fail)
            go_upto_region 10 with (fail)
            have h3 := Sep.keep H2.out (below_drewN (Below.refl X2.heap.size X2) nq)
            obtain ⟨X3, hX3⟩ : ∃ X, X = X2.drewN nq := ⟨_, rfl⟩
            rw [← hX3] at h3 ⊢
            obtain ⟨⟨s0, s1, s2⟩, -⟩ := HX.out (yv' := yv) rfl (List.Mem.head _) h3
            have H3 := Hid.mk h3
            clear h3 H2 hX3
            go_region_held3 (fun X => X.cell? ⟨t, 0, none⟩ = some (.pointer (some ⟨b, 0, none⟩)) ∧ X.cell? ⟨B8, 0, none⟩ = some (.int .i64 4) ∧ X.cell? ⟨B8, 1, none⟩ = some (.int .i64 a)) (first | exact s9 | exact s8 | exact ⟨s0, s1, s2⟩) (first | (go_at_call 15; refine (num_any y X3.drew).mono ?_; rintro e w5 ⟨hb5, rfl⟩; have s8 := And.intro (keep_dr hb5 s0) (And.intro (keep_dr hb5 s1) (keep_dr hb5 s2))) | (go_at_call 18; refine (HPUT.out (tw_ch (Sep.keep H3.out.drew hb5))).mono ?_; rintro e w6 ⟨h6, rfl⟩; have s9 := (HX.out (yv' := yv) rfl (List.Mem.head _) (ch_tw h6)).1))
            have h7 := ch_tw h6
            obtain ⟨-, s0, s1, s2, s3, s4⟩ := HX.out (yv' := yv) rfl (List.Mem.head _) h7
            have H7 := Hid.mk h7
            clear h6 h7 s8 s9 hb5 H3 HPUT
            go_upto_region 12 with (fail)
            go_region_held3 (fun X => X.cell? ⟨t, 1, none⟩ = some (.slice (some ⟨g, 0, none⟩) (lm + 1 : Nat) c) ∧ X.cell? ⟨B8, 1, none⟩ = some (.int .i64 a) ∧ X.cell? ⟨B8, 2, none⟩ = some (.int .i64 (D : Int)) ∧ X.cell? ⟨B8, 3, none⟩ = some (.int .i64 (s : Int)) ∧ X.cell? ⟨g, D * 7 + 4, none⟩ = some (.slice (some ⟨gs, 0, none⟩) ns cs)) (first | exact sS | exact s8 | exact ⟨s0, s1, s2, s3, s4⟩) (first | (go_at_call 15; refine (num_any y w6.drew).mono ?_; rintro e w8 ⟨hb8, rfl⟩; have h8 := Sep.keep H7.out.drew hb8; have s8 := (HX.out (yv' := yv) rfl (List.Mem.head _) h8).2; obtain ⟨q0, q1, q2, q3⟩ := tw_slotAt h8 HSL.out HSV.out; have q20 := q2 (s * 2); have q21 := q2 (s * 2 + 1); have q4 := q3 (1, y); have sS := (HX.out (yv' := { yv with m := yv.m.set s (1, y) }) rfl (List.Mem.head _) q4).2))
            have q4' := q4
            obtain ⟨X4, hX4⟩ : ∃ X, X = (w8.setCell ⟨gs, s * 2, none⟩ (.int .i64 1)).setCell ⟨gs, s * 2 + 1, none⟩ (.int .i64 y) := ⟨_, rfl⟩
            rw [← hX4] at q4' ⊢
            obtain ⟨⟨t0, t1, t2⟩, -⟩ := HX.out (yv' := { yv with m := yv.m.set s (1, y) }) rfl (List.Mem.head _) q4'
            have H4 := Hid.mk q4'
            clear q4 q4' q0 q1 q2 q3 q20 q21 sS s8 h8 hb8 H7 hX4 s0 s1 s2 s3 s4
            go_upto_region 13 with (fail)
            go_region_held3 (fun X => X.cell? ⟨t, 0, none⟩ = some (.pointer (some ⟨b, 0, none⟩)) ∧ X.cell? ⟨B8, 0, none⟩ = some (.int .i64 4) ∧ X.cell? ⟨B8, 1, none⟩ = some (.int .i64 a)) (first | exact s9 | exact ⟨alloc_cell s9.1, alloc_cell s9.2.1, alloc_cell s9.2.2⟩ | exact sF | exact ⟨t0, t1, t2⟩ | exact ⟨alloc_cell t0, alloc_cell t1, alloc_cell t2⟩) (first | (go_at_call 20; refine (HGET.out (tw_ch H4.out.drew)).mono ?_; rintro e w9 ⟨h9, hb9, rfl⟩; have h99 := ch_tw h9; have s9 := (HX.out (yv' := { yv with m := yv.m.set s (1, y) }) rfl (List.Mem.head _) h99).1) | (go_at_call 20; refine (HGET.out (tw_ch (tw_more H4.out (.cells #[.int .i64 0, .int .i64 0] 34)).drew)).mono ?_; rintro e w9 ⟨h9, hb9, rfl⟩; have h99 := ch_tw h9; have s9 := (HX.out (yv' := { yv with m := yv.m.set s (1, y) }) rfl (List.Mem.tail _ (List.Mem.head _)) h99).1; obtain ⟨n0, n1, n2⟩ := two_cells h99 (q := X4.heap.size) (tw_mem (List.Mem.head _)); have n20 := n2 0; have n21 := n2 1; have h10 := tw_storeF (tw_storeF h99 0 (.int .i64 1)) 1 (.int .i64 y); have sF := (HX.out (yv' := { yv with m := yv.m.set s (1, y) }) rfl (List.Mem.tail _ (List.Mem.head _)) h10).1))
            · have h10 := tw_more (ch_tw h9) (.cells #[.int .i64 1, .int .i64 y] 34)
              obtain ⟨X5, hX5⟩ : ∃ X, X = w9.alloc (.cells #[.int .i64 1, .int .i64 y] 34) := ⟨_, rfl⟩
              obtain ⟨B9, hB9⟩ : ∃ B, w9.heap.size = B := ⟨_, rfl⟩
              rw [← hX5, hB9] at h10
              rw [← hX5, hB9]
              obtain ⟨f0, f1, -⟩ := two_cells h10 (q := B9) (v1 := .int .i64 1) (v2 := .int .i64 y) (T := 34) (tw_mem (List.Mem.head _))
              have H10 := Hid.mk h10
              clear h10 h9 h99 hb9 s9 H4 hX5 hB9
              go_upto_region 14 with (fail)
              go_region_held3 (fun X => X.cell? ⟨B9, 0, none⟩ = some (.int .i64 1) ∧ X.cell? ⟨B9, 1, none⟩ = some (.int .i64 y)) (first | exact s8 | exact ⟨f0, f1⟩) (first | (go_at_call 15; refine (num_any y X5.drew).mono ?_; rintro e w11 ⟨hb11, rfl⟩; have s8 := And.intro (keep_dr hb11 f0) (keep_dr hb11 f1)))
              have h12 := tw_lose (tw_lose (tw_lose (Sep.keep H10.out.drew hb11)))
              have H12 := Hid.mk h12
              clear h12 hb11 H10 s8
              go_wp2_with fail
              go_ret
              exact ⟨⟨_, _, ⟨_, _, _, (by simp only [List.map_append, List.map_cons]; exact (HGA.out.2 (fun m => m.set (s : Int).toNat (1, y))).symm), H12.out⟩, HS2.out, HHNO.out.symm⟩, rfl⟩
            · obtain ⟨X5, hX5⟩ : ∃ X, X = (w9.setCell ⟨X4.heap.size, 0, none⟩ (.int .i64 1)).setCell ⟨X4.heap.size, 1, none⟩ (.int .i64 y) := ⟨_, rfl⟩
              obtain ⟨B9, hB9⟩ : ∃ B, X4.heap.size = B := ⟨_, rfl⟩
              rw [← hX5, hB9] at h10
              rw [← hX5, hB9]
              obtain ⟨f0, f1, -⟩ := two_cells h10 (q := B9) (v1 := .int .i64 1) (v2 := .int .i64 y) (T := 34) (tw_mem (List.Mem.head _))
              have H10 := Hid.mk h10
              clear h10 h9 h99 hb9 s9 sF n0 n1 n2 n20 n21 H4 hX5 hB9
              go_upto_region 14 with (fail)
              go_region_held3 (fun X => X.cell? ⟨B9, 0, none⟩ = some (.int .i64 1) ∧ X.cell? ⟨B9, 1, none⟩ = some (.int .i64 y)) (first | exact s8 | exact ⟨f0, f1⟩) (first | (go_at_call 15; refine (num_any y X5.drew).mono ?_; rintro e w11 ⟨hb11, rfl⟩; have s8 := And.intro (keep_dr hb11 f0) (keep_dr hb11 f1)))
              have h12 := tw_lose (tw_lose (tw_lose (Sep.keep H10.out.drew hb11)))
              have H12 := Hid.mk h12
              clear h12 hb11 H10 s8
              go_wp2_with fail
              go_ret
              exact ⟨⟨_, _, ⟨_, _, _, (by simp only [List.map_append, List.map_cons]; exact (HGA.out.2 (fun m => m.set (s : Int).toNat (1, y))).symm), H12.out⟩, HS2.out, HHNO.out.symm⟩, rfl⟩
          · have z2 : (yv.m.which != wh) = true := by simpa using hw
            have hno : putN (Tw.N ⟨C, (x :: l).map (·.m), Q, many⟩) y = Tw.N ⟨C, (x :: l).map (·.m), Q, many⟩ := by
              unfold putN Tw.N
              simp only [List.map_cons]
              rw [HTOP.out.1]
              simp only
              rw [HTOP.out.2]
              simp only
              rw [HGA.out.1]
              simp only
              rw [if_neg hw]
            have HNO := Hid.mk hno
            clear hno hw h2 c4
            go_upto_region 8 with (fail)
            go_quiet (fail)
            go_wp2_with fail
            go_ret
            exact ⟨HSAME.out (Sep.keep (tw_lose (tw_lose H2.out)) (below_drewN (Below.refl _ _) _)) HNO.out, rfl⟩
      · have HN : Hid (NoPtr (x.m.ops.drop j) ∧ Sep w (twL t b (.slice (some ⟨g, 0, none⟩) (l.length + 1 : Nat) c) (.slice pa Q.length pc) (x :: l) Q many ++ chP b p k sz ca C F) (wr.alloc (.cells #[.int .i64 u1, .int .i64 u2] 34))) := by
          obtain ⟨hjx, hu⟩ := HU.out
          exact ⟨NoPtr.more hjx HREL.out.1 (by rw [hu]; exact hp), tw_lose (tw_more HREL.out.2 _)⟩
        clear HREL hvo
        by_cases q : u1 = 4
        · have z0 : (u1 != 4) = false := by simpa using q
          have z1 : (u2 == 0) = true := by
            have : ¬ u2 ≠ 0 := fun c => hp ⟨q, c⟩
            simpa using this
          clear hp q
          go_wp2_with fail
          exact ⟨⟨j, rfl, by omega, HN⟩, by simp [intOf]⟩
        · have z0 : (u1 != 4) = true := by simpa using q
          clear hp q
          go_wp2_with fail
          exact ⟨⟨j, rfl, by omega, HN⟩, by simp [intOf]⟩
end
end Go.Proofs.Ytpfnnmcokbolhaa
/- The twin's alike. -/
namespace Go.Proofs.Ytpfnnmcokbolhaa
open Go.RowKit
set_option pp.deepTerms true
section
variable {w W : World} {F G : List Asr} {t b p k g c : Nat} {sz ca many : Int} {C : Ch} {lv pv : Value} {ml l : List Mv} {x : Mv} {Q : List (Int × Pf)} {A : Asr} {T : Tw} {Z : List (Md × Af)} {n : Nat}
theorem cdepth_G (h : Sep w (twL t b lv pv ml Q many ++ chP b p k sz ca C F) W) {m : Nat} (hm : C.F.length = m) : Calls Try.prog 10 #[.pointer (some ⟨b, 0, none⟩)] W fun e w' => w' = W ∧ e = .returned (.int .i64 m) := by
  have := cdepth_any (tw_ch h)
  rw [hm] at this
  exact this
theorem cheight_G (h : Sep w (twL t b lv pv ml Q many ++ chP b p k sz ca C F) W) (ok : ChOk C) {m : Int} (hm : heightC C = m) : Calls Try.prog 25 #[.pointer (some ⟨b, 0, none⟩)] W fun e w' => Sep w (twL t b lv pv ml Q many ++ chP b p k sz ca C F) w' ∧ Below W.heap.size W w' ∧ e = .returned (.int .i64 m) := by
  have := cheight_any (tw_ch h) ok
  rw [hm] at this
  exact this.mono (fun e w' ⟨q1, q2, q3⟩ => ⟨ch_tw q1, q2, q3⟩)
theorem cload_G (h : Sep w (twL t b lv pv ml Q many ++ chP b p k sz ca C F) W) (ok : ChOk C) (hF : C.F ≠ []) {i : Int} {v : Int × Int} (hm : loadC C i = (v, 0)) : Calls Try.prog 19 #[.pointer (some ⟨b, 0, none⟩), .int .i64 i] W fun e w' => Sep w (twL t b lv pv ml Q many ++ chP b p k sz ca C F) w' ∧ Below W.heap.size W w' ∧ e = .returned (.tuple #[.agg #[.int .i64 v.1, .int .i64 v.2], .int .i64 0]) := by
  have := cload_any (tw_ch h) ok hF i
  rw [hm] at this
  exact this.mono (fun e w' ⟨q1, q2, q3⟩ => ⟨ch_tw q1, q2, q3⟩)
/-- the top model's slots as read -/
theorem tw_svAt {gs ns cs : Nat} (h : Sep w (twL t b lv pv (x :: l) Q many ++ G) W) (hsv : x.sv = .slice (some ⟨gs, 0, none⟩) ns cs) {j : Nat} (hj : j < x.m.slots.length) : W.cell? ⟨gs, j * 2, none⟩ = some (.int .i64 x.m.slots[j].1) ∧ W.cell? ⟨gs, j * 2 + 1, none⟩ = some (.int .i64 x.m.slots[j].2) := by
  obtain ⟨h1, h2, -⟩ := tw_slotAt (pre := []) h hj hsv
  exact ⟨h1, h2⟩
theorem tw_svShape (h : Sep w (twL t b lv pv (x :: l) Q many ++ G) W) : ∃ sa sc, x.sv = .slice sa x.m.slots.length sc ∧ (0 < x.m.slots.length → ∃ gs, sa = some ⟨gs, 0, none⟩) := by
  obtain ⟨-, hr, -⟩ := tw_rd (pre := []) h
  by_cases q : 0 < x.m.slots.length
  · obtain ⟨g, c, e, -⟩ := tw_slot (pre := []) h (i := 0) q
    exact ⟨_, _, e, fun _ => ⟨_, rfl⟩⟩
  · obtain ⟨sa, sc, e⟩ := hr.shape
    exact ⟨sa, sc, e, fun q' => absurd q' q⟩
theorem tw_lvShape (h : Sep w (twL t b lv pv (x :: l) Q many ++ G) W) : ∃ la lc, x.lv = .slice la x.m.lay.slots.length lc := by
  obtain ⟨hr, -, -⟩ := tw_rd (pre := []) h
  obtain ⟨sa, sc, e⟩ := hr.shape
  exact ⟨sa, sc, e⟩
theorem seven_cells {q : Nat} {v1 v2 v3 v4 v5 v6 v7 : Value} {T : TypeId} {L : List Asr} (h : Sep w L W) (hm : bx q (.cells #[v1, v2, v3, v4, v5, v6, v7] T) ∈ L) : W.cell? ⟨q, 4, none⟩ = some v5 ∧ W.cell? ⟨q, 5, none⟩ = some v6 := by
  have B := Sep.at h hm
  exact ⟨by rw [cell_of_row _ _ 4 _ _ _ B]; rfl, by rw [cell_of_row _ _ 5 _ _ _ B]; rfl⟩
set_option maxRecDepth 100000 in
set_option maxHeartbeats 4000000 in
theorem talike_nil (h : Sep w (twL t b lv pv [] Q many ++ chP b p k sz ca C F) W) (hs : Sim sz ca n ⟨C, [], Q, many⟩ Z) (hn : n ≤ 290) :
    Calls Try.prog 9 #[.pointer (some ⟨t, 0, none⟩)] W fun e w' => Sep w (twL t b lv pv [] Q many ++ chP b p k sz ca C F) w' ∧ e = .returned (.bool true) := by
  have hok := hs.ok (by omega)
  have hF : C.F.length = 0 := by have := hs.len.2; simpa using this
  have hH : heightC C = 0 := hs.height
  obtain ⟨⟨ao, c, rfl⟩, -⟩ := tw_shapes h
  obtain ⟨k0, k1, -, -, -⟩ := tw_k h
  simp only [List.length_nil] at k1
  have HD := Hid.mk (cdepth_G h.drew hF)
  have HH : Hid (∀ {W'}, Sep w (twL t b (.slice ao ([] : List Mv).length c) pv [] Q many ++ chP b p k sz ca C F) W' → Calls Try.prog 25 #[.pointer (some ⟨b, 0, none⟩)] W' fun e w' => Sep w (twL t b (.slice ao ([] : List Mv).length c) pv [] Q many ++ chP b p k sz ca C F) w' ∧ Below W'.heap.size W' w' ∧ e = .returned (.int .i64 0)) := fun {W'} q => cheight_G q hok hH
  have H := Hid.mk h
  clear h hs hF hH hok
  go_enter Try.func9, Try.ntmps9
  go_upto_region 1 with (fail)
  go_region_held3 (fun X => X.cell? ⟨t, 0, none⟩ = some (.pointer (some ⟨b, 0, none⟩)) ∧ X.cell? ⟨t, 1, none⟩ = some (.slice ao 0 c)) (first | exact s9 | exact ⟨k0, k1⟩) (first | (go_at_call 10; refine HD.out.mono ?_; rintro e w2 ⟨rfl, rfl⟩; have s9 := And.intro (show W.drew.cell? _ = _ from k0) (show W.drew.cell? _ = _ from k1)))
  have k0' := s9.1
  have k1' := s9.2
  clear s9 k0 k1 HD
  go_wp2_with fail
  refine (HH.out H.out.drew).mono ?_
  rintro e w3 ⟨h3, -, rfl⟩
  have H3 := Hid.mk h3
  clear h3 HH H k0' k1'
  go_wp2_with fail
  go_ret
  exact ⟨H3.out, rfl⟩
set_option maxRecDepth 100000 in
set_option maxHeartbeats 4000000 in
theorem talike_cons (h : Sep w (twL t b lv pv (x :: l) Q many ++ chP b p k sz ca C F) W) (hs : Sim sz ca n ⟨C, (x :: l).map (·.m), Q, many⟩ Z) (hn : n ≤ 290) :
    Calls Try.prog 9 #[.pointer (some ⟨t, 0, none⟩)] W fun e w' => Sep w (twL t b lv pv (x :: l) Q many ++ chP b p k sz ca C F) w' ∧ e = .returned (.bool true) := by
  have hok := hs.ok (by omega)
  have hne := hs.ne rfl
  obtain ⟨g, c, rfl, hc, -, -, -, -, -, k5, -, -⟩ := tw_top h
  obtain ⟨ao, c2, hov, hc2, -⟩ := tw_ovShape h
  obtain ⟨sa, sc, hsv, hsa⟩ := tw_svShape h
  obtain ⟨la, lc, hlv⟩ := tw_lvShape h
  obtain ⟨k0, k1, -, -, -⟩ := tw_k h
  obtain ⟨-, hsl, hs64, hoh, hol⟩ := hs.md (m := x.m) (by simp)
  have hll : l.length ≤ 290 := by
    have := hs.len.1
    simp at this
    omega
  have hF : C.F.length = l.length + 1 := by have := hs.len.2; simpa using this
  have hH : heightC C = (x.m.ops.length : Int) := hs.height
  have HLOAD : Hid (∀ (i : Nat) (hi : i < x.m.slots.length), loadC C i = (here Q x.m.slots[i], 0)) := fun i hi => hs.load rfl hi
  have HVO : Hid (∀ (i : Nat) (hi : i < x.m.slots.length), x.m.slots[i].1 = 4 → x.m.slots[i].2 ≤ Q.length) := fun i hi q => ((hs.vo (m := x.m) (by simp)).1 _ (List.getElem_mem hi)).2 q
  have hql := hs.n2
  simp only at hql
  have HQL : Hid (Q.length ≤ 1000000) := Hid.mk (by omega)
  obtain ⟨lm, hlm⟩ : ∃ lm, l.length = lm := ⟨_, rfl⟩
  obtain ⟨m, hm⟩ : ∃ m, x.m.ops.length = m := ⟨_, rfl⟩
  obtain ⟨ns, hns⟩ : ∃ ns, x.m.slots.length = ns := ⟨_, rfl⟩
  obtain ⟨ln, hln⟩ : ∃ ln, x.m.lay.slots.length = ln := ⟨_, rfl⟩
  have HLM := Hid.mk hlm
  have HM := Hid.mk hm
  have HNS := Hid.mk hns
  rw [hm] at hov hH hol
  rw [hns] at hsv hsa hs64
  rw [hln] at hlv
  rw [hlm] at hF hll hc k1
  have HOV := Hid.mk hov
  have HSV := Hid.mk hsv
  have HLV := Hid.mk hlv
  have HOK := Hid.mk hok
  have HNE := Hid.mk hne
  have HD := Hid.mk (cdepth_G h.drew hF)
  have HH : Hid (∀ {F' W'}, Sep w (twL t b (.slice (some ⟨g, 0, none⟩) (l.length + 1 : Nat) c) pv (x :: l) Q many ++ chP b p k sz ca C F') W' → Calls Try.prog 25 #[.pointer (some ⟨b, 0, none⟩)] W' fun e w' => Sep w (twL t b (.slice (some ⟨g, 0, none⟩) (l.length + 1 : Nat) c) pv (x :: l) Q many ++ chP b p k sz ca C F') w' ∧ Below W'.heap.size W' w' ∧ e = .returned (.int .i64 m)) := fun {F' W'} q => cheight_G q hok hH
  have H := Hid.mk h
  have w1 : IntKind.i64.wrap (((lm + 1 : Nat) : Int) - 1) = (lm : Int) := by rw [IntKind.wrap_i64]; omega
  have w2 : IntKind.i64.wrap ((lm : Int) + 1 - 1) = (lm : Int) := by rw [IntKind.wrap_i64]; omega
  have w3 : IntKind.i64.wrap (lm : Int) = (lm : Int) := by rw [IntKind.wrap_i64]; omega
  have hk3 : lm < lm + 1 := by omega
  have hk4 : (lm : Int) < (lm : Int) + 1 := by omega
  have z1 : ((lm : Int) + 1 == 0) = false := by simp; omega
  have z2 : ((lm : Int) + 1 != (lm : Int) + 1) = false := by simp
  clear h hs hF hH hok hne hsl hoh hov hsv hlv hlm hm hns hln k5
  go_enter Try.func9, Try.ntmps9
  go_upto_region 1 with (fail)
  go_region_held3 (fun X => X.cell? ⟨t, 0, none⟩ = some (.pointer (some ⟨b, 0, none⟩)) ∧ X.cell? ⟨t, 1, none⟩ = some (.slice (some ⟨g, 0, none⟩) (lm + 1 : Nat) c)) (first | exact s9 | exact ⟨k0, k1⟩) (first | (go_at_call 10; refine HD.out.mono ?_; rintro e w2 ⟨rfl, rfl⟩; have s9 := And.intro (show W.drew.cell? _ = _ from k0) (show W.drew.cell? _ = _ from k1)))
  have h1 := H.out.drew
  obtain ⟨W1, hW1⟩ : ∃ X, X = W.drew := ⟨_, rfl⟩
  rw [← hW1] at h1 ⊢
  obtain ⟨-, k1', -, -, -⟩ := tw_k h1
  rw [HLM.out] at k1'
  obtain ⟨-, q0, q1, q2, q3, q4, q5, q6, -⟩ := tw_topAt h1
  rw [HLM.out] at q0 q1 q2 q3 q4 q5 q6
  rw [HLV.out] at q0
  rw [HSV.out] at q4
  rw [HOV.out] at q5
  have H1 := Hid.mk h1
  clear s9 k0 k1 HD h1 H hW1
  go_upto_region 5 with (fail)
  refine wp_region_L 13 (fun X => X.cell? ⟨t, 1, none⟩ = some (.slice (some ⟨g, 0, none⟩) (lm + 1 : Nat) c) ∧ X.cell? ⟨g, lm * 7, none⟩ = some (.slice la ln lc) ∧ X.cell? ⟨g, lm * 7 + 1, none⟩ = some (.int .i64 x.m.lay.args) ∧ X.cell? ⟨g, lm * 7 + 2, none⟩ = some (.int .i64 x.m.lay.res) ∧ X.cell? ⟨g, lm * 7 + 3, none⟩ = some (.int .i64 x.m.lay.height) ∧ X.cell? ⟨g, lm * 7 + 4, none⟩ = some (.slice sa ns sc) ∧ X.cell? ⟨g, lm * 7 + 5, none⟩ = some (.slice ao m c2) ∧ X.cell? ⟨g, lm * 7 + 6, none⟩ = some (.int .i64 x.m.which)) (by kernel_rfl) ⟨k1', q0, q1, q2, q3, q4, q5, q6⟩ (fun hHeld => ?_)
  refine wpAnyL_take (i := 0) (v := ?_) rfl (by kernel_rfl) (by kernel_rfl) (by kernel_rfl) (by kernel_rfl) (fun _ _ _ h => h) (Or.inl ⟨by rfl, ?_⟩) (by assumption) ?_
  rotate_left
  · (intro w hSw; (try dsimp only at hSw); go_simp <;> with_reducible rfl)
  (try simp only [Act.put, List.getElem_toArray, List.getElem_cons_zero, List.getElem_cons_succ, List.setIfInBounds_toArray, List.set_cons_zero, List.set_cons_succ])
  refine wpAnyL_take (i := 1) (v := ?_) rfl (by kernel_rfl) (by kernel_rfl) (by kernel_rfl) (by kernel_rfl) (fun _ _ _ h => h) (Or.inl ⟨by rfl, ?_⟩) (by assumption) ?_
  rotate_left
  · (intro w hSw; (try dsimp only at hSw); go_simp <;> with_reducible rfl)
  (try simp only [Act.put, List.getElem_toArray, List.getElem_cons_zero, List.getElem_cons_succ, List.setIfInBounds_toArray, List.set_cons_zero, List.set_cons_succ])
  refine wpAnyL_take (i := 2) (v := ?_) rfl (by kernel_rfl) (by kernel_rfl) (by kernel_rfl) (by kernel_rfl) (fun _ _ _ h => h) (Or.inl ⟨by rfl, ?_⟩) (by assumption) ?_
  rotate_left
  · (intro w hSw; (try dsimp only at hSw); go_simp <;> with_reducible rfl)
  (try simp only [Act.put, List.getElem_toArray, List.getElem_cons_zero, List.getElem_cons_succ, List.setIfInBounds_toArray, List.set_cons_zero, List.set_cons_succ])
  refine wpAnyL_take (i := 3) (v := ?_) rfl (by kernel_rfl) (by kernel_rfl) (by kernel_rfl) (by kernel_rfl) (fun _ _ _ h => h) (Or.inl ⟨by rfl, ?_⟩) (by assumption) ?_
  rotate_left
  · (intro w hSw; (try dsimp only at hSw); go_simp <;> with_reducible rfl)
  (try simp only [Act.put, List.getElem_toArray, List.getElem_cons_zero, List.getElem_cons_succ, List.setIfInBounds_toArray, List.set_cons_zero, List.set_cons_succ])
  refine wpAnyL_take (i := 4) (v := ?_) rfl (by kernel_rfl) (by kernel_rfl) (by kernel_rfl) (by kernel_rfl) (fun _ _ _ h => h) (Or.inl ⟨by rfl, ?_⟩) (by assumption) ?_
  rotate_left
  · (intro w hSw; (try dsimp only at hSw); go_simp <;> with_reducible rfl)
  (try simp only [Act.put, List.getElem_toArray, List.getElem_cons_zero, List.getElem_cons_succ, List.setIfInBounds_toArray, List.set_cons_zero, List.set_cons_succ])
  refine wpAnyL_take (i := 5) (v := ?_) rfl (by kernel_rfl) (by kernel_rfl) (by kernel_rfl) (by kernel_rfl) (fun _ _ _ h => h) (Or.inl ⟨by rfl, ?_⟩) (by assumption) ?_
  rotate_left
  · (intro w hSw; (try dsimp only at hSw); go_simp <;> with_reducible rfl)
  (try simp only [Act.put, List.getElem_toArray, List.getElem_cons_zero, List.getElem_cons_succ, List.setIfInBounds_toArray, List.set_cons_zero, List.set_cons_succ])
  refine wpAnyL_take (i := 6) (v := ?_) rfl (by kernel_rfl) (by kernel_rfl) (by kernel_rfl) (by kernel_rfl) (fun _ _ _ h => h) (Or.inl ⟨by rfl, ?_⟩) (by assumption) ?_
  rotate_left
  · (intro w hSw; (try dsimp only at hSw); go_simp <;> with_reducible rfl)
  (try simp only [Act.put, List.getElem_toArray, List.getElem_cons_zero, List.getElem_cons_succ, List.setIfInBounds_toArray, List.set_cons_zero, List.set_cons_succ])
  refine wpAnyL_take (i := 7) (v := ?_) rfl (by kernel_rfl) (by kernel_rfl) (by kernel_rfl) (by kernel_rfl) (fun _ _ _ h => h) (Or.inl ⟨by rfl, ?_⟩) (by assumption) ?_
  rotate_left
  · (intro w hSw; (try dsimp only at hSw); go_simp <;> with_reducible rfl)
  (try simp only [Act.put, List.getElem_toArray, List.getElem_cons_zero, List.getElem_cons_succ, List.setIfInBounds_toArray, List.set_cons_zero, List.set_cons_succ])
  refine wpAnyL_take (i := 8) (v := ?_) rfl (by kernel_rfl) (by kernel_rfl) (by kernel_rfl) (by kernel_rfl) (fun _ _ _ h => h) (Or.inl ⟨by rfl, ?_⟩) (by assumption) ?_
  rotate_left
  · (intro w hSw; (try dsimp only at hSw); go_simp <;> with_reducible rfl)
  (try simp only [Act.put, List.getElem_toArray, List.getElem_cons_zero, List.getElem_cons_succ, List.setIfInBounds_toArray, List.set_cons_zero, List.set_cons_succ])
  refine wpAnyL_take (i := 9) (v := ?_) rfl (by kernel_rfl) (by kernel_rfl) (by kernel_rfl) (by kernel_rfl) (fun _ _ _ h => h) (Or.inl ⟨by rfl, ?_⟩) (by assumption) ?_
  rotate_left
  · (intro w hSw; (try dsimp only at hSw); go_simp <;> with_reducible rfl)
  (try simp only [Act.put, List.getElem_toArray, List.getElem_cons_zero, List.getElem_cons_succ, List.setIfInBounds_toArray, List.set_cons_zero, List.set_cons_succ])
  refine wpAnyL_take (i := 10) (v := ?_) rfl (by kernel_rfl) (by kernel_rfl) (by kernel_rfl) (by kernel_rfl) (fun _ _ _ h => h) (Or.inl ⟨by rfl, ?_⟩) (by assumption) ?_
  rotate_left
  · (intro w hSw; (try dsimp only at hSw); go_simp <;> with_reducible rfl)
  (try simp only [Act.put, List.getElem_toArray, List.getElem_cons_zero, List.getElem_cons_succ, List.setIfInBounds_toArray, List.set_cons_zero, List.set_cons_succ])
  refine wpAnyL_take (i := 11) (v := ?_) rfl (by kernel_rfl) (by kernel_rfl) (by kernel_rfl) (by kernel_rfl) (fun _ _ _ h => h) (Or.inl ⟨by rfl, ?_⟩) (by assumption) ?_
  rotate_left
  · (intro w hSw; (try dsimp only at hSw); go_simp <;> with_reducible rfl)
  (try simp only [Act.put, List.getElem_toArray, List.getElem_cons_zero, List.getElem_cons_succ, List.setIfInBounds_toArray, List.set_cons_zero, List.set_cons_succ])
  refine wpAnyL_only (i := 12) (by kernel_rfl) rfl (fun K hK => ?_)
  go_simp
  refine hK _ _ (fun _ => ⟨alloc_cell hHeld.1, alloc_cell hHeld.2.1, alloc_cell hHeld.2.2.1, alloc_cell hHeld.2.2.2.1, alloc_cell hHeld.2.2.2.2.1, alloc_cell hHeld.2.2.2.2.2.1, alloc_cell hHeld.2.2.2.2.2.2.1, alloc_cell hHeld.2.2.2.2.2.2.2⟩) (fun hHeld0 => ?_)
  have hHeld := hHeld0 rfl
  clear hK K hHeld0
  (try simp only [Act.put, List.getElem_toArray, List.getElem_cons_zero, List.getElem_cons_succ, List.setIfInBounds_toArray, List.set_cons_zero, List.set_cons_succ])
  refine wpAnyL_only (i := 13) (by kernel_rfl) rfl (fun K hK => ?_)
  go_simp
  refine hK _ _ (fun q => by cases q) (fun hHeld0 => ?_)
  clear hK K hHeld0
  refine wpAnyL_done (by kernel_rfl) ?_
  have h2 := (tw_more H1.out (.cells #[.slice la ln lc, .int .i64 x.m.lay.args, .int .i64 x.m.lay.res, .int .i64 x.m.lay.height, .slice sa ns sc, .slice ao m c2, .int .i64 x.m.which] 44)).drew
  obtain ⟨B3, hB3⟩ : ∃ B, W1.heap.size = B := ⟨_, rfl⟩
  obtain ⟨X2, hX2⟩ : ∃ X, X = (W1.alloc (.cells #[.slice la ln lc, .int .i64 x.m.lay.args, .int .i64 x.m.lay.res, .int .i64 x.m.lay.height, .slice sa ns sc, .slice ao m c2, .int .i64 x.m.which] 44)).drew := ⟨_, rfl⟩
  rw [← hX2, hB3] at h2
  rw [← hX2, hB3]
  obtain ⟨b4, b5⟩ := seven_cells h2 (q := B3) (tw_mem (List.Mem.head _))
  have H2 := Hid.mk h2
  clear hX2 hB3 H1 hHeld k1' q0 q1 q2 q3 q4 q5 q6 h2
  go_wp2_with fail
  go_loopw [46] (fun i wr => ∃ j : Nat, i = .int .i64 (j : Int) ∧ j ≤ ns ∧ Hid (Sep w (twL t b (.slice (some ⟨g, 0, none⟩) (l.length + 1 : Nat) c) pv (x :: l) Q many ++ chP b p k sz ca C (bx B3 (.cells #[.slice la ln lc, .int .i64 x.m.lay.args, .int .i64 x.m.lay.res, .int .i64 x.m.lay.height, .slice sa ns sc, .slice ao m c2, .int .i64 x.m.which] 44) :: F)) wr)) (fun i _ => ns - (intOf i).toNat)
  case atStart => exact ⟨0, rfl, Nat.zero_le _, H2⟩
  case round =>
    obtain ⟨j, rfl, hj, HREL⟩ := hrel
    clear b4 b5
    by_cases hlt : j < ns
    · obtain ⟨gs, rfl⟩ := hsa (by omega)
      have hjx : j < x.m.slots.length := by rw [HNS.out]; omega
      obtain ⟨o0, o1⟩ := tw_svAt HREL.out HSV.out hjx
      obtain ⟨k0, -, -, -, -⟩ := tw_k HREL.out
      obtain ⟨⟨u1, u2⟩, hu⟩ : ∃ u, x.m.slots[j] = u := ⟨_, rfl⟩
      have hld := HLOAD.out j hjx
      have hvo := HVO.out j hjx
      rw [hu] at o0 o1 hld hvo
      simp only at o0 o1 hvo
      obtain ⟨⟨r1, r2⟩, hr⟩ : ∃ r, here Q (u1, u2) = r := ⟨_, rfl⟩
      rw [hr] at hld
      have hlt' : (j : Int) < (ns : Int) := by omega
      have h3 := tw_more HREL.out (.cells #[.int .i64 u1, .int .i64 u2] 34)
      obtain ⟨B5, hB5⟩ : ∃ B, wr.heap.size = B := ⟨_, rfl⟩
      rw [hB5] at h3
      have HL := Hid.mk (cload_G h3 HOK.out HNE.out hld)
      have k0' := (tw_k h3).1
      have HT : Hid (∀ {G' : List Asr} {W'}, Sep w (twL t b (.slice (some ⟨g, 0, none⟩) (l.length + 1 : Nat) c) pv (x :: l) Q many ++ G') W' → Calls Try.prog 32 #[.pointer (some ⟨t, 0, none⟩), .agg #[.int .i64 u1, .int .i64 u2]] W' fun e w' => Below W'.heap.size W' w' ∧ e = .returned (.agg #[.int .i64 r1, .int .i64 r2])) := fun {G' W'} q => by
        have := there_any q (u1, u2) hvo HQL.out
        rw [hr] at this
        exact this
      clear hu hld hvo hr hjx h3
      go_upto_region 9 with (fail)
      go_wp2_with fail
      refine HL.out.mono ?_
      rintro e w4 ⟨h4, -, rfl⟩
      have h5 := tw_more h4 (.cells #[.int .i64 r1, .int .i64 r2] 34)
      obtain ⟨B6, hB6⟩ : ∃ B, w4.heap.size = B := ⟨_, rfl⟩
      obtain ⟨X5, hX5⟩ : ∃ X, X = w4.alloc (.cells #[.int .i64 r1, .int .i64 r2] 34) := ⟨_, rfl⟩
      rw [hB6, ← hX5] at h5
      obtain ⟨e0, e1, -⟩ := two_cells h5 (q := B6) (tw_mem (List.Mem.head _))
      obtain ⟨e2, e3, -⟩ := two_cells h5 (q := B5) (tw_mem (List.Mem.tail _ (List.Mem.head _)))
      have H5 := Hid.mk h5
      clear h4 h5 HL HREL k0 k0' o0 o1 hB5
      go_upto_region 10 with (fail)
      rw [← hX5]
      clear hX5 hB6
      go_region_held3 (fun X => X.cell? ⟨B6, 0, none⟩ = some (.int .i64 r1) ∧ X.cell? ⟨B6, 1, none⟩ = some (.int .i64 r2) ∧ X.cell? ⟨B5, 0, none⟩ = some (.int .i64 u1) ∧ X.cell? ⟨B5, 1, none⟩ = some (.int .i64 u2)) (first | exact s9 | exact ⟨e0, e1, e2, e3⟩) (first | (go_at_call 32; refine (HT.out H5.out.drew).mono ?_; rintro e w6 ⟨hb6, rfl⟩; have s9 := And.intro (keep_dr hb6 e0) (And.intro (keep_dr hb6 e1) (And.intro (keep_dr hb6 e2) (keep_dr hb6 e3)))))
      have H6 := Hid.mk (tw_lose (tw_lose (Sep.keep H5.out.drew hb6)))
      clear H5 HT hb6 s9 e0 e1 e2 e3
      go_wp2_with fail
      exact ⟨⟨j + 1, by go_num, by omega, H6⟩, by simp [intOf]; omega⟩
    · obtain rfl : j = ns := by omega
      have h3 := HREL.out
      obtain ⟨b4, b5⟩ := seven_cells h3 (q := B3) (tw_mem (List.Mem.head _))
      obtain ⟨k0, -, -, -, -⟩ := tw_k h3
      have H3 := Hid.mk h3
      clear h3 HREL
      go_upto_region 13 with (fail)
      go_region_held3 (fun X => X.cell? ⟨t, 0, none⟩ = some (.pointer (some ⟨b, 0, none⟩)) ∧ X.cell? ⟨B3, 5, none⟩ = some (.slice ao m c2)) (first | exact s9 | exact ⟨k0, b5⟩) (first | (go_at_call 25; refine (HH.out H3.out.drew).mono ?_; rintro e w6 ⟨h6, -, rfl⟩; have s9 := And.intro (tw_k h6).1 (seven_cells h6 (q := B3) (tw_mem (List.Mem.head _))).2))
      have H6 := Hid.mk (tw_lose h6)
      clear H3 HH h6 s9
      go_wp2_with fail
      go_ret
      exact ⟨H6.out, rfl⟩
end
end Go.Proofs.Ytpfnnmcokbolhaa
