/- Parts Ui Uj Uk Ul, put together. -/
import Derived.Test.YtpfnnmcokbolhaaGreatMd8
import Derived.Test.YtpfnnmcokbolhaaGreatMd15
import Derived.Test.YtpfnnmcokbolhaaGreatMd19
/- The twin's put. -/
namespace Go.Proofs.YtpfnnmcokbolhaaGreat
open Go.RowKit
set_option pp.deepTerms true
section
variable {w W : World} {F G : List Asr} {t b p k g c : Nat} {sz ca many : Int} {C : Ch} {lv pv : Value} {ml l : List Mv} {x : Mv} {Q : List (Int × Pf)} {A : Asr} {T : Tw} {Z : List (Md × Af)} {n : Nat}
set_option maxRecDepth 100000 in
set_option maxHeartbeats 4000000 in
theorem tput_any (h : Sep w (twL t b lv pv (x :: l) Q many ++ chP b p k sz ca C F) W) (hs : Sim sz ca n ⟨C, (x :: l).map (·.m), Q, many⟩ Z) (hn : n ≤ 290) (y : Int) :
    Calls Tryz.prog 32 #[.pointer (some ⟨t, 0, none⟩), .int .i64 y] W fun e w' => TwR w w' t b p k sz ca n (putN (Tw.N ⟨C, (x :: l).map (·.m), Q, many⟩) y) F ∧ e = .returned (.bool true) := by
  have HSIM := Hid.mk hs
  have HSAME : Hid (∀ {W'}, Sep w (twL t b lv pv (x :: l) Q many ++ chP b p k sz ca C F) W' → putN (Tw.N ⟨C, (x :: l).map (·.m), Q, many⟩) y = Tw.N ⟨C, (x :: l).map (·.m), Q, many⟩ → TwR w W' t b p k sz ca n (putN (Tw.N ⟨C, (x :: l).map (·.m), Q, many⟩) y) F) := fun {W'} q e => ⟨_, _, ⟨_, _, _, rfl, q⟩, hs, e.symm⟩
  obtain ⟨g, c, rfl, hc, -, -, -, -, -, k5, -, -⟩ := tw_top h
  obtain ⟨pa, pc, rfl⟩ := (tw_shapes h).2
  obtain ⟨k0, k1, k2, -, -⟩ := tw_k h
  obtain ⟨ao, c2, hov, hc2, hao⟩ := tw_ovShape h
  rw [hov] at k5
  obtain ⟨-, -, -, -, hol⟩ := hs.md (m := x.m) (by simp)
  have hll : l.length ≤ 290 := by
    have := hs.len.1
    simp at this
    omega
  obtain ⟨lm, hlm⟩ : ∃ lm, l.length = lm := ⟨_, rfl⟩
  obtain ⟨m, hm⟩ : ∃ m, x.m.ops.length = m := ⟨_, rfl⟩
  have HLM := Hid.mk hlm
  have HM := Hid.mk hm
  have HOV := Hid.mk hov
  have H := Hid.mk h
  rw [hlm] at hc k1 k5 hll
  rw [hm] at k5 hol hc2 hao
  have w1 : IntKind.i64.wrap (((lm + 1 : Nat) : Int) - 1) = (lm : Int) := by rw [IntKind.wrap_i64]; omega
  have w2 : IntKind.i64.wrap ((lm : Int) + 1 - 1) = (lm : Int) := by rw [IntKind.wrap_i64]; omega
  have w3 : IntKind.i64.wrap ((m : Int) - 1) = (m : Int) - 1 := by rw [IntKind.wrap_i64]; omega
  have hk3 : lm < lm + 1 := by omega
  have hk4 : (lm : Int) < (lm : Int) + 1 := by omega
  clear h hs hlm hm hov
  go_enter Tryz.func32, Tryz.ntmps32
  go_upto_region 1 with (fail)
  go_quiet (fail)
  go_wp2_with fail
  go_loopw [6] (fun i wr => ∃ j : Nat, i = .int .i64 ((j : Int) - 1) ∧ j ≤ m ∧ Hid (NoPtr (x.m.ops.drop j) ∧ Sep w (twL t b (.slice (some ⟨g, 0, none⟩) (l.length + 1 : Nat) c) (.slice pa Q.length pc) (x :: l) Q many ++ chP b p k sz ca C F) wr)) (fun i _ => (intOf i + 1).toNat)
  case atStart => exact ⟨m, rfl, Nat.le_refl _, Hid.mk ⟨by rw [← HM.out, List.drop_length]; simp [NoPtr], Sep.keep H.out (below_drewN (Below.refl _ _) nq)⟩⟩
  case round =>
    obtain ⟨j, hi, hj, HREL⟩ := hrel
    clear k0 k1 k2 k5
    rcases j with _ | j
    · subst hi
      have hno : putN (Tw.N ⟨C, (x :: l).map (·.m), Q, many⟩) y = Tw.N ⟨C, (x :: l).map (·.m), Q, many⟩ := by
        have := topPtr_none (by simpa using HREL.out.1)
        unfold putN Tw.N
        simp only [List.map_cons]
        rw [this]
      have HNO := Hid.mk hno
      clear hno
      go_wp2_with fail
      go_ret
      exact ⟨HSAME.out HREL.out.2 HNO.out, rfl⟩
    · have e0 : ((j + 1 : Nat) : Int) - 1 = (j : Int) := by omega
      rw [e0] at hi
      subst hi
      obtain ⟨g2, hg2⟩ := hao (by omega)
      have hg2' : some (⟨g2, 0, none⟩ : Addr) = ao := hg2.symm
      have hjx : j < x.m.ops.length := by rw [HM.out]; omega
      obtain ⟨o0, o1⟩ := tw_ovAt HREL.out.2 (by rw [HOV.out, HM.out, hg2]) HM.out hjx
      obtain ⟨-, -, -, -, -, -, k5, -, -⟩ := tw_topAt HREL.out.2
      rw [HOV.out, HM.out, hg2, HLM.out] at k5
      obtain ⟨k0, k1, k2, -, -⟩ := tw_k HREL.out.2
      rw [HLM.out] at k1
      have hvo := (HSIM.out.vo (m := x.m) (by simp)).2 _ (List.getElem_mem hjx)
      obtain ⟨u, hu⟩ : ∃ u, x.m.ops[j] = u := ⟨_, rfl⟩
      have HU : Hid (∃ hj : j < x.m.ops.length, x.m.ops[j] = u) := ⟨hjx, hu⟩
      rw [hu] at o0 o1 hvo
      clear hu hjx hg2 hg2'
      obtain ⟨u1, u2⟩ := u
      simp only at o0 o1
      have hm1 : IntKind.i64.wrap ((j : Int) - 1) = (j : Int) - 1 := by rw [IntKind.wrap_i64]; omega
      have hk5 : j < m := by omega
      obtain ⟨B7, hB7⟩ : ∃ B7, wr.heap.size = B7 := ⟨_, rfl⟩
      by_cases hp : u1 = 4 ∧ u2 ≠ 0
      · obtain ⟨rfl, hp2⟩ := hp
        have hu0 : 0 ≤ u2 := by
          have := hvo.1
          simp [okV, knownB] at this
          exact this
        have hu2 := hvo.2 rfl
        simp only at hu2
        obtain ⟨q, hq⟩ := Int.eq_ofNat_of_zero_le (show 0 ≤ u2 - 1 by omega)
        obtain rfl : u2 = (q : Int) + 1 := by omega
        have hqq : q < Q.length := by omega
        obtain ⟨gp, rfl, hpc, hpt⟩ := tw_ptAt HREL.out.2 hqq
        have hptok := HSIM.out.pts Q[q] (List.getElem_mem hqq)
        have hq4 : Q[q] ∈ Q := List.getElem_mem hqq
        obtain ⟨⟨a, dp, sl, wh⟩, hz⟩ : ∃ z, Q[q] = z := ⟨_, rfl⟩
        rw [hz] at hpt hptok hq4
        have hdp := hptok.d
        simp only at hdp
        obtain ⟨D, rfl⟩ := Int.eq_ofNat_of_zero_le hdp
        have htop : topPtr x.m.ops = some (4, (q : Int) + 1) := by
          obtain ⟨hjx, hu⟩ := HU.out
          have := topPtr_at hjx HREL.out.1 (by rw [hu]) (by rw [hu]; exact hp2)
          rw [hu] at this
          exact this
        have hPQ : (Q.map (·.2))[((q : Int) + 1 - 1).toNat]? = some ⟨(D : Int), sl, wh⟩ := by
          have e : ((q : Int) + 1 - 1).toNat = q := by omega
          rw [e, List.getElem?_map, List.getElem?_eq_getElem hqq, hz]
          rfl
        have h1 := tw_more HREL.out.2 (.cells #[.int .i64 4, .int .i64 ((q : Int) + 1)] 34)
        have d0 := alloc_cell (o := .cells #[.int .i64 4, .int .i64 ((q : Int) + 1)] 34) (hpt 0 _ rfl)
        have d1 := alloc_cell (o := .cells #[.int .i64 4, .int .i64 ((q : Int) + 1)] 34) (hpt 1 _ rfl)
        have d2 := alloc_cell (o := .cells #[.int .i64 4, .int .i64 ((q : Int) + 1)] 34) (hpt 2 _ rfl)
        have d3 := alloc_cell (o := .cells #[.int .i64 4, .int .i64 ((q : Int) + 1)] 34) (hpt 3 _ rfl)
        have d4 := alloc_cell (o := .cells #[.int .i64 4, .int .i64 ((q : Int) + 1)] 34) (hpt 4 _ rfl)
        have k2' := alloc_cell (o := .cells #[.int .i64 4, .int .i64 ((q : Int) + 1)] 34) k2
        obtain ⟨v0, v1, -⟩ := two_cells h1 (q := wr.heap.size) (tw_mem (List.Mem.head _))
        obtain ⟨qn, hqn⟩ : ∃ qn, Q.length = qn := ⟨_, rfl⟩
        have HQN := Hid.mk hqn
        rw [hqn] at k2' hpc hqq
        simp only [Nat.add_zero] at d0
        have y1 : IntKind.i64.wrap ((q : Int) + 1 - 1) = (q : Int) := by rw [IntKind.wrap_i64]; have := HSIM.out.n2; simp only [hqn] at this; omega
        have y2 : (4 != (4 : Int)) = false := rfl
        have y3 : (((q : Int) + 1) == 0) = false := by simp; omega
        have y4 : (q : Int) < (qn : Int) := by omega
        have y5 : IntKind.i64.wrap (q : Int) = (q : Int) := by rw [IntKind.wrap_i64] at y1 ⊢; have := HSIM.out.n2; simp only [hqn] at this; omega
        have HTOP := Hid.mk (And.intro htop hPQ)
        have HZ : Hid (∃ hqq : q < Q.length, Q[q] = (a, ⟨(D : Int), sl, wh⟩)) := ⟨by omega, hz⟩
        have HQ4 := Hid.mk hq4
        have H1 := Hid.mk h1
        have HREL2 := Hid.mk HREL.out.2
        clear HU HREL hp2 hz hpt hptok hvo hq4 hq hu2 hdp htop hPQ h1 k2 hqn
        go_upto_region 7 with (fail)
        clear k5 o0 o1 k0 k1
        obtain ⟨X1, hX1⟩ : ∃ X, X = wr.alloc (.cells #[.int .i64 4, .int .i64 ((q : Int) + 1)] 34) := ⟨_, rfl⟩
        have h1 := H1.out
        rw [hB7, ← hX1] at h1
        rw [hB7, ← hX1] at v0 v1
        rw [← hX1] at d0 d1 d2 d3 d4 k2' ⊢
        clear hX1 H1 hB7
        have H1 := Hid.mk h1
        clear h1
        refine wp_region_L 10 (fun X => X.cell? ⟨t, 2, none⟩ = some (.slice (some ⟨gp, 0, none⟩) qn pc) ∧ X.cell? ⟨B7, 1, none⟩ = some (.int .i64 ((q : Int) + 1)) ∧ X.cell? ⟨gp, q * 5, none⟩ = some (.int .i64 4) ∧ X.cell? ⟨gp, q * 5 + 1, none⟩ = some (.int .i64 a) ∧ X.cell? ⟨gp, q * 5 + 2, none⟩ = some (.int .i64 (D : Int)) ∧ X.cell? ⟨gp, q * 5 + 3, none⟩ = some (.int .i64 sl) ∧ X.cell? ⟨gp, q * 5 + 4, none⟩ = some (.int .i64 wh)) (by kernel_rfl) ⟨k2', v1, d0, d1, d2, d3, d4⟩ (fun hHeld => ?_)
        refine wpAnyL_take (i := 0) (v := ?_) rfl (by kernel_rfl) (by kernel_rfl) (by kernel_rfl) (by kernel_rfl) (fun _ _ _ h => h) (Or.inl ⟨by rfl, ?_⟩) (by assumption) ?_
        rotate_left
        · (intro w hSw; (try dsimp only at hSw); go_simp <;> with_reducible rfl)
        (try simp only [Act.put, List.getElem_toArray, List.getElem_cons_zero, List.getElem_cons_succ, List.setIfInBounds_toArray, List.set_cons_zero, List.set_cons_succ])
        refine wpAnyL_take (i := 1) (v := ?_) rfl (by kernel_rfl) (by kernel_rfl) (by kernel_rfl) (by kernel_rfl) (fun _ _ _ h => h) (Or.inl ⟨by rfl, ?_⟩) (by assumption) ?_
        rotate_left
        · (intro w hSw; (try dsimp only at hSw); go_simp <;> with_reducible rfl)
        (try simp only [Act.put, List.getElem_toArray, List.getElem_cons_zero, List.getElem_cons_succ, List.setIfInBounds_toArray, List.set_cons_zero, List.set_cons_succ])
        refine wpAnyL_take (i := 2) (v := ?_) rfl (by kernel_rfl) (by kernel_rfl) (by kernel_rfl) (by kernel_rfl) (fun _ _ _ h => h) (Or.inl ⟨by rfl, ?_⟩) (by assumption) ?_
        rotate_left
        · (intro w hSw; (try dsimp only at hSw); go_simp <;> with_reducible rfl)
        (try simp only [Act.put, List.getElem_toArray, List.getElem_cons_zero, List.getElem_cons_succ, List.setIfInBounds_toArray, List.set_cons_zero, List.set_cons_succ])
        refine wpAnyL_take (i := 3) (v := ?_) rfl (by kernel_rfl) (by kernel_rfl) (by kernel_rfl) (by kernel_rfl) (fun _ _ _ h => h) (Or.inl ⟨by rfl, ?_⟩) (by assumption) ?_
        rotate_left
        · (intro w hSw; (try dsimp only at hSw); go_simp <;> with_reducible rfl)
        (try simp only [Act.put, List.getElem_toArray, List.getElem_cons_zero, List.getElem_cons_succ, List.setIfInBounds_toArray, List.set_cons_zero, List.set_cons_succ])
        refine wpAnyL_take (i := 4) (v := ?_) rfl (by kernel_rfl) (by kernel_rfl) (by kernel_rfl) (by kernel_rfl) (fun _ _ _ h => h) (Or.inl ⟨by rfl, ?_⟩) (by assumption) ?_
        rotate_left
        · (intro w hSw; (try dsimp only at hSw); go_simp <;> with_reducible rfl)
        (try simp only [Act.put, List.getElem_toArray, List.getElem_cons_zero, List.getElem_cons_succ, List.setIfInBounds_toArray, List.set_cons_zero, List.set_cons_succ])
        refine wpAnyL_take (i := 5) (v := ?_) rfl (by kernel_rfl) (by kernel_rfl) (by kernel_rfl) (by kernel_rfl) (fun _ _ _ h => h) (Or.inl ⟨by rfl, ?_⟩) (by assumption) ?_
        rotate_left
        · (intro w hSw; (try dsimp only at hSw); go_simp <;> with_reducible rfl)
        (try simp only [Act.put, List.getElem_toArray, List.getElem_cons_zero, List.getElem_cons_succ, List.setIfInBounds_toArray, List.set_cons_zero, List.set_cons_succ])
        refine wpAnyL_take (i := 6) (v := ?_) rfl (by kernel_rfl) (by kernel_rfl) (by kernel_rfl) (by kernel_rfl) (fun _ _ _ h => h) (Or.inl ⟨by rfl, ?_⟩) (by assumption) ?_
        rotate_left
        · (intro w hSw; (try dsimp only at hSw); go_simp <;> with_reducible rfl)
        (try simp only [Act.put, List.getElem_toArray, List.getElem_cons_zero, List.getElem_cons_succ, List.setIfInBounds_toArray, List.set_cons_zero, List.set_cons_succ])
        refine wpAnyL_take (i := 7) (v := ?_) rfl (by kernel_rfl) (by kernel_rfl) (by kernel_rfl) (by kernel_rfl) (fun _ _ _ h => h) (Or.inl ⟨by rfl, ?_⟩) (by assumption) ?_
        rotate_left
        · (intro w hSw; (try dsimp only at hSw); go_simp <;> with_reducible rfl)
        (try simp only [Act.put, List.getElem_toArray, List.getElem_cons_zero, List.getElem_cons_succ, List.setIfInBounds_toArray, List.set_cons_zero, List.set_cons_succ])
        refine wpAnyL_take (i := 8) (v := ?_) rfl (by kernel_rfl) (by kernel_rfl) (by kernel_rfl) (by kernel_rfl) (fun _ _ _ h => h) (Or.inl ⟨by rfl, ?_⟩) (by assumption) ?_
        rotate_left
        · (intro w hSw; (try dsimp only at hSw); go_simp <;> with_reducible rfl)
        (try simp only [Act.put, List.getElem_toArray, List.getElem_cons_zero, List.getElem_cons_succ, List.setIfInBounds_toArray, List.set_cons_zero, List.set_cons_succ])
        refine wpAnyL_only (i := 9) (by kernel_rfl) rfl (fun K hK => ?_)
        go_simp
        refine hK _ _ (fun _ => ⟨alloc_cell hHeld.1, alloc_cell hHeld.2.1, alloc_cell hHeld.2.2.1, alloc_cell hHeld.2.2.2.1, alloc_cell hHeld.2.2.2.2.1, alloc_cell hHeld.2.2.2.2.2.1, alloc_cell hHeld.2.2.2.2.2.2⟩) (fun hHeld0 => ?_)
        have hHeld := hHeld0 rfl
        clear hK K hHeld0
        (try simp only [Act.put, List.getElem_toArray, List.getElem_cons_zero, List.getElem_cons_succ, List.setIfInBounds_toArray, List.set_cons_zero, List.set_cons_succ])
        refine wpAnyL_only (i := 10) (by kernel_rfl) rfl (fun K hK => ?_)
        go_simp
        refine hK _ _ (fun q => by cases q) (fun hHeld0 => ?_)
        clear hK K hHeld0
        refine wpAnyL_done (by kernel_rfl) ?_
        have h2 := (tw_more H1.out (.cells #[.int .i64 4, .int .i64 a, .int .i64 (D : Int), .int .i64 sl, .int .i64 wh] 115)).drew
        obtain ⟨B8, hB8⟩ : ∃ B, X1.heap.size = B := ⟨_, rfl⟩
        obtain ⟨X2, hX2⟩ : ∃ X, X = (X1.alloc (.cells #[.int .i64 4, .int .i64 a, .int .i64 (D : Int), .int .i64 sl, .int .i64 wh] 115)).drew := ⟨_, rfl⟩
        rw [← hX2, hB8] at h2
        rw [← hX2, hB8]
        clear hX2 hB8 H1 k2' hHeld
        obtain ⟨-, k1, -, -, -⟩ := tw_k h2
        rw [HLM.out] at k1
        obtain ⟨b0, b1, b2, b3, b4⟩ := five_cells h2 (q := B8) (tw_mem (List.Mem.head _))
        have H2 := Hid.mk h2
        clear h2
        by_cases hge : lm + 1 ≤ D
        · have z0 : decide ((D : Int) ≥ (lm : Int) + 1) = true := by simp; omega
          have z1 : decide ((lm : Int) + 1 ≤ (D : Int)) = true := by simp; omega
          have hno : putN (Tw.N ⟨C, (x :: l).map (·.m), Q, many⟩) y = Tw.N ⟨C, (x :: l).map (·.m), Q, many⟩ := by
            unfold putN Tw.N
            simp only [List.map_cons]
            rw [HTOP.out.1]
            simp only
            rw [HTOP.out.2]
            simp only
            have : getAt (D : Int).toNat (x.m :: l.map (·.m)) = none := getAt_none (by simp [HLM.out]; omega)
            rw [this]
          have HNO := Hid.mk hno
          clear hno hge
          go_upto_region 8 with (fail)
          go_quiet (fail)
          go_wp2_with fail
          go_ret
          exact ⟨HSAME.out (Sep.keep (tw_lose (tw_lose H2.out)) (below_drewN (Below.refl _ _) _)) HNO.out, rfl⟩
        · obtain ⟨pre, yv, post, e, hpl⟩ := split_at (x :: l) (d := D) (by simp [HLM.out]; omega)
          have z0 : decide ((D : Int) ≥ (lm : Int) + 1) = false := by simp; omega
          have z1 : decide ((lm : Int) + 1 ≤ (D : Int)) = false := by simp; omega
          have zb : (D : Int) < (lm : Int) + 1 := by omega
          have zb2 : D < lm + 1 := by omega
          have h2 := H2.out
          rw [e] at h2
          obtain ⟨c4, c6⟩ := tw_modAt h2
          rw [hpl] at c4 c6
          have hga : getAt (D : Int).toNat (x.m :: l.map (·.m)) = some yv.m ∧ ∀ f, modAt (D : Int).toNat f (x.m :: l.map (·.m)) = pre.map (·.m) ++ f yv.m :: post.map (·.m) := by
            have e2 : x.m :: l.map (·.m) = pre.map (·.m) ++ yv.m :: post.map (·.m) := by
              have := congrArg (List.map (·.m)) e
              simpa using this
            rw [e2, Int.toNat_natCast, ← hpl, show post.length = (post.map (·.m)).length by simp]
            exact getAt_split
          have HGA := Hid.mk hga
          have HE := Hid.mk e
          have HPL := Hid.mk hpl
          clear hga e hpl hge
          by_cases hw : yv.m.which = wh
          · subst hw
            have z2 : (yv.m.which != yv.m.which) = false := by simp
            obtain ⟨r1, sl0, sl1, r2, Z2, hs2⟩ := Sim.put HSIM.out HQ4.out (m := yv.m) HGA.out.1 rfl y
            simp only at r1 sl0 sl1 r2 hs2
            obtain ⟨s, rfl⟩ := Int.eq_ofNat_of_zero_le sl0
            have hs : s < yv.m.slots.length := by omega
            rw [Int.toNat_natCast] at hs2
            have hok := HSIM.out.ok (by omega)
            have hok2 := hs2.ok (by omega)
            have hne := HSIM.out.ne rfl
            have hne2 : (putC C (4, a) (1, y)).2.F ≠ [] := by
              have e1 : (putC C (4, a) (1, y)).2.F = C.F := by
                unfold putC
                split
                · split <;> rfl
                · rfl
              rw [e1]
              exact hne
            obtain ⟨C2, hC2⟩ : ∃ C2, (putC C (4, a) (1, y)).2 = C2 := ⟨_, rfl⟩
            rw [hC2] at r2 hs2 hok2 hne2
            have HPUT : Hid (∀ {F' : List Asr} {W' : World}, Sep w (chP b p k sz ca C F') W' → Calls Tryz.prog 59 #[.pointer (some ⟨b, 0, none⟩), .agg #[.int .i64 4, .int .i64 a], .agg #[.int .i64 1, .int .i64 y]] W' fun e w' => Sep w (chP b p k sz ca C2 F') w' ∧ e = .returned (.int .i64 0)) := fun {F' W'} q => by
              have := cput_any q hok hne (4, a) (1, y)
              rw [hC2, r1] at this
              exact this
            have HGET : Hid (∀ {F' : List Asr} {W' : World}, Sep w (chP b p k sz ca C2 F') W' → Calls Tryz.prog 60 #[.pointer (some ⟨b, 0, none⟩), .agg #[.int .i64 4, .int .i64 a]] W' fun e w' => Sep w (chP b p k sz ca C2 F') w' ∧ Below W'.heap.size W' w' ∧ e = .returned (.tuple #[.agg #[.int .i64 1, .int .i64 y], .int .i64 0])) := fun {F' W'} q => by
              have := cget_any q hok2 hne2 (4, a)
              rw [r2] at this
              exact this
            have HS2 := Hid.mk hs2
            obtain ⟨gs, cs, hsv, hcs, -⟩ := tw_slot h2 hs
            obtain ⟨ns, hns⟩ : ∃ ns, yv.m.slots.length = ns := ⟨_, rfl⟩
            rw [hns] at hsv hcs
            have hs3 : s < ns := by omega
            have hs4 : (s : Int) < (ns : Int) := by omega
            have HSV := Hid.mk hsv
            have HX : Hid (∀ {C' : Ch} {F' : List Asr} {W' : World} {yv' : Mv}, yv'.sv = yv.sv → bx B8 (.cells #[.int .i64 4, .int .i64 a, .int .i64 (D : Int), .int .i64 (s : Int), .int .i64 yv.m.which] 115) ∈ F' → Sep w (twL t b (.slice (some ⟨g, 0, none⟩) (l.length + 1 : Nat) c) (.slice (some ⟨gp, 0, none⟩) Q.length pc) (pre ++ yv' :: post) Q many ++ chP b p k sz ca C' F') W' → (W'.cell? ⟨t, 0, none⟩ = some (.pointer (some ⟨b, 0, none⟩)) ∧ W'.cell? ⟨B8, 0, none⟩ = some (.int .i64 4) ∧ W'.cell? ⟨B8, 1, none⟩ = some (.int .i64 a)) ∧ W'.cell? ⟨t, 1, none⟩ = some (.slice (some ⟨g, 0, none⟩) (lm + 1 : Nat) c) ∧ W'.cell? ⟨B8, 1, none⟩ = some (.int .i64 a) ∧ W'.cell? ⟨B8, 2, none⟩ = some (.int .i64 (D : Int)) ∧ W'.cell? ⟨B8, 3, none⟩ = some (.int .i64 (s : Int)) ∧ W'.cell? ⟨g, D * 7 + 4, none⟩ = some (.slice (some ⟨gs, 0, none⟩) ns cs)) := fun {C' F' W' yv'} hv hB q => by
              obtain ⟨e0, e1, -, -, -⟩ := tw_k q
              obtain ⟨f0, f1, f2, f3, f4⟩ := five_cells q (q := B8) (tw_mem hB)
              obtain ⟨g4, -⟩ := tw_modAt q
              rw [HPL.out, hv, hsv] at g4
              rw [HLM.out] at e1
              exact ⟨⟨e0, f0, f1⟩, e1, f1, f2, f3, g4⟩
            obtain ⟨⟨s0, s1, s2⟩, -⟩ := HX.out (yv' := yv) rfl (List.Mem.head _) h2
            have H2 := Hid.mk h2
            have HSL := Hid.mk hs
            have HHNO : Hid ((putN (Tw.N ⟨C, (x :: l).map (·.m), Q, many⟩) y) = Tw.N ⟨C2, modAt (D : Int).toNat (fun m => m.set s (1, y)) ((x :: l).map (·.m)), Q, many⟩) := by
              unfold Hid putN Tw.N
              simp only [List.map_cons]
              rw [HTOP.out.1]
              simp only
              rw [HTOP.out.2]
              simp only
              rw [HGA.out.1]
              simp only
              rw [if_pos trivial, Int.toNat_natCast, Int.toNat_natCast]
            clear h2 r1 sl0 sl1 r2 hs2 hs hok hok2 hne hne2 hC2 hsv hns
            go_upto_region 8 with (fail)
            go_quiet (fail)
            go_upto_region 10 with (fail)
            have h3 := Sep.keep H2.out (below_drewN (Below.refl X2.heap.size X2) nq)
            obtain ⟨X3, hX3⟩ : ∃ X, X = X2.drewN nq := ⟨_, rfl⟩
            rw [← hX3] at h3 ⊢
            obtain ⟨⟨s0, s1, s2⟩, -⟩ := HX.out (yv' := yv) rfl (List.Mem.head _) h3
            have H3 := Hid.mk h3
            clear h3 H2 hX3
            go_region_held3 (fun X => X.cell? ⟨t, 0, none⟩ = some (.pointer (some ⟨b, 0, none⟩)) ∧ X.cell? ⟨B8, 0, none⟩ = some (.int .i64 4) ∧ X.cell? ⟨B8, 1, none⟩ = some (.int .i64 a)) (first | exact s9 | exact s8 | exact ⟨s0, s1, s2⟩) (first | (go_at_call 21; refine (num_any y X3.drew).mono ?_; rintro e w5 ⟨hb5, rfl⟩; have s8 := And.intro (keep_dr hb5 s0) (And.intro (keep_dr hb5 s1) (keep_dr hb5 s2))) | (go_at_call 59; refine (HPUT.out (tw_ch (Sep.keep H3.out.drew hb5))).mono ?_; rintro e w6 ⟨h6, rfl⟩; have s9 := (HX.out (yv' := yv) rfl (List.Mem.head _) (ch_tw h6)).1))
            have h7 := ch_tw h6
            obtain ⟨-, s0, s1, s2, s3, s4⟩ := HX.out (yv' := yv) rfl (List.Mem.head _) h7
            have H7 := Hid.mk h7
            clear h6 h7 s8 s9 hb5 H3 HPUT
            go_upto_region 12 with (fail)
            go_region_held3 (fun X => X.cell? ⟨t, 1, none⟩ = some (.slice (some ⟨g, 0, none⟩) (lm + 1 : Nat) c) ∧ X.cell? ⟨B8, 1, none⟩ = some (.int .i64 a) ∧ X.cell? ⟨B8, 2, none⟩ = some (.int .i64 (D : Int)) ∧ X.cell? ⟨B8, 3, none⟩ = some (.int .i64 (s : Int)) ∧ X.cell? ⟨g, D * 7 + 4, none⟩ = some (.slice (some ⟨gs, 0, none⟩) ns cs)) (first | exact sS | exact s8 | exact ⟨s0, s1, s2, s3, s4⟩) (first | (go_at_call 21; refine (num_any y w6.drew).mono ?_; rintro e w8 ⟨hb8, rfl⟩; have h8 := Sep.keep H7.out.drew hb8; have s8 := (HX.out (yv' := yv) rfl (List.Mem.head _) h8).2; obtain ⟨q0, q1, q2, q3⟩ := tw_slotAt h8 HSL.out HSV.out; have q20 := q2 (s * 2); have q21 := q2 (s * 2 + 1); have q4 := q3 (1, y); have sS := (HX.out (yv' := { yv with m := yv.m.set s (1, y) }) rfl (List.Mem.head _) q4).2))
            have q4' := q4
            obtain ⟨X4, hX4⟩ : ∃ X, X = (w8.setCell ⟨gs, s * 2, none⟩ (.int .i64 1)).setCell ⟨gs, s * 2 + 1, none⟩ (.int .i64 y) := ⟨_, rfl⟩
            rw [← hX4] at q4' ⊢
            obtain ⟨⟨t0, t1, t2⟩, -⟩ := HX.out (yv' := { yv with m := yv.m.set s (1, y) }) rfl (List.Mem.head _) q4'
            have H4 := Hid.mk q4'
            clear q4 q4' q0 q1 q2 q3 q20 q21 sS s8 h8 hb8 H7 hX4 s0 s1 s2 s3 s4
            go_upto_region 13 with (fail)
            go_region_held3 (fun X => X.cell? ⟨t, 0, none⟩ = some (.pointer (some ⟨b, 0, none⟩)) ∧ X.cell? ⟨B8, 0, none⟩ = some (.int .i64 4) ∧ X.cell? ⟨B8, 1, none⟩ = some (.int .i64 a)) (first | exact s9 | exact ⟨alloc_cell s9.1, alloc_cell s9.2.1, alloc_cell s9.2.2⟩ | exact sF | exact ⟨t0, t1, t2⟩ | exact ⟨alloc_cell t0, alloc_cell t1, alloc_cell t2⟩) (first | (go_at_call 60; refine (HGET.out (tw_ch H4.out.drew)).mono ?_; rintro e w9 ⟨h9, hb9, rfl⟩; have h99 := ch_tw h9; have s9 := (HX.out (yv' := { yv with m := yv.m.set s (1, y) }) rfl (List.Mem.head _) h99).1) | (go_at_call 60; refine (HGET.out (tw_ch (tw_more H4.out (.cells #[.int .i64 0, .int .i64 0] 34)).drew)).mono ?_; rintro e w9 ⟨h9, hb9, rfl⟩; have h99 := ch_tw h9; have s9 := (HX.out (yv' := { yv with m := yv.m.set s (1, y) }) rfl (List.Mem.tail _ (List.Mem.head _)) h99).1; obtain ⟨n0, n1, n2⟩ := two_cells h99 (q := X4.heap.size) (tw_mem (List.Mem.head _)); have n20 := n2 0; have n21 := n2 1; have h10 := tw_storeF (tw_storeF h99 0 (.int .i64 1)) 1 (.int .i64 y); have sF := (HX.out (yv' := { yv with m := yv.m.set s (1, y) }) rfl (List.Mem.tail _ (List.Mem.head _)) h10).1))
            · have h10 := tw_more (ch_tw h9) (.cells #[.int .i64 1, .int .i64 y] 34)
              obtain ⟨X5, hX5⟩ : ∃ X, X = w9.alloc (.cells #[.int .i64 1, .int .i64 y] 34) := ⟨_, rfl⟩
              obtain ⟨B9, hB9⟩ : ∃ B, w9.heap.size = B := ⟨_, rfl⟩
              rw [← hX5, hB9] at h10
              rw [← hX5, hB9]
              obtain ⟨f0, f1, -⟩ := two_cells h10 (q := B9) (v1 := .int .i64 1) (v2 := .int .i64 y) (T := 34) (tw_mem (List.Mem.head _))
              have H10 := Hid.mk h10
              clear h10 h9 h99 hb9 s9 H4 hX5 hB9
              go_upto_region 14 with (fail)
              go_region_held3 (fun X => X.cell? ⟨B9, 0, none⟩ = some (.int .i64 1) ∧ X.cell? ⟨B9, 1, none⟩ = some (.int .i64 y)) (first | exact s8 | exact ⟨f0, f1⟩) (first | (go_at_call 21; refine (num_any y X5.drew).mono ?_; rintro e w11 ⟨hb11, rfl⟩; have s8 := And.intro (keep_dr hb11 f0) (keep_dr hb11 f1)))
              have h12 := tw_lose (tw_lose (tw_lose (Sep.keep H10.out.drew hb11)))
              have H12 := Hid.mk h12
              clear h12 hb11 H10 s8
              go_wp2_with fail
              go_ret
              exact ⟨⟨_, _, ⟨_, _, _, (by simp only [List.map_append, List.map_cons]; exact (HGA.out.2 (fun m => m.set (s : Int).toNat (1, y))).symm), H12.out⟩, HS2.out, HHNO.out.symm⟩, rfl⟩
            · obtain ⟨X5, hX5⟩ : ∃ X, X = (w9.setCell ⟨X4.heap.size, 0, none⟩ (.int .i64 1)).setCell ⟨X4.heap.size, 1, none⟩ (.int .i64 y) := ⟨_, rfl⟩
              obtain ⟨B9, hB9⟩ : ∃ B, X4.heap.size = B := ⟨_, rfl⟩
              rw [← hX5, hB9] at h10
              rw [← hX5, hB9]
              obtain ⟨f0, f1, -⟩ := two_cells h10 (q := B9) (v1 := .int .i64 1) (v2 := .int .i64 y) (T := 34) (tw_mem (List.Mem.head _))
              have H10 := Hid.mk h10
              clear h10 h9 h99 hb9 s9 sF n0 n1 n2 n20 n21 H4 hX5 hB9
              go_upto_region 14 with (fail)
              go_region_held3 (fun X => X.cell? ⟨B9, 0, none⟩ = some (.int .i64 1) ∧ X.cell? ⟨B9, 1, none⟩ = some (.int .i64 y)) (first | exact s8 | exact ⟨f0, f1⟩) (first | (go_at_call 21; refine (num_any y X5.drew).mono ?_; rintro e w11 ⟨hb11, rfl⟩; have s8 := And.intro (keep_dr hb11 f0) (keep_dr hb11 f1)))
              have h12 := tw_lose (tw_lose (tw_lose (Sep.keep H10.out.drew hb11)))
              have H12 := Hid.mk h12
              clear h12 hb11 H10 s8
              go_wp2_with fail
              go_ret
              exact ⟨⟨_, _, ⟨_, _, _, (by simp only [List.map_append, List.map_cons]; exact (HGA.out.2 (fun m => m.set (s : Int).toNat (1, y))).symm), H12.out⟩, HS2.out, HHNO.out.symm⟩, rfl⟩
          · have z2 : (yv.m.which != wh) = true := by simpa using hw
            have hno : putN (Tw.N ⟨C, (x :: l).map (·.m), Q, many⟩) y = Tw.N ⟨C, (x :: l).map (·.m), Q, many⟩ := by
              unfold putN Tw.N
              simp only [List.map_cons]
              rw [HTOP.out.1]
              simp only
              rw [HTOP.out.2]
              simp only
              rw [HGA.out.1]
              simp only
              rw [if_neg hw]
            have HNO := Hid.mk hno
            clear hno hw h2 c4
            go_upto_region 8 with (fail)
            go_quiet (fail)
            go_wp2_with fail
            go_ret
            exact ⟨HSAME.out (Sep.keep (tw_lose (tw_lose H2.out)) (below_drewN (Below.refl _ _) _)) HNO.out, rfl⟩
      · have HN : Hid (NoPtr (x.m.ops.drop j) ∧ Sep w (twL t b (.slice (some ⟨g, 0, none⟩) (l.length + 1 : Nat) c) (.slice pa Q.length pc) (x :: l) Q many ++ chP b p k sz ca C F) (wr.alloc (.cells #[.int .i64 u1, .int .i64 u2] 34))) := by
          obtain ⟨hjx, hu⟩ := HU.out
          exact ⟨NoPtr.more hjx HREL.out.1 (by rw [hu]; exact hp), tw_lose (tw_more HREL.out.2 _)⟩
        clear HREL hvo
        by_cases q : u1 = 4
        · have z0 : (u1 != 4) = false := by simpa using q
          have z1 : (u2 == 0) = true := by
            have : ¬ u2 ≠ 0 := fun c => hp ⟨q, c⟩
            simpa using this
          clear hp q
          go_wp2_with fail
          exact ⟨⟨j, rfl, by omega, HN⟩, by simp [intOf]⟩
        · have z0 : (u1 != 4) = true := by simpa using q
          clear hp q
          go_wp2_with fail
          exact ⟨⟨j, rfl, by omega, HN⟩, by simp [intOf]⟩
end
end Go.Proofs.YtpfnnmcokbolhaaGreat
/- The twin's alike. -/
namespace Go.Proofs.YtpfnnmcokbolhaaGreat
open Go.RowKit
set_option pp.deepTerms true
section
variable {w W : World} {F G : List Asr} {t b p k g c : Nat} {sz ca many : Int} {C : Ch} {lv pv : Value} {ml l : List Mv} {x : Mv} {Q : List (Int × Pf)} {A : Asr} {T : Tw} {Z : List (Md × Af)} {n : Nat}
theorem cdepth_G (h : Sep w (twL t b lv pv ml Q many ++ chP b p k sz ca C F) W) {m : Nat} (hm : C.F.length = m) : Calls Tryz.prog 10 #[.pointer (some ⟨b, 0, none⟩)] W fun e w' => w' = W ∧ e = .returned (.int .i64 m) := by
  have := cdepth_any (tw_ch h)
  rw [hm] at this
  exact this
end
end Go.Proofs.YtpfnnmcokbolhaaGreat
/- The twin's do: its words, and where there is no frame. -/
namespace Go.Proofs.YtpfnnmcokbolhaaGreat
open Go.RowKit
set_option pp.deepTerms true
theorem ten_cells {w W : World} {q : Nat} {v0 v1 v2 v3 v4 v5 v6 v7 v8 v9 : Value} {T : TypeId} {L : List Asr} (h : Sep w L W) (hm : bx q (.cells #[v0, v1, v2, v3, v4, v5, v6, v7, v8, v9] T) ∈ L) : W.cell? ⟨q, 0, none⟩ = some v0 ∧ W.cell? ⟨q, 1, none⟩ = some v1 ∧ W.cell? ⟨q, 2, none⟩ = some v2 ∧ W.cell? ⟨q, 3, none⟩ = some v3 ∧ W.cell? ⟨q, 4, none⟩ = some v4 ∧ W.cell? ⟨q, 5, none⟩ = some v5 ∧ W.cell? ⟨q, 7, none⟩ = some v7 ∧ W.cell? ⟨q, 8, none⟩ = some v8 := by
  have B := Sep.at h hm
  exact ⟨by rw [cell_of_row _ _ 0 _ _ _ B]; rfl, by rw [cell_of_row _ _ 1 _ _ _ B]; rfl, by rw [cell_of_row _ _ 2 _ _ _ B]; rfl, by rw [cell_of_row _ _ 3 _ _ _ B]; rfl, by rw [cell_of_row _ _ 4 _ _ _ B]; rfl, by rw [cell_of_row _ _ 5 _ _ _ B]; rfl, by rw [cell_of_row _ _ 7 _ _ _ B]; rfl, by rw [cell_of_row _ _ 8 _ _ _ B]; rfl⟩
theorem zargs_len (l : Lay) : (zargs l).length = min l.args.toNat l.slots.length := by simp [zargs]
theorem zargs_at {l : Lay} {j : Nat} (h : j < (zargs l).length) : ∃ hj : j < l.slots.length, (zargs l)[j] = (l.slots[j], 0) := by
  have := zargs_len l
  exact ⟨by omega, by simp [zargs]⟩
section
variable {w W : World} {F G : List Asr} {t b p k g c : Nat} {sz ca many : Int} {C : Ch} {lv pv : Value} {ml l : List Mv} {x : Mv} {Q : List (Int × Pf)} {A : Asr} {T : Tw} {Z : List (Md × Af)} {n : Nat} {o : Op25} {sv av : Value} {last : Bool} {B0 : Nat}
theorem tw_in (h : Sep w (A :: (twL t b lv pv ml Q many ++ chP b p k sz ca C F)) W) : Sep w (twL t b lv pv ml Q many ++ chP b p k sz ca C (A :: F)) W := by
  rw [twch_eq] at h ⊢
  exact h.perm List.perm_middle.symm
theorem subF2 {A B : Asr} {L : List Asr} : List.Sublist F (L ++ (A :: B :: F)) := ((List.sublist_cons_self _ _).trans (List.sublist_cons_self _ _)).trans (List.sublist_append_right _ _)
theorem subG {A B : Asr} : List.Sublist F (chP b p k sz ca C (A :: B :: F)) := subF2 (L := [_, _, _])
/-- Run, beside the twin, with the arguments that are noughts -/
theorem tdo_run {v : Value} {place : Int} (h : Sep w (twL t b lv pv ml Q many ++ chP b p k sz ca C (vrow v (zargs o.l) :: A :: F)) W) (ok : ChOk C) (hsl : ∀ W', Sep w F W' → Rdi W' sv o.l.slots) (hcap : SlOk sv) (hlen : o.l.slots.length ≤ 100) :
    Calls Tryz.prog 19 #[.pointer (some ⟨b, 0, none⟩), layV sv o.l, v, .int .i64 place] W fun e w' => Sep w (twL t b lv pv ml Q many ++ chP b p k sz ca (runC sz C o.l (zargs o.l) place).2 (vrow v (zargs o.l) :: A :: F)) w' ∧ e = .returned (.int .i64 (runC sz C o.l (zargs o.l) place).1) := by
  refine (crun_any (tw_ch h) ok (fun W' q => hsl W' (Sep.sub q subF2)) (by omega) hcap (fun W' q => Rd.of_row (Sep.owns q (List.mem_append.2 (.inr (List.Mem.head _)))) rfl) (by rw [zargs_len]; omega)).mono ?_
  rintro e w' ⟨h1, rfl⟩
  exact ⟨ch_tw h1, rfl⟩
theorem tdo_begun {v : Value} {args : List (Int × Int)} {C' : Ch} (h : Sep w (twL t b lv pv ml Q many ++ chP b p k sz ca C' (vrow v args :: A :: F)) W) (hsl : ∀ W', Sep w F W' → Rdi W' sv o.l.slots) (hcap : SlOk sv) (hk : layOk o.l = true) (hargs : args.length ≤ o.l.slots.length) (hml : ml.length ≤ 1000) (hm0 : 0 ≤ many ∧ many ≤ 1000) (link : Int) :
    Calls Tryz.prog 28 #[.pointer (some ⟨t, 0, none⟩), layV sv o.l, v] W fun e w' => (∃ lv' x, Sep w (twL t b lv' pv (x :: ml) Q (many + 1) ++ chP b p k sz ca C' F) w' ∧ x.m = ⟨o.l, fillV o.l.slots args, [], many + 1, link⟩) ∧ ∃ u, e = .returned u := by
  refine (tbegun_any h (fun W' q => hsl W' (Sep.sub q subG)) (fun W' q => Rd.of_row (Sep.owns q (List.Mem.tail _ (List.Mem.tail _ (List.Mem.tail _ (List.Mem.head _))))) rfl) hcap hk hargs hml hm0 link).mono ?_
  rintro e w' ⟨⟨lv', x, h1, hx⟩, hu⟩
  exact ⟨⟨lv', x, tw_lose (tw_lose h1), hx⟩, hu⟩
set_option maxRecDepth 100000 in
set_option maxHeartbeats 4000000 in
theorem tdo_nil4 {n' : Nat} {N' : Nt} {K K1 : Act → World → Prop} {ka c0 : Nat} {ao : Option Addr} {u2 u7 u8 u9 u10 u11 u12 u13 u14 u15 u16 u17 u18 u19 u20 u21 u22 u23 u24 u25 u26 u27 u28 u29 u30 u31 u32 u33 u34 u35 u36 u37 u38 u42 u43 u44 u45 u46 u47 u48 u49 u50 u51 u52 u53 u54 u55 u56 u57 u58 u59 u60 u61 u62 u63 u64 u65 u66 u67 u68 u69 u70 u71 u72 u73 u74 u75 u76 u77 u78 u79 u80 u81 u82 u83 u84 u85 u86 u87 u88 u89 u90 u91 u92 u93 u94 u95 u96 u97 u98 u99 u100 u101 u102 u103 u104 u105 u106 u107 u108 u109 u110 u111 u112 u113 u114 u115 u116 u117 u118 u119 u120 u121 u122 u123 u124 u125 u126 u127 u128 u129 u130 u131 u132 u133 u134 u135 u136 u137 u138 u139 u140 u141 u142 u143 u144 u145 u146 u147 u148 u149 u150 u151 u152 u153 u154 u155 u156 u157 u158 u159 u160 u161 u162 u163 u164 u165 u166 u167 u168 u169 u170 u171 u172 u173 u174 u175 u176 u177 u178 u179 u180 u181 u182 u183 u184 u185 u186 u187 u188 u189 u190 u191 u192 u193 u194 u195 u196 u197 u198 u199 u200 u201 u202 u203 u204 u205 u206 u207 u208 u209 u210 u211 u212 u213 u214 u215 u216 u217 u218 u219 u220 u221 u222 u223 u224 u225 u226 u227 u228 u229 u230 u231 u232 u233 u234 u235 u236 u237 u238 u239 u240 u241 u242 u243 u244 u245 u246 u247 u248 u249 u250 u251 u252 u253 u254 u255 u256 u257 u258 u259 u260 u261 u262 u263 u264 u265 u266 u267 u268 u269 u270 u271 u272 u273 u274 u275 u276 u277 u278 u279 u280 u281 u282 u283 u284 u285 u286 u287 u288 u289 u290 u291 u292 u293 u294 u295 u296 u297 u298 u299 u300 u301 u302 u303 u304 u305 u306 u307 u308 u309 u310 u311 u312 u313 u314 u315 u316 u317 u318 u319 u320 u321 u322 u323 u324 u325 u326 u327 u328 u329 u330 u331 u332 u333 u334 u335 u336 u337 u338 : Value} (H0 : Hid (Sep w (twL t b lv pv [] Q many ++ chP b p k sz ca C (bx B0 (.cells #[.int .i64 o.kind, .int .i64 o.n, sv, .int .i64 o.l.args, .int .i64 o.l.res, .int .i64 o.l.height, av, .int .i64 o.v.1, .int .i64 o.v.2, .bool last] 36) :: F)) W)) (hs : Sim sz ca n ⟨C, [], Q, many⟩ Z) (hn : n ≤ 280) (hn' : n + 1 ≤ n') (hN : stepN (Tw.N ⟨C, [], Q, many⟩) o = N') (HK : Hid (∀ a w', Code.wp Tryz.prog (pieceOf (Tryz.f8.body.getD .skip) [1, 1, 0, 1, 0, 1, 1]) (Exit.then K1 (bodyPost Tryz.prog Tryz.f8 (fun e w' => TwR w w' t b p k sz ca n' N' F ∧ e = .returned (.bool true)))) a w' → K a w'))
    (hsl : ∀ W', Sep w F W' → Rdi W' sv o.l.slots) (hcap : SlOk sv) (hlen : o.l.slots.length ≤ 100) (hka : ka = min o.l.args.toNat o.l.slots.length) (hr : ∀ W', Sep w F W' → Rdi W' (.slice ao ka c0) (o.l.slots.take ka)) :
    Code.wp Tryz.prog (pieceOf (Tryz.f8.body.getD .skip) [1, 1, 0, 1, 0, 1, 0, 1]) (Exit.then K (Exit.then K1 (bodyPost Tryz.prog Tryz.f8 (fun e w' => TwR w w' t b p k sz ca n' N' F ∧ e = .returned (.bool true))))) ⟨#[.pointer (some ⟨t, 0, none⟩), (.agg #[.int .i64 o.kind, .int .i64 o.n, sv, .int .i64 o.l.args, .int .i64 o.l.res, .int .i64 o.l.height, av, .int .i64 o.v.1, .int .i64 o.v.2, .bool last]), u2, .pointer (some ⟨B0, 0, none⟩), .bool false, .int .i64 0, .slice none 0 0, u7, u8, u9, u10, u11, u12, u13, u14, u15, u16, u17, u18, u19, u20, u21, u22, u23, u24, u25, u26, u27, u28, u29, u30, u31, u32, u33, u34, u35, u36, u37, u38, .slice ao ka c0, .int .i64 (ka : Int), .int .i64 0, u42, u43, u44, u45, u46, u47, u48, u49, u50, u51, u52, u53, u54, u55, u56, u57, u58, u59, u60, u61, u62, u63, u64, u65, u66, u67, u68, u69, u70, u71, u72, u73, u74, u75, u76, u77, u78, u79, u80, u81, u82, u83, u84, u85, u86, u87, u88, u89, u90, u91, u92, u93, u94, u95, u96, u97, u98, u99, u100, u101, u102, u103, u104, u105, u106, u107, u108, u109, u110, u111, u112, u113, u114, u115, u116, u117, u118, u119, u120, u121, u122, u123, u124, u125, u126, u127, u128, u129, u130, u131, u132, u133, u134, u135, u136, u137, u138, u139, u140, u141, u142, u143, u144, u145, u146, u147, u148, u149, u150, u151, u152, u153, u154, u155, u156, u157, u158, u159, u160, u161, u162, u163, u164, u165, u166, u167, u168, u169, u170, u171, u172, u173, u174, u175, u176, u177, u178, u179, u180, u181, u182, u183, u184, u185, u186, u187, u188, u189, u190, u191, u192, u193, u194, u195, u196, u197, u198, u199, u200, u201, u202, u203, u204, u205, u206, u207, u208, u209, u210, u211, u212, u213, u214, u215, u216, u217, u218, u219, u220, u221, u222, u223, u224, u225, u226, u227, u228, u229, u230, u231, u232, u233, u234, u235, u236, u237, u238, u239, u240, u241, u242, u243, u244, u245, u246, u247, u248, u249, u250, u251, u252, u253, u254, u255, u256, u257, u258, u259, u260, u261, u262, u263, u264, u265, u266, u267, u268, u269, u270, u271, u272, u273, u274, u275, u276, u277, u278, u279, u280, u281, u282, u283, u284, u285, u286, u287, u288, u289, u290, u291, u292, u293, u294, u295, u296, u297, u298, u299, u300, u301, u302, u303, u304, u305, u306, u307, u308, u309, u310, u311, u312, u313, u314, u315, u316, u317, u318, u319, u320, u321, u322, u323, u324, u325, u326, u327, u328, u329, u330, u331, u332, u333, u334, u335, u336, u337, u338], []⟩ W := by
  conv => arg 2; whnf
  have HSIM := Hid.mk hs
  have HSL := Hid.mk hsl
  have HCAP := Hid.mk hcap
  have HNN := Hid.mk hN
  clear hs hsl hcap hN
  have hzl : (zargs o.l).length = ka := by rw [zargs_len, hka]
  obtain ⟨i0, hi, hz0, hz1, hz2⟩ := info_parts infoV
  have HZL := Hid.mk hzl
  have HR := Hid.mk hr
  have HKA : Hid (ka ≤ o.l.slots.length) := by unfold Hid; omega
  have hka2 : ka ≤ 100 := by have := HKA.out; omega
  clear hka hr hzl
  go_wp2_with fail
  go_loopw [6, 41] (fun v i wr => ∃ (j : Nat) (ar : Option Addr) (cr : Nat), i = .int .i64 (j : Int) ∧ j ≤ ka ∧ v = .slice ar j cr ∧ Hid (Sep w (rw_ 0 34 2 (.slice ar j cr) j (wcells ((zargs o.l).take j)) :: (twL t b lv pv [] Q many ++ chP b p k sz ca C (bx B0 (.cells #[.int .i64 o.kind, .int .i64 o.n, sv, .int .i64 o.l.args, .int .i64 o.l.res, .int .i64 o.l.height, av, .int .i64 o.v.1, .int .i64 o.v.2, .bool last] 36) :: F))) wr)) (fun _ i _ => ka - (intOf i).toNat)
  case atStart => exact ⟨0, none, 0, rfl, Nat.zero_le _, rfl, Hid.mk (by
    have := Sep.row H0.out (Below.refl W.heap.size W) (World.ownsRow_nil W W.heap.size 34 2)
    simpa [wcells] using Sep.rerow this (by intro b q; exact q) (World.ownsRow_nil W 0 34 2))⟩
  case round =>
    obtain ⟨j, ar, cr, rfl, hj, rfl, HREL⟩ := hrel
    by_cases hlt : j < ka
    · have hjz : j < (zargs o.l).length := by rw [HZL.out]; exact hlt
      obtain ⟨hjs, hze⟩ := zargs_at hjz
      have hrd := HR.out _ (Sep.sub HREL.out.tl (by rw [twch_eq]; exact (List.sublist_cons_self _ _).trans (List.sublist_append_right _ _)))
      have htl : (o.l.slots.take ka).length = ka := by have := HKA.out; simp; omega
      obtain ⟨bb, oo, c1, e, hbb, hcs⟩ := hrd.some (by rw [htl]; omega)
      simp only [Value.slice.injEq] at e
      obtain ⟨rfl, -, rfl⟩ := e
      have hc1 := hcs j (by rw [htl]; exact hlt)
      have hel : (o.l.slots.take ka)[j]'(by rw [htl]; exact hlt) = o.l.slots[j] := by simp
      rw [hel] at hc1
      obtain ⟨u, hu⟩ : ∃ u, o.l.slots[j] = u := ⟨_, rfl⟩
      rw [hu] at hc1 hze
      have hlt' : (j : Int) < (ka : Int) := by omega
      have hlt2 : decide ((j : Int) < (ka : Int)) = true := by simpa using hlt
      have HRW : Hid (∀ o', (wr.alloc o').ownsRow 0 34 2 (.slice ar j cr) j (wcells ((zargs o.l).take j))) := fun o' => (Sep.owns HREL.out (List.Mem.head _)).alloc _
      have HTK : Hid ((zargs o.l).take (j + 1) = (zargs o.l).take j ++ [(u, 0)]) := by unfold Hid; rw [List.take_succ_eq_append_getElem hjz, hze]
      have hnw := heap_alloc_new wr (.cells #[.int .i64 u, .int .i64 0] 34)
      clear hrd htl hcs hel hu hze hjz hjs hbb
      go_wp2_with (at_builtin; refine wpList_append_x _ rfl _ _ _ (by rfl) 0 34 i0 (.agg #[.int .i64 0, .int .i64 0]) 2 16 Tryz.underlying32 hi hz0 hz1 hz2 rfl (by decide) (.slice ar j cr) j _ rfl (HRW.out _) 1 (#[.int .i64 u, .int .i64 0] : Array Value).toList (.slice (some ⟨wr.heap.size, 0, none⟩) 1 1) rfl (AppArg.one (n := 2) hnw rfl (by simp [Value.oneCell'])) (by unfold maxLen; omega) (by omega) (Nat.zero_le _) ?_)
      intro a2 cap2 w2 hown2 hg2 hat2
      have h2 := Sep.app (Sep.keep HREL.out ((Below.refl wr.heap.size wr).alloc (Nat.le_refl _) (.cells #[.int .i64 u, .int .i64 0] 34))) hown2 hg2 (by rw [World.size_alloc]; exact hat2)
      have h3 : Sep w (rw_ 0 34 2 (.slice a2 (j + 1) cap2) (j + 1) (wcells ((zargs o.l).take (j + 1))) :: (twL t b lv pv [] Q many ++ chP b p k sz ca C (bx B0 (.cells #[.int .i64 o.kind, .int .i64 o.n, sv, .int .i64 o.l.args, .int .i64 o.l.res, .int .i64 o.l.height, av, .int .i64 o.v.1, .int .i64 o.v.2, .bool last] 36) :: F))) w2 := by
        have e : wcells ((zargs o.l).take j ++ [(u, 0)]) = wcells ((zargs o.l).take j) ++ (#[.int .i64 u, .int .i64 0] : Array Value).toList := by simp [wcells, wcell]
        rw [HTK.out, e]
        exact h2
      have H3 := Hid.mk h3
      clear h2 h3 hown2 hg2 hat2 hnw HRW HREL HTK hc1
      go_wp2_with fail
      exact ⟨⟨j + 1, a2, cap2, by go_num, by omega, rfl, H3⟩, by simp [intOf]; omega⟩
    · obtain rfl : j = ka := by omega
      have HRW : Hid (Sep w (vrow (.slice ar j cr) (zargs o.l) :: (twL t b lv pv [] Q many ++ chP b p k sz ca C (bx B0 (.cells #[.int .i64 o.kind, .int .i64 o.n, sv, .int .i64 o.l.args, .int .i64 o.l.res, .int .i64 o.l.height, av, .int .i64 o.v.1, .int .i64 o.v.2, .bool last] 36) :: F))) wr) := by
        have := HREL.out
        rw [← HZL.out, List.take_length] at this
        unfold Hid vrow
        rw [← HZL.out]
        exact this
      have HV := Hid.mk (tw_in HRW.out)
      clear HREL HRW
      have hok := HSIM.out.ok (by omega)
      have HXC : Hid (∀ {C' : Ch} {W' : World}, Sep w (twL t b lv pv [] Q many ++ chP b p k sz ca C' (vrow (.slice ar j cr) (zargs o.l) :: bx B0 (.cells #[.int .i64 o.kind, .int .i64 o.n, sv, .int .i64 o.l.args, .int .i64 o.l.res, .int .i64 o.l.height, av, .int .i64 o.v.1, .int .i64 o.v.2, .bool last] 36) :: F)) W' → W'.cell? ⟨t, 0, none⟩ = some (.pointer (some ⟨b, 0, none⟩)) ∧ W'.cell? ⟨B0, 2, none⟩ = some sv ∧ W'.cell? ⟨B0, 3, none⟩ = some (.int .i64 o.l.args) ∧ W'.cell? ⟨B0, 4, none⟩ = some (.int .i64 o.l.res) ∧ W'.cell? ⟨B0, 5, none⟩ = some (.int .i64 o.l.height)) := fun {C' W'} q => by
        obtain ⟨-, -, e2, e3, e4, e5, -, -⟩ := ten_cells q (q := B0) (tw_mem (List.Mem.tail _ (List.Mem.head _)))
        exact ⟨(tw_k q).1, e2, e3, e4, e5⟩
      obtain ⟨s0, s1, s2, s3, s4⟩ := HXC.out HV.out
      have HRUN := tdo_run (place := 0) HV.out.drew hok HSL.out HCAP.out hlen
      have hzl := HZL.out
      cases hcan : o.l.can 0
      · have hno : runC sz C o.l (zargs o.l) 0 = (250, C) := Rep.run_no hcan
        rw [hno] at HRUN
        have HRUN := Hid.mk HRUN
        have HNN' : Hid (N' = Tw.N ⟨C, [], Q, many⟩) := by
          rw [← HNN.out]
          unfold Hid stepN Tw.N
          simp [hcan]
        clear hno hok
        go_wp2_with fail
        refine HK.out _ _ ?_
        conv => arg 2; whnf
        go_upto_region 9 with (fail)
        go_region_held3 (fun X => X.cell? ⟨t, 0, none⟩ = some (.pointer (some ⟨b, 0, none⟩)) ∧ X.cell? ⟨B0, 2, none⟩ = some sv ∧ X.cell? ⟨B0, 3, none⟩ = some (.int .i64 o.l.args) ∧ X.cell? ⟨B0, 4, none⟩ = some (.int .i64 o.l.res) ∧ X.cell? ⟨B0, 5, none⟩ = some (.int .i64 o.l.height)) (first | exact s9 | exact ⟨s0, s1, s2, s3, s4⟩) (first | (go_at_call 19; refine HRUN.out.mono ?_; rintro e w6 ⟨h6, rfl⟩; have s9 := HXC.out h6))
        have H6 := Hid.mk (tw_lose (tw_lose h6))
        clear h6 s9 HRUN HV HXC s0 s1 s2 s3 s4
        go_wp2_with fail
        go_ret
        exact ⟨⟨_, _, ⟨_, _, _, rfl, H6.out⟩, HSIM.out.mono (by omega), HNN'.out.symm⟩, rfl⟩
      · obtain ⟨r1, Z', hs2⟩ := HSIM.out.run (l := o.l) (place := 0) (by omega) hcan
        simp only at r1
        rw [r1] at HRUN
        have HRUN := Hid.mk HRUN
        have HS2 := Hid.mk hs2
        have HNN' : Hid (N' = (Tw.N ⟨C, [], Q, many⟩).begun o.l (zargs o.l) 0 []) := by
          rw [← HNN.out]
          unfold Hid stepN Tw.N
          simp [hcan]
        have hl := (can_iff' hcan).1
        have hm1 := HSIM.out.n1
        simp only at hm1
        have HB : Hid (∀ {C' : Ch} {W' : World}, Sep w (twL t b lv pv [] Q many ++ chP b p k sz ca C' (vrow (.slice ar j cr) (zargs o.l) :: bx B0 (.cells #[.int .i64 o.kind, .int .i64 o.n, sv, .int .i64 o.l.args, .int .i64 o.l.res, .int .i64 o.l.height, av, .int .i64 o.v.1, .int .i64 o.v.2, .bool last] 36) :: F)) W' → Calls Tryz.prog 28 #[.pointer (some ⟨t, 0, none⟩), layV sv o.l, .slice ar j cr] W' fun e w' => (∃ lv' x, Sep w (twL t b lv' pv [x] Q (many + 1) ++ chP b p k sz ca C' F) w' ∧ x.m = ⟨o.l, fillV o.l.slots (zargs o.l), [], many + 1, 0⟩) ∧ ∃ u, e = .returned u) := fun {C' W'} q => tdo_begun q HSL.out HCAP.out hl (by rw [hzl]; exact HKA.out) (by simp) ⟨by omega, by omega⟩ 0
        clear hs2 r1 hok hl hm1
        go_wp2_with fail
        refine HK.out _ _ ?_
        conv => arg 2; whnf
        go_upto_region 9 with (fail)
        go_region_held3 (fun X => X.cell? ⟨t, 0, none⟩ = some (.pointer (some ⟨b, 0, none⟩)) ∧ X.cell? ⟨B0, 2, none⟩ = some sv ∧ X.cell? ⟨B0, 3, none⟩ = some (.int .i64 o.l.args) ∧ X.cell? ⟨B0, 4, none⟩ = some (.int .i64 o.l.res) ∧ X.cell? ⟨B0, 5, none⟩ = some (.int .i64 o.l.height)) (first | exact s9 | exact ⟨s0, s1, s2, s3, s4⟩) (first | (go_at_call 19; refine HRUN.out.mono ?_; rintro e w6 ⟨h6, rfl⟩; have s9 := HXC.out h6))
        obtain ⟨t0, t1, t2, t3, t4⟩ := s9
        have H6 := Hid.mk h6
        clear h6 HRUN HV HXC s0 s1 s2 s3 s4
        go_wp2_with fail
        refine (HB.out H6.out).mono ?_
        rintro e w7 ⟨⟨lv', x', h7, hx⟩, u, rfl⟩
        have H7 := Hid.mk h7
        have HX7 := Hid.mk hx
        clear h7 hx HB H6 t0 t1 t2 t3 t4
        go_wp2_with fail
        go_ret
        refine ⟨⟨_, _, ⟨_, _, _, ?_, H7.out⟩, HS2.out.mono hn', ?_⟩, rfl⟩
        · simp only [List.map_cons, List.map_nil]; rw [HX7.out]; rfl
        · rw [HNN'.out]; rfl
end
end Go.Proofs.YtpfnnmcokbolhaaGreat
/- The twin's do: Run on a frame. -/
namespace Go.Proofs.YtpfnnmcokbolhaaGreat
open Go.RowKit
set_option pp.deepTerms true
section
variable {w W : World} {F G : List Asr} {t b p k g c : Nat} {sz ca many : Int} {C : Ch} {lv pv : Value} {ml l : List Mv} {x : Mv} {Q : List (Int × Pf)} {A : Asr} {T : Tw} {Z : List (Md × Af)} {n : Nat} {o : Op25} {sv av : Value} {last : Bool} {B0 : Nat}
set_option maxRecDepth 100000 in
set_option maxHeartbeats 4000000 in
theorem tdo_run4 {n' : Nat} {N' : Nt} {K K2 : Act → World → Prop} {ka c0 : Nat} {ao : Option Addr} {u2 u5 u6 u7 u8 u9 u10 u11 u12 u14 u15 u16 u17 u18 u19 u20 u21 u22 u23 u24 u25 u26 u27 u28 u29 u30 u31 u32 u33 u34 u35 u36 u37 u38 u39 u40 u41 u42 u43 u44 u45 u46 u47 u48 u49 u50 u51 u52 u53 u54 u55 u56 u57 u58 u59 u60 u61 u62 u63 u64 u65 u66 u67 u68 u69 u70 u71 u72 u73 u74 u75 u76 u77 u78 u79 u80 u81 u82 u83 u84 u85 u86 u87 u88 u89 u90 u91 u92 u93 u94 u95 u96 u97 u98 u99 u100 u101 u102 u103 u104 u105 u106 u107 u108 u109 u110 u111 u112 u113 u114 u115 u116 u117 u118 u119 u120 u121 u122 u123 u124 u125 u126 u127 u128 u129 u130 u131 u132 u133 u134 u138 u139 u140 u141 u142 u143 u144 u145 u146 u147 u148 u149 u150 u151 u152 u153 u154 u155 u156 u157 u158 u159 u160 u161 u162 u163 u164 u165 u166 u167 u168 u169 u170 u171 u172 u173 u174 u175 u176 u177 u178 u179 u180 u181 u182 u183 u184 u185 u186 u187 u188 u189 u190 u191 u192 u193 u194 u195 u196 u197 u198 u199 u200 u201 u202 u203 u204 u205 u206 u207 u208 u209 u210 u211 u212 u213 u214 u215 u216 u217 u218 u219 u220 u221 u222 u223 u224 u225 u226 u227 u228 u229 u230 u231 u232 u233 u234 u235 u236 u237 u238 u239 u240 u241 u242 u243 u244 u245 u246 u247 u248 u249 u250 u251 u252 u253 u254 u255 u256 u257 u258 u259 u260 u261 u262 u263 u264 u265 u266 u267 u268 u269 u270 u271 u272 u273 u274 u275 u276 u277 u278 u279 u280 u281 u282 u283 u284 u285 u286 u287 u288 u289 u290 u291 u292 u293 u294 u295 u296 u297 u298 u299 u300 u301 u302 u303 u304 u305 u306 u307 u308 u309 u310 u311 u312 u313 u314 u315 u316 u317 u318 u319 u320 u321 u322 u323 u324 u325 u326 u327 u328 u329 u330 u331 u332 u333 u334 u335 u336 u337 u338 : Value} (H0 : Hid (Sep w (twL t b lv pv (x :: l) Q many ++ chP b p k sz ca C (bx B0 (.cells #[.int .i64 o.kind, .int .i64 o.n, sv, .int .i64 o.l.args, .int .i64 o.l.res, .int .i64 o.l.height, av, .int .i64 o.v.1, .int .i64 o.v.2, .bool last] 36) :: F)) W)) (hs : Sim sz ca n ⟨C, (x :: l).map (·.m), Q, many⟩ Z) (hn : n ≤ 280) (hn' : n + 1 ≤ n') (hki : o.kind = 1) (hN : stepN (Tw.N ⟨C, (x :: l).map (·.m), Q, many⟩) o = N') (hK : Hid (∀ (tm : Array Value) (W' : World), tm.size = 339 → TwR w W' t b p k sz ca n' N' F → K ⟨tm, []⟩ W')) (HK2 : Hid (∀ a w', Code.wp Tryz.prog (pieceOf (Tryz.f8.body.getD .skip) [1, 1, 1, 1, 1, 1, 0, 1, 0, 1, 1, 1, 0, 1, 1]) (Exit.inBlock 2 (Exit.then K (bodyPost Tryz.prog Tryz.f8 (fun e w' => TwR w w' t b p k sz ca n' N' F ∧ e = .returned (.bool true))))) a w' → K2 a w'))
    (hsl : ∀ W', Sep w F W' → Rdi W' sv o.l.slots) (hcap : SlOk sv) (hlen : o.l.slots.length ≤ 100) (hka : ka = min o.l.args.toNat o.l.slots.length) (hr : ∀ W', Sep w F W' → Rdi W' (.slice ao ka c0) (o.l.slots.take ka)) :
    Code.wp Tryz.prog (pieceOf (Tryz.f8.body.getD .skip) [1, 1, 1, 1, 1, 1, 0, 1, 0, 1, 1, 1, 0, 1, 0, 1]) (Exit.then K2 (Exit.inBlock 2 (Exit.then K (bodyPost Tryz.prog Tryz.f8 (fun e w' => TwR w w' t b p k sz ca n' N' F ∧ e = .returned (.bool true)))))) ⟨#[.pointer (some ⟨t, 0, none⟩), (.agg #[.int .i64 o.kind, .int .i64 o.n, sv, .int .i64 o.l.args, .int .i64 o.l.res, .int .i64 o.l.height, av, .int .i64 o.v.1, .int .i64 o.v.2, .bool last]), u2, .pointer (some ⟨B0, 0, none⟩), .bool false, u5, u6, u7, u8, u9, u10, u11, u12, .slice none 0 0, u14, u15, u16, u17, u18, u19, u20, u21, u22, u23, u24, u25, u26, u27, u28, u29, u30, u31, u32, u33, u34, u35, u36, u37, u38, u39, u40, u41, u42, u43, u44, u45, u46, u47, u48, u49, u50, u51, u52, u53, u54, u55, u56, u57, u58, u59, u60, u61, u62, u63, u64, u65, u66, u67, u68, u69, u70, u71, u72, u73, u74, u75, u76, u77, u78, u79, u80, u81, u82, u83, u84, u85, u86, u87, u88, u89, u90, u91, u92, u93, u94, u95, u96, u97, u98, u99, u100, u101, u102, u103, u104, u105, u106, u107, u108, u109, u110, u111, u112, u113, u114, u115, u116, u117, u118, u119, u120, u121, u122, u123, u124, u125, u126, u127, u128, u129, u130, u131, u132, u133, u134, .slice ao ka c0, .int .i64 (ka : Int), .int .i64 0, u138, u139, u140, u141, u142, u143, u144, u145, u146, u147, u148, u149, u150, u151, u152, u153, u154, u155, u156, u157, u158, u159, u160, u161, u162, u163, u164, u165, u166, u167, u168, u169, u170, u171, u172, u173, u174, u175, u176, u177, u178, u179, u180, u181, u182, u183, u184, u185, u186, u187, u188, u189, u190, u191, u192, u193, u194, u195, u196, u197, u198, u199, u200, u201, u202, u203, u204, u205, u206, u207, u208, u209, u210, u211, u212, u213, u214, u215, u216, u217, u218, u219, u220, u221, u222, u223, u224, u225, u226, u227, u228, u229, u230, u231, u232, u233, u234, u235, u236, u237, u238, u239, u240, u241, u242, u243, u244, u245, u246, u247, u248, u249, u250, u251, u252, u253, u254, u255, u256, u257, u258, u259, u260, u261, u262, u263, u264, u265, u266, u267, u268, u269, u270, u271, u272, u273, u274, u275, u276, u277, u278, u279, u280, u281, u282, u283, u284, u285, u286, u287, u288, u289, u290, u291, u292, u293, u294, u295, u296, u297, u298, u299, u300, u301, u302, u303, u304, u305, u306, u307, u308, u309, u310, u311, u312, u313, u314, u315, u316, u317, u318, u319, u320, u321, u322, u323, u324, u325, u326, u327, u328, u329, u330, u331, u332, u333, u334, u335, u336, u337, u338], []⟩ W := by
  conv => arg 2; whnf
  have HSIM := Hid.mk hs
  have HSL := Hid.mk hsl
  have HCAP := Hid.mk hcap
  have HNN := Hid.mk hN
  have HKI := Hid.mk hki
  clear hs hsl hcap hN hki
  have hzl : (zargs o.l).length = ka := by rw [zargs_len, hka]
  obtain ⟨i0, hi, hz0, hz1, hz2⟩ := info_parts infoV
  have HZL := Hid.mk hzl
  have HR := Hid.mk hr
  have HKA : Hid (ka ≤ o.l.slots.length) := by unfold Hid; omega
  have hka2 : ka ≤ 100 := by have := HKA.out; omega
  clear hka hr hzl
  go_wp2_with fail
  go_loopw [13, 137] (fun v i wr => ∃ (j : Nat) (ar : Option Addr) (cr : Nat), i = .int .i64 (j : Int) ∧ j ≤ ka ∧ v = .slice ar j cr ∧ Hid (Sep w (rw_ 0 34 2 (.slice ar j cr) j (wcells ((zargs o.l).take j)) :: (twL t b lv pv (x :: l) Q many ++ chP b p k sz ca C (bx B0 (.cells #[.int .i64 o.kind, .int .i64 o.n, sv, .int .i64 o.l.args, .int .i64 o.l.res, .int .i64 o.l.height, av, .int .i64 o.v.1, .int .i64 o.v.2, .bool last] 36) :: F))) wr)) (fun _ i _ => ka - (intOf i).toNat)
  case atStart => exact ⟨0, none, 0, rfl, Nat.zero_le _, rfl, Hid.mk (by
    have := Sep.row H0.out (Below.refl W.heap.size W) (World.ownsRow_nil W W.heap.size 34 2)
    simpa [wcells] using Sep.rerow this (by intro b q; exact q) (World.ownsRow_nil W 0 34 2))⟩
  case round =>
    obtain ⟨j, ar, cr, rfl, hj, rfl, HREL⟩ := hrel
    by_cases hlt : j < ka
    · have hjz : j < (zargs o.l).length := by rw [HZL.out]; exact hlt
      obtain ⟨hjs, hze⟩ := zargs_at hjz
      have hrd := HR.out _ (Sep.sub HREL.out.tl (by rw [twch_eq]; exact (List.sublist_cons_self _ _).trans (List.sublist_append_right _ _)))
      have htl : (o.l.slots.take ka).length = ka := by have := HKA.out; simp; omega
      obtain ⟨bb, oo, c1, e, hbb, hcs⟩ := hrd.some (by rw [htl]; omega)
      simp only [Value.slice.injEq] at e
      obtain ⟨rfl, -, rfl⟩ := e
      have hc1 := hcs j (by rw [htl]; exact hlt)
      have hel : (o.l.slots.take ka)[j]'(by rw [htl]; exact hlt) = o.l.slots[j] := by simp
      rw [hel] at hc1
      obtain ⟨u, hu⟩ : ∃ u, o.l.slots[j] = u := ⟨_, rfl⟩
      rw [hu] at hc1 hze
      have hlt' : (j : Int) < (ka : Int) := by omega
      have hlt2 : decide ((j : Int) < (ka : Int)) = true := by simpa using hlt
      have HRW : Hid (∀ o', (wr.alloc o').ownsRow 0 34 2 (.slice ar j cr) j (wcells ((zargs o.l).take j))) := fun o' => (Sep.owns HREL.out (List.Mem.head _)).alloc _
      have HTK : Hid ((zargs o.l).take (j + 1) = (zargs o.l).take j ++ [(u, 0)]) := by unfold Hid; rw [List.take_succ_eq_append_getElem hjz, hze]
      have hnw := heap_alloc_new wr (.cells #[.int .i64 u, .int .i64 0] 34)
      clear hrd htl hcs hel hu hze hjz hjs hbb
      go_wp2_with (at_builtin; refine wpList_append_x _ rfl _ _ _ (by rfl) 0 34 i0 (.agg #[.int .i64 0, .int .i64 0]) 2 16 Tryz.underlying32 hi hz0 hz1 hz2 rfl (by decide) (.slice ar j cr) j _ rfl (HRW.out _) 1 (#[.int .i64 u, .int .i64 0] : Array Value).toList (.slice (some ⟨wr.heap.size, 0, none⟩) 1 1) rfl (AppArg.one (n := 2) hnw rfl (by simp [Value.oneCell'])) (by unfold maxLen; omega) (by omega) (Nat.zero_le _) ?_)
      intro a2 cap2 w2 hown2 hg2 hat2
      have h2 := Sep.app (Sep.keep HREL.out ((Below.refl wr.heap.size wr).alloc (Nat.le_refl _) (.cells #[.int .i64 u, .int .i64 0] 34))) hown2 hg2 (by rw [World.size_alloc]; exact hat2)
      have h3 : Sep w (rw_ 0 34 2 (.slice a2 (j + 1) cap2) (j + 1) (wcells ((zargs o.l).take (j + 1))) :: (twL t b lv pv (x :: l) Q many ++ chP b p k sz ca C (bx B0 (.cells #[.int .i64 o.kind, .int .i64 o.n, sv, .int .i64 o.l.args, .int .i64 o.l.res, .int .i64 o.l.height, av, .int .i64 o.v.1, .int .i64 o.v.2, .bool last] 36) :: F))) w2 := by
        have e : wcells ((zargs o.l).take j ++ [(u, 0)]) = wcells ((zargs o.l).take j) ++ (#[.int .i64 u, .int .i64 0] : Array Value).toList := by simp [wcells, wcell]
        rw [HTK.out, e]
        exact h2
      have H3 := Hid.mk h3
      clear h2 h3 hown2 hg2 hat2 hnw HRW HREL HTK hc1
      go_wp2_with fail
      exact ⟨⟨j + 1, a2, cap2, by go_num, by omega, rfl, H3⟩, by simp [intOf]; omega⟩
    · obtain rfl : j = ka := by omega
      have HRW : Hid (Sep w (vrow (.slice ar j cr) (zargs o.l) :: (twL t b lv pv (x :: l) Q many ++ chP b p k sz ca C (bx B0 (.cells #[.int .i64 o.kind, .int .i64 o.n, sv, .int .i64 o.l.args, .int .i64 o.l.res, .int .i64 o.l.height, av, .int .i64 o.v.1, .int .i64 o.v.2, .bool last] 36) :: F))) wr) := by
        have := HREL.out
        rw [← HZL.out, List.take_length] at this
        unfold Hid vrow
        rw [← HZL.out]
        exact this
      have HV := Hid.mk (tw_in HRW.out)
      clear HREL HRW
      have hok := HSIM.out.ok (by omega)
      have HXC : Hid (∀ {C' : Ch} {W' : World}, Sep w (twL t b lv pv (x :: l) Q many ++ chP b p k sz ca C' (vrow (.slice ar j cr) (zargs o.l) :: bx B0 (.cells #[.int .i64 o.kind, .int .i64 o.n, sv, .int .i64 o.l.args, .int .i64 o.l.res, .int .i64 o.l.height, av, .int .i64 o.v.1, .int .i64 o.v.2, .bool last] 36) :: F)) W' → W'.cell? ⟨t, 0, none⟩ = some (.pointer (some ⟨b, 0, none⟩)) ∧ W'.cell? ⟨B0, 2, none⟩ = some sv ∧ W'.cell? ⟨B0, 3, none⟩ = some (.int .i64 o.l.args) ∧ W'.cell? ⟨B0, 4, none⟩ = some (.int .i64 o.l.res) ∧ W'.cell? ⟨B0, 5, none⟩ = some (.int .i64 o.l.height)) := fun {C' W'} q => by
        obtain ⟨-, -, e2, e3, e4, e5, -, -⟩ := ten_cells q (q := B0) (tw_mem (List.Mem.tail _ (List.Mem.head _)))
        exact ⟨(tw_k q).1, e2, e3, e4, e5⟩
      obtain ⟨s0, s1, s2, s3, s4⟩ := HXC.out HV.out
      have HRUN := tdo_run (place := 1) HV.out.drew hok HSL.out HCAP.out hlen
      have hzl := HZL.out
      cases hcan : o.l.can 1
      · have hno : runC sz C o.l (zargs o.l) 1 = (250, C) := Rep.run_no hcan
        rw [hno] at HRUN
        have HRUN := Hid.mk HRUN
        have HNN' : Hid (N' = Tw.N ⟨C, (x :: l).map (·.m), Q, many⟩) := by
          rw [← HNN.out]
          unfold Hid stepN Tw.N
          simp [hcan, HKI.out]
        clear hno hok
        go_wp2_with fail
        refine HK2.out _ _ ?_
        conv => arg 2; whnf
        go_upto_region 30 with (fail)
        go_region_held3 (fun X => X.cell? ⟨t, 0, none⟩ = some (.pointer (some ⟨b, 0, none⟩)) ∧ X.cell? ⟨B0, 2, none⟩ = some sv ∧ X.cell? ⟨B0, 3, none⟩ = some (.int .i64 o.l.args) ∧ X.cell? ⟨B0, 4, none⟩ = some (.int .i64 o.l.res) ∧ X.cell? ⟨B0, 5, none⟩ = some (.int .i64 o.l.height)) (first | exact s9 | exact ⟨s0, s1, s2, s3, s4⟩) (first | (go_at_call 19; refine HRUN.out.mono ?_; rintro e w6 ⟨h6, rfl⟩; have s9 := HXC.out h6))
        have H6 := Hid.mk (tw_lose (tw_lose h6))
        clear h6 s9 HRUN HV HXC s0 s1 s2 s3 s4
        go_wp2_with fail
        exact hK.out _ _ rfl ⟨_, _, ⟨_, _, _, rfl, H6.out⟩, HSIM.out.mono (by omega), HNN'.out.symm⟩
      · obtain ⟨r1, Z', hs2⟩ := HSIM.out.run (l := o.l) (place := 1) (by omega) hcan
        simp only at r1
        rw [r1] at HRUN
        have HRUN := Hid.mk HRUN
        have HS2 := Hid.mk hs2
        have HNN' : Hid (N' = (Tw.N ⟨C, (x :: l).map (·.m), Q, many⟩).begun o.l (zargs o.l) (128 + x.m.ops.length) ((x :: l).map (·.m))) := by
          rw [← HNN.out]
          unfold Hid stepN Tw.N
          simp [hcan, HKI.out]
        have hl := (can_iff' hcan).1
        have hm1 := HSIM.out.n1
        have hln := HSIM.out.len.1
        simp only at hm1
        simp only [List.length_map] at hln
        have HB : Hid (∀ {C' : Ch} {W' : World}, Sep w (twL t b lv pv (x :: l) Q many ++ chP b p k sz ca C' (vrow (.slice ar j cr) (zargs o.l) :: bx B0 (.cells #[.int .i64 o.kind, .int .i64 o.n, sv, .int .i64 o.l.args, .int .i64 o.l.res, .int .i64 o.l.height, av, .int .i64 o.v.1, .int .i64 o.v.2, .bool last] 36) :: F)) W' → Calls Tryz.prog 28 #[.pointer (some ⟨t, 0, none⟩), layV sv o.l, .slice ar j cr] W' fun e w' => (∃ lv' y, Sep w (twL t b lv' pv (y :: x :: l) Q (many + 1) ++ chP b p k sz ca C' F) w' ∧ y.m = ⟨o.l, fillV o.l.slots (zargs o.l), [], many + 1, 128 + x.m.ops.length⟩) ∧ ∃ u, e = .returned u) := fun {C' W'} q => tdo_begun q HSL.out HCAP.out hl (by rw [hzl]; exact HKA.out) (by omega) ⟨by omega, by omega⟩ _
        clear hs2 r1 hok hl hm1 hln
        go_wp2_with fail
        refine HK2.out _ _ ?_
        conv => arg 2; whnf
        go_upto_region 30 with (fail)
        go_region_held3 (fun X => X.cell? ⟨t, 0, none⟩ = some (.pointer (some ⟨b, 0, none⟩)) ∧ X.cell? ⟨B0, 2, none⟩ = some sv ∧ X.cell? ⟨B0, 3, none⟩ = some (.int .i64 o.l.args) ∧ X.cell? ⟨B0, 4, none⟩ = some (.int .i64 o.l.res) ∧ X.cell? ⟨B0, 5, none⟩ = some (.int .i64 o.l.height)) (first | exact s9 | exact ⟨s0, s1, s2, s3, s4⟩) (first | (go_at_call 19; refine HRUN.out.mono ?_; rintro e w6 ⟨h6, rfl⟩; have s9 := HXC.out h6))
        obtain ⟨t0, t1, t2, t3, t4⟩ := s9
        have H6 := Hid.mk h6
        clear h6 HRUN HV HXC s0 s1 s2 s3 s4
        go_wp2_with fail
        refine (HB.out H6.out).mono ?_
        rintro e w7 ⟨⟨lv', x', h7, hx⟩, u, rfl⟩
        have H7 := Hid.mk h7
        have HX7 := Hid.mk hx
        clear h7 hx HB H6 t0 t1 t2 t3 t4
        go_wp2_with fail
        refine hK.out _ _ rfl ⟨_, _, ⟨_, _, _, ?_, H7.out⟩, HS2.out.mono hn', ?_⟩
        · simp only [List.map_cons]; rw [HX7.out]; simp
        · rw [HNN'.out]
          unfold Tw.N Nt.begun
          simp
end
end Go.Proofs.YtpfnnmcokbolhaaGreat
