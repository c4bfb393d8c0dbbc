/- A play's step (layer 21), kind 6: words' values. -/
import Derived.Test.YtkooogllajmkeaaDa
import Derived.Test.YtkooogllajmkeaaCp
import Derived.LoopN
namespace Go.Proofs.Ytkooogllajmkeaa
open Go.RowKit
set_option pp.deepTerms true
attribute [local go_sem ↓] Go.wp_at_zero Go.wp_at_succ
section
variable {w W : World} {q B p pr : Nat} {S R : Sp} {k n a b t v : Int}
theorem run_few (hok : ∃ ls, S.regs = ls.map LReg.reg ∧ RegsOk S.last ls) {l : List (Int × Int)} {r : Int} (h : S.run a n = (some l, r)) : 1 ≤ l.length ∧ l.length ≤ 1048576 := by
  obtain ⟨ls, hr, ok⟩ := hok
  unfold Sp.run at h
  split at h
  · simp at h
  · split at h
    · simp at h
    · rw [hr] at h
      split at h
      · rename_i i j hloc
        obtain ⟨hi', h1, h2⟩ := locate_spec hloc
        have hi : i < ls.length := by simpa using hi'
        obtain ⟨q1, q2, q3⟩ := hasB_iff.1 h1
        simp only [List.getElem_map, LReg.reg] at q1 q2 q3 h2
        have hln := (ok.lo _ (List.getElem_mem hi)).2.2.1
        split at h
        · simp at h
        · simp only [Prod.mk.injEq, Option.some.injEq] at h
          obtain ⟨rfl, _⟩ := h
          rw [wordsAt_map hi, seg_len (by omega)]
          omega
      · simp at h
set_option maxRecDepth 100000 in
set_option maxHeartbeats 4000000 in
theorem do6n_any (h : Two w p pr S S [(q, plo p pr)] W) (n a b t v : Int) (ha : I64 a) {r : Int} (hr : S.run a n = (none, r)) : Calls Try.prog 20 #[.pointer (some ⟨q, 0, none⟩), opv 6 n a b t v] W (DoPost w q p pr S) := by
  have hB := Two.alloc h (opo 6 n a b t v)
  have b0 := hB.keep (Below.refl _ _).drew
  obtain ⟨x2, x3⟩ := hB.qs
  obtain ⟨x4, x5, x6, x7, x8, x9⟩ := hB.os
  unfold opo at x2 x3 x4 x5 x6 x7 x8 x9
  unfold opv
  go_enter Try.func20, Try.ntmps20
  go_wp2_with fail
  go_region_held3 (fun W' => W'.cell? ⟨q, 0, none⟩ = some (.pointer (some ⟨p, 0, none⟩)) ∧ W'.cell? ⟨W.heap.size, 1, none⟩ = some (.int .i64 n) ∧ W'.cell? ⟨W.heap.size, 2, none⟩ = some (.int .i64 a)) (first | exact ⟨hx.qs.1, hx.os.2.1, hx.os.2.2.1⟩ | exact ⟨b0.qs.1, b0.os.2.1, b0.os.2.2.1⟩) ((go_at_call 24; refine (run_two (w := w) (pr := pr) (S := S) (R := S) (E := [(W.heap.size, opo 6 n a b t v), (q, plo p pr)]) ?_ a n).mono ?_; exact b0; rintro e wx ⟨hx, hbx, hro⟩; rw [hr] at hro; have hro2 : e = .returned (.tuple #[.slice none 0 0, .int .i64 r]) := hro; subst hro2))
  have b1 := hx.keep (Below.refl _ _).drew
  obtain ⟨y2, y3⟩ := hx.qs
  obtain ⟨y4, y5, y6, y7, y8, y9⟩ := hx.os
  clear x2 x3 x4 x5 x6 x7 x8 x9
  go_wp2_with fail
  go_region_held3 (fun W' => W'.cell? ⟨q, 1, none⟩ = some (.pointer (some ⟨pr, 0, none⟩)) ∧ W'.cell? ⟨W.heap.size, 1, none⟩ = some (.int .i64 n) ∧ W'.cell? ⟨W.heap.size, 2, none⟩ = some (.int .i64 a)) (first | exact ⟨hy.qs.2, hy.os.2.1, hy.os.2.2.1⟩ | exact ⟨b1.qs.2, b1.os.2.1, b1.os.2.2.1⟩) ((go_at_call 55; refine (rrun_two (w := w) (p := p) (S := S) (R := S) (E := [(W.heap.size, opo 6 n a b t v), (q, plo p pr)]) ?_ a n ha).mono ?_; exact b1; rintro e wy ⟨hy, hby, vv, rfl, hvv⟩; rw [hr] at hvv ⊢; have HV := Hid.mk hvv; obtain ⟨ao, c, rfl⟩ := hvv.shape; clear hvv))
  clear y2 y3 y4 y5 y6 y7 y8 y9
  have hs := same_Same02 (.inl ⟨rfl, rfl⟩ : Rd wy (.slice none 0 0) []) HV.out (by simp)
  go_wp2_with fail
  refine hs.mono ?_
  rintro e w3 ⟨hb3, rfl⟩
  have HF := Hid.mk ((hy.keep hb3).lst)
  go_wp2_with fail
  refine wp_loop_rounds 1 ?_; rw [rounds_succ]
  go_wp2_with fail
  go_ret
  exact ⟨rfl, HF.out⟩
set_option maxRecDepth 100000 in
set_option maxHeartbeats 4000000 in
theorem do6s_any (h : Two w p pr S S [(q, plo p pr)] W) (n a b t v : Int) (ha : I64 a) {r : Int} {l : List (Int × Int)} (hr : S.run a n = (some l, r)) : Calls Try.prog 20 #[.pointer (some ⟨q, 0, none⟩), opv 6 n a b t v] W (DoPost w q p pr S) := by
  have hfew : 1 ≤ l.length ∧ l.length ≤ 1048576 := by
    obtain ⟨fs, gs, h1, -⟩ := h
    exact run_few (spc_reg h1) hr
  have hB := Two.alloc h (opo 6 n a b t v)
  have b0 := hB.keep (Below.refl _ _).drew
  obtain ⟨x2, x3⟩ := hB.qs
  obtain ⟨x4, x5, x6, x7, x8, x9⟩ := hB.os
  unfold opo at x2 x3 x4 x5 x6 x7 x8 x9
  unfold opv
  obtain ⟨m, hm⟩ : ∃ m, l.length = m := ⟨_, rfl⟩
  rw [hm] at hfew
  have HM := Hid.mk hm
  clear hm
  go_enter Try.func20, Try.ntmps20
  go_wp2_with fail
  go_region_held3 (fun W' => W'.cell? ⟨q, 0, none⟩ = some (.pointer (some ⟨p, 0, none⟩)) ∧ W'.cell? ⟨W.heap.size, 1, none⟩ = some (.int .i64 n) ∧ W'.cell? ⟨W.heap.size, 2, none⟩ = some (.int .i64 a)) (first | exact ⟨hx.qs.1, hx.os.2.1, hx.os.2.2.1⟩ | exact ⟨b0.qs.1, b0.os.2.1, b0.os.2.2.1⟩) ((go_at_call 24; refine (run_two (w := w) (pr := pr) (S := S) (R := S) (E := [(W.heap.size, opo 6 n a b t v), (q, plo p pr)]) ?_ a n).mono ?_; exact b0; rintro e wx ⟨hx, hbx, hro⟩; rw [hr] at hro; obtain ⟨g, c, hrow, hro2⟩ := hro; rw [HM.out] at hrow hro2; subst hro2))
  have b1 := hx.keep (Below.refl _ _).drew
  obtain ⟨y2, y3⟩ := hx.qs
  obtain ⟨y4, y5, y6, y7, y8, y9⟩ := hx.os
  clear x2 x3 x4 x5 x6 x7 x8 x9
  go_wp2_with fail
  go_region_held3 (fun W' => W'.cell? ⟨q, 1, none⟩ = some (.pointer (some ⟨pr, 0, none⟩)) ∧ W'.cell? ⟨W.heap.size, 1, none⟩ = some (.int .i64 n) ∧ W'.cell? ⟨W.heap.size, 2, none⟩ = some (.int .i64 a)) (first | exact ⟨hy.qs.2, hy.os.2.1, hy.os.2.2.1⟩ | exact ⟨b1.qs.2, b1.os.2.1, b1.os.2.2.1⟩) ((go_at_call 55; refine (rrun_two (w := w) (p := p) (S := S) (R := S) (E := [(W.heap.size, opo 6 n a b t v), (q, plo p pr)]) ?_ a n ha).mono ?_; exact b1; rintro e wy ⟨hy, hby, vv, rfl, hvv⟩; rw [hr] at hvv ⊢; have HV := Hid.mk hvv; obtain ⟨ao, c', rfl⟩ := hvv.shape; clear hvv))
  clear y2 y3 y4 y5 y6 y7 y8 y9
  have hrow2 : wy.ownsRow (W.alloc (opo 6 n a b t v)).heap.size 29 2 (.slice (some ⟨g, 0, none⟩) m c) m (wcells l) := Kp.row (fs := []) (Kp.of_below (undrew hby) _) hrow (by simp)
  have hs := same_Same02 (Rd.of_row hrow2 HM.out.symm) HV.out (by rw [HM.out]; omega)
  have hb0 : Below (W.alloc (opo 6 n a b t v)).heap.size (W.alloc (opo 6 n a b t v)) wy := (undrew hbx).trans ((undrew hby).mono (undrew hbx).size)
  have HB0 := Hid.mk hB
  clear hrow HV hx hy hB b0 b1 h ha hr hbx hby
  go_wp2_with fail
  refine hs.mono ?_
  rintro e w3 ⟨hb3, rfl⟩
  clear hs
  have hrow3 : w3.ownsRow (W.alloc (opo 6 n a b t v)).heap.size 29 2 (.slice (some ⟨g, 0, none⟩) m c) m (wcells l) := Kp.row (fs := []) (Kp.of_below hb3 _) hrow2 (by simp)
  have hb4 := hb0.trans (hb3.mono hb0.size)
  clear hrow2 hb3 hb0
  have hgw := (hrow3.lt g rfl).1
  have HR := Hid.mk hrow3
  have hdec : decide (l = (some l).getD []) = true := by simp
  obtain ⟨N0, hN0⟩ : ∃ N0, (W.alloc (opo 6 n a b t v)).heap.size = N0 := ⟨_, rfl⟩
  rw [hN0] at hgw HR hb4
  have HN0 := Hid.mk hN0
  clear hN0 hrow3
  go_wp2_with fail
  go_loopw [202] (fun i wr => ∃ (k : Nat) (cs : List Value), i = .int .i64 k ∧ k ≤ m ∧ Hid (wr.ownsRow N0 29 2 (.slice (some ⟨g, 0, none⟩) m c) m cs ∧ ∀ j, k ≤ j → (hj : j < l.length) → cs[j * 2 + 1]? = some (.int .i64 l[j].2)) ∧ Below N0 (W.alloc (opo 6 n a b t v)) wr) (fun i _ => m - (intOf i).toNat)
  case atStart => exact ⟨0, _, rfl, by omega, ⟨HR.out, fun j _ hj => wcells_snd hj⟩, hb4⟩
  case round =>
    clear hb4 HR
    obtain ⟨k, cs, rfl, hk, HX, hbw⟩ := hrel
    by_cases hlt : k < m
    · have h1 : k < l.length := by rw [HM.out]; exact hlt
      have hc := row_cell HX.out.1 (HX.out.2 k (Nat.le_refl _) h1)
      have hf := row_free HX.out.1 (k * 2 + 1)
      obtain ⟨y, hy⟩ : ∃ y, l[k].2 = y := ⟨_, rfl⟩
      rw [hy] at hc
      have HN : Hid (∀ u, (wr.setCell ⟨g, k * 2 + 1, none⟩ u).ownsRow N0 29 2 (.slice (some ⟨g, 0, none⟩) m c) m (cs.set (k * 2 + 1) u) ∧ ∀ j, k + 1 ≤ j → (hj : j < l.length) → (cs.set (k * 2 + 1) u)[j * 2 + 1]? = some (.int .i64 l[j].2)) := by
        intro u
        refine ⟨(HX.out.1.stored (k * 2 + 1) u).1, fun j hj hjl => ?_⟩
        rw [List.getElem?_set_ne (by omega)]
        exact HX.out.2 j (by omega) hjl
      clear hy HX
      go_wp2_with fail
      exact ⟨⟨k + 1, _, by go_num, by omega, HN.out _, hbw.setCell (p := ⟨g, k * 2 + 1, none⟩) hgw _⟩, by simp [intOf]; omega⟩
    · obtain rfl : k = m := by omega
      have HF := Hid.mk ((HB0.out.keep (by rw [HN0.out]; exact hbw)).lst)
      clear HX
      go_wp2_with fail
      go_ret
      exact ⟨by simp, HF.out⟩
end
end Go.Proofs.Ytkooogllajmkeaa
