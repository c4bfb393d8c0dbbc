/- The document's Copy: the walk. -/
import Derived.Test.YtkooogllajmkeaaRw
import Derived.Deep.RegionHeld3
import Derived.Deep.DrawnRows
namespace Go.Proofs.Ytkooogllajmkeaa
open Go.RowKit
set_option pp.deepTerms true
attribute [local go_sem ↓] Go.wp_at_zero Go.wp_at_succ
def CopyPost (w : World) (S : Sp) (e : Ending) (w' : World) : Prop := Below w.heap.size w w' ∧ ∃ q gs', e = .returned (.pointer (some ⟨q, 0, none⟩)) ∧ RSpc w' q S gs' ∧ ∀ b ∈ gs', w.heap.size ≤ b
section
variable {w : World} {p : Nat}
theorem cp_start {w2 : World} {ls : List LReg} {la : Int} {g n cap : Nat} (hl : ls.length = n) (hown : w2.ownsRow w.heap.size 39 2 (.slice (some ⟨g, 0, none⟩) (0 + n) cap) (0 + n) ([] ++ gcells ls))
    (hg : (w.alloc (.cells #[.slice none 0 0, .slice none 0 0, .int .i64 la] 56)).grownBy w2 none) (hgg : g = w.heap.size + 1) :
    CpAt w w.heap.size la (.slice (some ⟨g, 0, none⟩) (0 + n) cap) (.slice none 0 0) ls [] (w2.setCell ⟨w.heap.size, 0, none⟩ (.slice (some ⟨g, 0, none⟩) (0 + n) cap)) := by
  have hh2 : w2.heap[w.heap.size]? = some (.cells #[.slice none 0 0, .slice none 0 0, .int .i64 la] 56 (0, 0)) := (hg.block _ (by simp) (by simp)).trans (heap_alloc_new w _)
  refine ⟨?_, ?_, World.ownsRow_nil _ _ _ _, by simp, ?_, Nat.le_refl _, ?_⟩
  · have := heap_setCell_same w2 w.heap.size 0 _ _ (.slice (some ⟨g, 0, none⟩) (0 + n) cap) hh2
    simpa using this
  · have := ownsRow_setCell_other (a := ⟨w.heap.size, 0, none⟩) hown (by simp [Value.ownBlock]; omega) (.slice (some ⟨g, 0, none⟩) (0 + n) cap)
    rw [hl]
    rw [Nat.zero_add] at this ⊢
    exact this
  · simp only [rfoot, Value.ownBlock, Option.toList_some, Option.toList_none, List.map_nil, List.append_nil]
    refine List.nodup_cons.2 ⟨?_, by simp⟩
    simp; omega
  · exact Below.setCell (p := ⟨w.heap.size, 0, none⟩) (Below.grown ((Below.refl _ _).alloc (Nat.le_refl _) _) hg (by simp) (by simp)) (Nat.le_refl _) _
theorem cp_zero (la : Int) : CpAt w w.heap.size la (.slice none 0 0) (.slice none 0 0) [] [] (w.alloc (.cells #[.slice none 0 0, .slice none 0 0, .int .i64 la] 56)) :=
  ⟨heap_alloc_new w _, World.ownsRow_nil _ _ _ _, World.ownsRow_nil _ _ _ _, by simp, by simp [rfoot, Value.ownBlock], Nat.le_refl _, (Below.refl _ _).alloc (Nat.le_refl _) _⟩
theorem CpAt.drew {C : Nat} {la : Int} {rv tv : Value} {ls ls' : List LReg} {W : World} (h : CpAt w C la rv tv ls ls' W) : CpAt w C la rv tv ls ls' W.drew := by
  obtain ⟨h1, h2, h3, h4, h5, h6, h7⟩ := h
  exact ⟨h1, h2.drew, h3.drew, fun r hr => (h4 r hr).drew, h5, h6, h7.drew⟩
theorem grown_cell {w w1 : World} {row : Option Nat} (hg : w.grownBy w1 row) {a : Addr} {v : Value} (h : w.cell? a = some v) (hne : some a.block ≠ row) : w1.cell? a = some v := (World.cell?_of_block (hg.block _ (cell_lt h) hne)).trans h
theorem alloc_cell {w : World} {o : Obj} {a : Addr} {v : Value} (h : w.cell? a = some v) : (w.alloc o).cell? a = some v := (cell_alloc (cell_lt h)).trans h
theorem wc_one {l : List (Int × Int)} : ∀ u ∈ wcells l, u.oneCell' = true := by
  intro u hu
  simp only [wcells, wcell, List.mem_flatMap, List.mem_cons, List.not_mem_nil, or_false] at hu
  obtain ⟨r, _, rfl | rfl⟩ := hu <;> rfl
theorem step_append_zero {w : World} {ops : Array Oper} {o : Oper} {a : Act} {K : Act → World → Prop} {Q : Exit → Act → World → Prop} {E : Prop} (hgd : o.guard = none) (s x : Operand) (t : TypeId)
    (ho : o.op = .call { callee := .builtin .append, args := #[s, x], argTypes := #[t, t] }) (ao : Option Addr) (c : Nat) (hs : a.eval s = .slice none 0 0) (hx : a.eval x = .slice ao 0 c)
    (hr : (Builtin.append_ #[t, t] o.type #[.slice none 0 0, .slice ao 0 c]).run Try.prog w = .ok (.slice none 0 0) w) (h : K (a.put o.dst (.slice none 0 0)) w) :
    if Region.wanted o (yielded ops a.tmps) = true then Oper.wp Try.prog o a w K Q else E := by
  have hw : Region.wanted o (yielded ops a.tmps) = true := by simp [Region.wanted, hgd]
  rw [if_pos hw]
  unfold Oper.wp execOp
  simp only [ho, resolve, invoke, builtin, Sem.run_bind, Sem.run_pure, Result.andThen_ok, List.map_toArray, List.map_cons, List.map_nil, hs, hx, hr]
  exact h
theorem append_zero (w : World) (ty : TypeId) (ao : Option Addr) (c : Nat) : (Builtin.append_ #[36, 36] ty #[.slice none 0 0, .slice ao 0 c]).run Try.prog w = .ok (.slice none 0 0) w := by
  obtain ⟨i0, hi, hz0, hz1, hz2⟩ := info_parts infoR
  cases ao <;> simp [Builtin.append_, run_underlying Try.underlying36, sizeOf, typeInfo, hi, Builtin.lenOf, Builtin.firstCells, loadCells, loadCellsFrom]
set_option maxRecDepth 100000 in
set_option maxHeartbeats 2000000 in
theorem rcopy_spc {S : Sp} {gs : List Nat} (h : RSpc w p S gs) : Calls Try.prog 56 #[.pointer (some ⟨p, 0, none⟩)] w (CopyPost w S) := by
  obtain ⟨rv, wv, ls, h, ok, hwd, hr, hgs⟩ := h
  clear hgs
  obtain ⟨la, hla⟩ : ∃ la, S.last = la := ⟨_, rfl⟩
  rw [hla] at h ok
  have HLA := Hid.mk hla
  have HR := Hid.mk hr
  have HO := Hid.mk ok
  have HWD := Hid.mk hwd
  have hcn := ok.count
  have H := Hid.mk h
  have hpl : p < w.heap.size := lt_of_heap h.head
  have c2 := h.cell2
  have c0 := h.cell0
  obtain ⟨n, hn⟩ : ∃ n, ls.length = n := ⟨_, rfl⟩
  have HNL := Hid.mk hn
  rw [hn] at hcn
  obtain ⟨i0, hi, hz0, hz1, hz2⟩ := info_parts infoR
  obtain ⟨i1, hj, hy0, hy1, hy2⟩ := info_parts infoV
  obtain ⟨i2, hk, hx0, hx1, hx2⟩ := info_parts infoS
  clear hla hr ok hwd hn h
  go_enter Try.func56, Try.ntmps56
  go_upto_region 2 with (fail)
  go_cut [] (fun W => Hid (∃ rv', CpAt w w.heap.size la rv' (.slice none 0 0) ls [] W))
  case first =>
    clear c2 hj hy0 hy1 hy2 hk hx0 hx1 hx2
    by_cases hn0 : n = 0
    · subst hn0
      have hl0 : ls = [] := List.eq_nil_of_length_eq_zero HNL.out
      obtain ⟨ao, c, hrv, -⟩ := H.out.shape
      rw [hrv, HNL.out] at c0
      clear hrv H
      have HC := Hid.mk (cp_zero (w := w) la)
      have HL0 := Hid.mk hl0
      clear HR hl0 HNL
      have c0a := alloc_cell (o := .cells #[.slice none 0 0, .slice none 0 0, .int .i64 la] 56) c0
      go_region_law (refine step_append_zero (by rfl) _ _ _ (by rfl) ao c (by rfl) (by rfl) (append_zero _ _ _ _) ?_)
      all_goals
        go_wp2_with fail
        go_meet
        case rel => rw [HL0.out]; exact ⟨_, HC.out.drew⟩
    · obtain ⟨B, c, hrv, hc, hB, hx⟩ := H.out.rrow (by have := HNL.out; omega)
      rw [hrv, HNL.out] at c0
      have HL1 : (gcells ls).length = n * 2 := by rw [gcells_len, HNL.out]
      have HNEWS : Hid (∀ j u, (gcells ls)[j]? = some u → (w.alloc (.cells #[.slice none 0 0, .slice none 0 0, .int .i64 la] 56)).cell? ((⟨B, 0, none⟩ : Addr).add j) = some u) := by
        intro j u hu
        have := alloc_cell (o := .cells #[.slice none 0 0, .slice none 0 0, .int .i64 la] 56) (hx j u hu)
        cases j <;> simpa [Addr.add] using this
      clear hrv hx H
      have c0a := alloc_cell (o := .cells #[.slice none 0 0, .slice none 0 0, .int .i64 la] 56) c0
      go_region_law (refine step_append_lies _ (by rfl) _ _ _ (by rfl) w.heap.size 39 i0 (.agg #[.int .i64 0, .int .i64 0]) 2 16 Try.underlying36 hi hz0 hz1 hz2 rfl (by omega) (.slice none 0 0) 0 [] (by rfl) (World.ownsRow_nil _ _ _ _) ⟨B, 0, none⟩ n c (gcells ls) (by rfl) HL1 HNEWS.out gcells_one (by omega) (by unfold maxLen; omega) (by omega) (by simp) (w.heap.size + 1) (by simp) ?_; intro g cap w2 hown2 hgrow2 hat2 hlt2; have hh2 : w2.heap[w.heap.size]? = some (.cells #[.slice none 0 0, .slice none 0 0, .int .i64 la] 56 (0, 0)) := (hgrow2.block _ (by simp) (by simp [Value.ownBlock])).trans (heap_alloc_new w _); have v1 : w2.cell? ⟨w.heap.size, 0, none⟩ = some (.slice none 0 0) := (by rw [cell_of_row w2 w.heap.size 0 _ _ _ hh2]; rfl); have vf : w2.frozen? ⟨w.heap.size, 0, none⟩ = false := frozen_of_row w2 w.heap.size 0 _ _ hh2)
      all_goals
        have HC := Hid.mk (cp_start HNL.out hown2 (by exact ⟨hgrow2.os, hgrow2.tape, hgrow2.output, hgrow2.size, hgrow2.block⟩) (by rcases hat2 with q | q <;> first | exact q | simp [Value.ownBlock] at q))
        clear hown2 hgrow2 hat2
        go_wp2_with fail
        go_meet
        case rel => first | exact ⟨_, HC.out⟩ | exact ⟨_, by simpa using HC.out⟩
  case rest =>
    obtain ⟨rv', hcp⟩ := hcut.out
    clear hcut c2 c0 hi hz0 hz1 hz2
    obtain ⟨C, hC⟩ : ∃ C, w.heap.size = C := ⟨_, rfl⟩
    have HCC := Hid.mk hC
    have HCP := Hid.mk hcp
    obtain ⟨ao, c, hwv, hc⟩ := H.out.wshape
    rw [HNL.out] at hwv
    have c1 := H.out.cell1
    rw [hwv] at c1
    have HC := Hid.mk hc
    clear hwv hc hcp
    rw [hC]
    go_wp2_with fail
    go_loopw [4] (fun i wr => ∃ (k : Nat) (ls' : List LReg) (tv : Value), i = .int .i64 k ∧ k ≤ n ∧ Hid (ls'.map LReg.reg = (ls.take k).map LReg.reg ∧ ls'.length = k ∧ CpAt w w.heap.size la rv' tv ls ls' wr)) (fun i _ => n - (intOf i).toNat)
    case atStart => exact ⟨0, [], _, rfl, by omega, by simp, rfl, HCP.out⟩
    case round =>
      clear HCP
      obtain ⟨k, ls', tv, rfl, hk1, HX⟩ := hrel
      have hbw : Below w.heap.size w wr := HX.out.2.2.2.2.2.2.2.2
      have d1 := (hbw.cell (p := ⟨p, 1, none⟩) hpl).trans c1
      have hhC := HX.out.2.2.1
      rw [HCC.out] at hhC
      by_cases hlt : k < n
      · have h1 : k < ls.length := by rw [HNL.out]; exact hlt
        obtain ⟨B, rfl, hB, b0⟩ := HC.out k h1
        have d2 := (hbw.cell (p := ⟨B, k, none⟩) hB).trans b0
        have d3 : wr.cell? ⟨C, 1, none⟩ = some tv := by rw [cell_of_row wr C 1 _ _ _ hhC]; rfl
        have hw := (H.out.below hbw).wrow h1
        obtain ⟨x, hx⟩ : ∃ x, x = ls[k] := ⟨_, rfl⟩
        rw [← hx] at d2 hw
        have hm1 := (HO.out.lo _ (List.getElem_mem h1)).2
        rw [← hx] at hm1
        have HXX := Hid.mk hx
        obtain ⟨m, hm⟩ : ∃ m, x.words.length = m := ⟨_, rfl⟩
        have HM := Hid.mk hm
        rw [hm] at d2 hw hm1
        have HW := Hid.mk hw
        have hm2 : 1 ≤ m ∧ m ≤ 1048576 := ⟨hm1.1, hm1.2.1⟩
        clear hm1 b0 hx hm hw
        have HL1 : (wcells x.words).length = m * 2 := by rw [wcells_len, HM.out]
        have HNEWS : Hid (∀ j u, (wcells x.words)[j]? = some u → wr.cell? ((⟨x.wb, 0, none⟩ : Addr).add j) = some u) := by
          intro j u hu
          have := row_cell HW.out hu
          cases j <;> simpa [Addr.add] using this
        have HT : Hid (wr.ownsRow w.heap.size 62 1 tv k (ls'.map LReg.sl)) := by
          have := HX.out.2.2.2.2.1
          rw [HX.out.2.1] at this
          exact this
        have hwC := hbw.size
        have hCt : tv.ownBlock ≠ some C := by
          have := (List.nodup_cons.1 HX.out.2.2.2.2.2.2.1).1
          rw [HCC.out] at this
          exact fun e => this (List.mem_append.2 (.inr (List.mem_append.2 (.inl (by simp [e])))))
        rw [hC] at hwC
        have hCl := lt_of_heap hhC
        go_upto_region 7 with (fail)
        have hsz := hbw.size
        have HST : Hid (∀ (w1 w2 : World) (ob : Obj), wr.drew.grownBy w1 (Value.slice none 0 0).ownBlock → (w1.alloc ob).grownBy w2 tv.ownBlock → w2.heap[C]? = some (.cells #[rv', tv, .int .i64 la] 56 (0, 0))) := by
          intro w1 w2 ob g1 g2
          have s1 := g1.size
          simp only [World.size_drew] at s1
          exact (g2.block C (by simp; omega) (fun e => hCt e.symm)).trans ((Below.heap_alloc _ _ _ (by omega)).trans ((g1.block C hCl (by simp [Value.ownBlock])).trans hhC))
        have HKT : Hid (∀ (w1 : World) (ob : Obj), wr.drew.grownBy w1 (Value.slice none 0 0).ownBlock → (w1.alloc ob).ownsRow w.heap.size 62 1 tv k (ls'.map LReg.sl)) := by
          intro w1 ob g1
          exact (HT.out.drew.kept g1 (by cases h : tv.ownBlock <;> simp [Value.ownBlock])).alloc _
        have HB1 : Hid (∀ (w1 : World), wr.drew.grownBy w1 (Value.slice none 0 0).ownBlock → w.heap.size ≤ w1.heap.size) := by
          intro w1 g1
          have s1 := g1.size
          simp only [World.size_drew] at s1
          omega
        go_region_law (first | (refine step_append_lies _ (by rfl) _ _ _ (by rfl) w.heap.size 29 i1 (.agg #[.int .i64 0, .int .i64 0]) 2 16 Try.underlying62 hj hy0 hy1 hy2 rfl (by omega) (.slice none 0 0) 0 [] (by rfl) (World.ownsRow_nil _ _ _ _) ⟨x.wb, 0, none⟩ m x.cap (wcells x.words) (by rfl) HL1 HNEWS.out wc_one (by omega) (by unfold maxLen; omega) (by omega) hsz wr.heap.size (by rfl) ?_; intro g cap w1 hown1 hgrow1 hat1 hlt1; have d4 : w1.cell? ⟨C, 1, none⟩ = some tv := grown_cell (w := wr.drew) hgrow1 d3 (by simp [Value.ownBlock]); have d5 := fun ob => alloc_cell (o := ob) d4) | (refine step_append_lies _ (by rfl) _ _ _ (by rfl) w.heap.size 62 i2 (.slice none 0 0) 1 24 Try.underlying54 hk hx0 hx1 hx2 rfl (by omega) tv k (ls'.map LReg.sl) (by rfl) (HKT.out w1 _ hgrow1) ⟨w1.heap.size, 0, none⟩ 1 1 [.slice (some ⟨g, 0, none⟩) (0 + m) cap] (by rfl) (by rfl) (by intro j u hu; have := one_new w1 (.slice (some ⟨g, 0, none⟩) (0 + m) cap) 62 j u hu; simpa using this) (by simp [Value.oneCell']) (by omega) (by unfold maxLen; omega) (by omega) (by have := HB1.out w1 hgrow1; simp; omega) (w1.heap.size + 1) (by simp) ?_; intro g2 cap2 w2 hown2 hgrow2 hat2 hlt2; have hh2 := HST.out w1 w2 _ hgrow1 hgrow2; have v1 : w2.cell? ⟨C, 1, none⟩ = some tv := (by rw [cell_of_row w2 C 1 _ _ _ hh2]; rfl); have vf : w2.frozen? ⟨C, 1, none⟩ = false := frozen_of_row w2 C 1 _ _ hh2))
        all_goals
          have HF : Hid (CpAt w C la rv' (.slice (some ⟨g2, 0, none⟩) (k + 1) cap2) ls (ls' ++ [⟨x.base, g, cap, x.words⟩]) (w2.setCell ⟨C, 1, none⟩ (.slice (some ⟨g2, 0, none⟩) (k + 1) cap2))) := by
            have e2 := HX.out.2.1
            have h0 := HX.out.2.2
            rw [HCC.out] at h0
            subst e2
            exact cp_step h0 (by rw [HM.out]; simpa using hown1) ⟨hgrow1.os, hgrow1.tape, hgrow1.output, hgrow1.size, fun i hi _ => hgrow1.block i hi (by simp [Value.ownBlock])⟩ (by rcases hat1 with q | q <;> first | exact q | simp [Value.ownBlock] at q) (by rw [HM.out]; simpa using hown2) hgrow2 hat2
          have HG : Hid ((ls' ++ [(⟨x.base, g, cap, x.words⟩ : LReg)]).map LReg.reg = (ls.take (k + 1)).map LReg.reg ∧ (ls' ++ [(⟨x.base, g, cap, x.words⟩ : LReg)]).length = k + 1) := by
            refine ⟨?_, by simp [HX.out.2.1]⟩
            rw [List.take_succ_eq_append_getElem h1, List.map_append, List.map_append, HX.out.1, ← HXX.out]
            rfl
          clear hown1 hgrow1 hat1 hown2 hgrow2 hat2 hh2 d4 d5 HKT HST HB1 HT HNEWS HL1
          rw [← HCC.out] at HF
          go_wp2_with fail
          exact ⟨⟨k + 1, _, _, by go_num, by omega, HG.out.1, HG.out.2, by first | exact HF.out | (rw [← HCC.out]; exact HF.out)⟩, by simp [intOf]; omega⟩
      · obtain rfl : k = n := by omega
        have HF : Hid (CopyPost w S (.returned (.pointer (some ⟨C, 0, none⟩))) wr) := by
          obtain ⟨e1, e2, e3⟩ := HX.out
          rw [List.take_of_length_le (by rw [HNL.out]; exact Nat.le_refl _)] at e1
          refine ⟨hbw, C, rfoot C rv' tv ls', rfl, ?_, ?_⟩
          · have := cp_done e3 e1 HO.out HWD.out
            rw [HCC.out] at this
            have e : (⟨ls.map LReg.reg, la⟩ : Sp) = S := by rw [← HR.out, ← HLA.out]
            rw [e] at this
            exact this
          · intro b hb
            rw [← HCC.out] at hb
            exact (e3.lt b hb).1
        clear HX hhC HC
        go_wp2_with fail
        go_ret
        exact HF.out
end
end Go.Proofs.Ytkooogllajmkeaa
