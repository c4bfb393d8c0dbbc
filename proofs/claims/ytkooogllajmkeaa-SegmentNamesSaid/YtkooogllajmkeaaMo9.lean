/- Parts Rx Cp, put together. -/
import Derived.Test.YtkooogllajmkeaaMo8
import Derived.Deep.RegionHeld3
import Derived.Deep.DrawnRows
/- The document's Copy: the walk. -/
namespace Go.Proofs.Ytkooogllajmkeaa
open Go.RowKit
set_option pp.deepTerms true
attribute [local go_sem ↓] Go.wp_at_zero Go.wp_at_succ
def CopyPost (w : World) (S : Sp) (e : Ending) (w' : World) : Prop := Below w.heap.size w w' ∧ ∃ q gs', e = .returned (.pointer (some ⟨q, 0, none⟩)) ∧ RSpc w' q S gs' ∧ ∀ b ∈ gs', w.heap.size ≤ b
section
variable {w : World} {p : Nat}
theorem cp_start {w2 : World} {ls : List LReg} {la : Int} {g n cap : Nat} (hl : ls.length = n) (hown : w2.ownsRow w.heap.size 39 2 (.slice (some ⟨g, 0, none⟩) (0 + n) cap) (0 + n) ([] ++ gcells ls))
    (hg : (w.alloc (.cells #[.slice none 0 0, .slice none 0 0, .int .i64 la] 56)).grownBy w2 none) (hgg : g = w.heap.size + 1) :
    CpAt w w.heap.size la (.slice (some ⟨g, 0, none⟩) (0 + n) cap) (.slice none 0 0) ls [] (w2.setCell ⟨w.heap.size, 0, none⟩ (.slice (some ⟨g, 0, none⟩) (0 + n) cap)) := by
  have hh2 : w2.heap[w.heap.size]? = some (.cells #[.slice none 0 0, .slice none 0 0, .int .i64 la] 56 (0, 0)) := (hg.block _ (by simp) (by simp)).trans (heap_alloc_new w _)
  refine ⟨?_, ?_, World.ownsRow_nil _ _ _ _, by simp, ?_, Nat.le_refl _, ?_⟩
  · have := heap_setCell_same w2 w.heap.size 0 _ _ (.slice (some ⟨g, 0, none⟩) (0 + n) cap) hh2
    simpa using this
  · have := ownsRow_setCell_other (a := ⟨w.heap.size, 0, none⟩) hown (by simp [Value.ownBlock]; omega) (.slice (some ⟨g, 0, none⟩) (0 + n) cap)
    rw [hl]
    rw [Nat.zero_add] at this ⊢
    exact this
  · simp only [rfoot, Value.ownBlock, Option.toList_some, Option.toList_none, List.map_nil, List.append_nil]
    refine List.nodup_cons.2 ⟨?_, by simp⟩
    simp; omega
  · exact Below.setCell (p := ⟨w.heap.size, 0, none⟩) (Below.grown ((Below.refl _ _).alloc (Nat.le_refl _) _) hg (by simp) (by simp)) (Nat.le_refl _) _
theorem cp_zero (la : Int) : CpAt w w.heap.size la (.slice none 0 0) (.slice none 0 0) [] [] (w.alloc (.cells #[.slice none 0 0, .slice none 0 0, .int .i64 la] 56)) :=
  ⟨heap_alloc_new w _, World.ownsRow_nil _ _ _ _, World.ownsRow_nil _ _ _ _, by simp, by simp [rfoot, Value.ownBlock], Nat.le_refl _, (Below.refl _ _).alloc (Nat.le_refl _) _⟩
theorem CpAt.drew {C : Nat} {la : Int} {rv tv : Value} {ls ls' : List LReg} {W : World} (h : CpAt w C la rv tv ls ls' W) : CpAt w C la rv tv ls ls' W.drew := by
  obtain ⟨h1, h2, h3, h4, h5, h6, h7⟩ := h
  exact ⟨h1, h2.drew, h3.drew, fun r hr => (h4 r hr).drew, h5, h6, h7.drew⟩
theorem grown_cell {w w1 : World} {row : Option Nat} (hg : w.grownBy w1 row) {a : Addr} {v : Value} (h : w.cell? a = some v) (hne : some a.block ≠ row) : w1.cell? a = some v := (World.cell?_of_block (hg.block _ (cell_lt h) hne)).trans h
theorem alloc_cell {w : World} {o : Obj} {a : Addr} {v : Value} (h : w.cell? a = some v) : (w.alloc o).cell? a = some v := (cell_alloc (cell_lt h)).trans h
theorem wc_one {l : List (Int × Int)} : ∀ u ∈ wcells l, u.oneCell' = true := by
  intro u hu
  simp only [wcells, wcell, List.mem_flatMap, List.mem_cons, List.not_mem_nil, or_false] at hu
  obtain ⟨r, _, rfl | rfl⟩ := hu <;> rfl
theorem step_append_zero {w : World} {ops : Array Oper} {o : Oper} {a : Act} {K : Act → World → Prop} {Q : Exit → Act → World → Prop} {E : Prop} (hgd : o.guard = none) (s x : Operand) (t : TypeId)
    (ho : o.op = .call { callee := .builtin .append, args := #[s, x], argTypes := #[t, t] }) (ao : Option Addr) (c : Nat) (hs : a.eval s = .slice none 0 0) (hx : a.eval x = .slice ao 0 c)
    (hr : (Builtin.append_ #[t, t] o.type #[.slice none 0 0, .slice ao 0 c]).run Try.prog w = .ok (.slice none 0 0) w) (h : K (a.put o.dst (.slice none 0 0)) w) :
    if Region.wanted o (yielded ops a.tmps) = true then Oper.wp Try.prog o a w K Q else E := by
  have hw : Region.wanted o (yielded ops a.tmps) = true := by simp [Region.wanted, hgd]
  rw [if_pos hw]
  unfold Oper.wp execOp
  simp only [ho, resolve, invoke, builtin, Sem.run_bind, Sem.run_pure, Result.andThen_ok, List.map_toArray, List.map_cons, List.map_nil, hs, hx, hr]
  exact h
theorem append_zero (w : World) (ty : TypeId) (ao : Option Addr) (c : Nat) : (Builtin.append_ #[36, 36] ty #[.slice none 0 0, .slice ao 0 c]).run Try.prog w = .ok (.slice none 0 0) w := by
  obtain ⟨i0, hi, hz0, hz1, hz2⟩ := info_parts infoR
  cases ao <;> simp [Builtin.append_, run_underlying Try.underlying36, sizeOf, typeInfo, hi, Builtin.lenOf, Builtin.firstCells, loadCells, loadCellsFrom]
set_option maxRecDepth 100000 in
set_option maxHeartbeats 2000000 in
theorem rcopy_spc {S : Sp} {gs : List Nat} (h : RSpc w p S gs) : Calls Try.prog 56 #[.pointer (some ⟨p, 0, none⟩)] w (CopyPost w S) := by
  obtain ⟨rv, wv, ls, h, ok, hwd, hr, hgs⟩ := h
  clear hgs
  obtain ⟨la, hla⟩ : ∃ la, S.last = la := ⟨_, rfl⟩
  rw [hla] at h ok
  have HLA := Hid.mk hla
  have HR := Hid.mk hr
  have HO := Hid.mk ok
  have HWD := Hid.mk hwd
  have hcn := ok.count
  have H := Hid.mk h
  have hpl : p < w.heap.size := lt_of_heap h.head
  have c2 := h.cell2
  have c0 := h.cell0
  obtain ⟨n, hn⟩ : ∃ n, ls.length = n := ⟨_, rfl⟩
  have HNL := Hid.mk hn
  rw [hn] at hcn
  obtain ⟨i0, hi, hz0, hz1, hz2⟩ := info_parts infoR
  obtain ⟨i1, hj, hy0, hy1, hy2⟩ := info_parts infoV
  obtain ⟨i2, hk, hx0, hx1, hx2⟩ := info_parts infoS
  clear hla hr ok hwd hn h
  go_enter Try.func56, Try.ntmps56
  go_upto_region 2 with (fail)
  go_cut [] (fun W => Hid (∃ rv', CpAt w w.heap.size la rv' (.slice none 0 0) ls [] W))
  case first =>
    clear c2 hj hy0 hy1 hy2 hk hx0 hx1 hx2
    by_cases hn0 : n = 0
    · subst hn0
      have hl0 : ls = [] := List.eq_nil_of_length_eq_zero HNL.out
      obtain ⟨ao, c, hrv, -⟩ := H.out.shape
      rw [hrv, HNL.out] at c0
      clear hrv H
      have HC := Hid.mk (cp_zero (w := w) la)
      have HL0 := Hid.mk hl0
      clear HR hl0 HNL
      have c0a := alloc_cell (o := .cells #[.slice none 0 0, .slice none 0 0, .int .i64 la] 56) c0
      go_region_law (refine step_append_zero (by rfl) _ _ _ (by rfl) ao c (by rfl) (by rfl) (append_zero _ _ _ _) ?_)
      all_goals
        go_wp2_with fail
        go_meet
        case rel => rw [HL0.out]; exact ⟨_, HC.out.drew⟩
    · obtain ⟨B, c, hrv, hc, hB, hx⟩ := H.out.rrow (by have := HNL.out; omega)
      rw [hrv, HNL.out] at c0
      have HL1 : (gcells ls).length = n * 2 := by rw [gcells_len, HNL.out]
      have HNEWS : Hid (∀ j u, (gcells ls)[j]? = some u → (w.alloc (.cells #[.slice none 0 0, .slice none 0 0, .int .i64 la] 56)).cell? ((⟨B, 0, none⟩ : Addr).add j) = some u) := by
        intro j u hu
        have := alloc_cell (o := .cells #[.slice none 0 0, .slice none 0 0, .int .i64 la] 56) (hx j u hu)
        cases j <;> simpa [Addr.add] using this
      clear hrv hx H
      have c0a := alloc_cell (o := .cells #[.slice none 0 0, .slice none 0 0, .int .i64 la] 56) c0
      go_region_law (refine step_append_lies _ (by rfl) _ _ _ (by rfl) w.heap.size 39 i0 (.agg #[.int .i64 0, .int .i64 0]) 2 16 Try.underlying36 hi hz0 hz1 hz2 rfl (by omega) (.slice none 0 0) 0 [] (by rfl) (World.ownsRow_nil _ _ _ _) ⟨B, 0, none⟩ n c (gcells ls) (by rfl) HL1 HNEWS.out gcells_one (by omega) (by unfold maxLen; omega) (by omega) (by simp) (w.heap.size + 1) (by simp) ?_; intro g cap w2 hown2 hgrow2 hat2 hlt2; have hh2 : w2.heap[w.heap.size]? = some (.cells #[.slice none 0 0, .slice none 0 0, .int .i64 la] 56 (0, 0)) := (hgrow2.block _ (by simp) (by simp [Value.ownBlock])).trans (heap_alloc_new w _); have v1 : w2.cell? ⟨w.heap.size, 0, none⟩ = some (.slice none 0 0) := (by rw [cell_of_row w2 w.heap.size 0 _ _ _ hh2]; rfl); have vf : w2.frozen? ⟨w.heap.size, 0, none⟩ = false := frozen_of_row w2 w.heap.size 0 _ _ hh2)
      all_goals
        have HC := Hid.mk (cp_start HNL.out hown2 (by exact ⟨hgrow2.os, hgrow2.tape, hgrow2.output, hgrow2.size, hgrow2.block⟩) (by rcases hat2 with q | q <;> first | exact q | simp [Value.ownBlock] at q))
        clear hown2 hgrow2 hat2
        go_wp2_with fail
        go_meet
        case rel => first | exact ⟨_, HC.out⟩ | exact ⟨_, by simpa using HC.out⟩
  case rest =>
    obtain ⟨rv', hcp⟩ := hcut.out
    clear hcut c2 c0 hi hz0 hz1 hz2
    obtain ⟨C, hC⟩ : ∃ C, w.heap.size = C := ⟨_, rfl⟩
    have HCC := Hid.mk hC
    have HCP := Hid.mk hcp
    obtain ⟨ao, c, hwv, hc⟩ := H.out.wshape
    rw [HNL.out] at hwv
    have c1 := H.out.cell1
    rw [hwv] at c1
    have HC := Hid.mk hc
    clear hwv hc hcp
    rw [hC]
    go_wp2_with fail
    go_loopw [4] (fun i wr => ∃ (k : Nat) (ls' : List LReg) (tv : Value), i = .int .i64 k ∧ k ≤ n ∧ Hid (ls'.map LReg.reg = (ls.take k).map LReg.reg ∧ ls'.length = k ∧ CpAt w w.heap.size la rv' tv ls ls' wr)) (fun i _ => n - (intOf i).toNat)
    case atStart => exact ⟨0, [], _, rfl, by omega, by simp, rfl, HCP.out⟩
    case round =>
      clear HCP
      obtain ⟨k, ls', tv, rfl, hk1, HX⟩ := hrel
      have hbw : Below w.heap.size w wr := HX.out.2.2.2.2.2.2.2.2
      have d1 := (hbw.cell (p := ⟨p, 1, none⟩) hpl).trans c1
      have hhC := HX.out.2.2.1
      rw [HCC.out] at hhC
      by_cases hlt : k < n
      · have h1 : k < ls.length := by rw [HNL.out]; exact hlt
        obtain ⟨B, rfl, hB, b0⟩ := HC.out k h1
        have d2 := (hbw.cell (p := ⟨B, k, none⟩) hB).trans b0
        have d3 : wr.cell? ⟨C, 1, none⟩ = some tv := by rw [cell_of_row wr C 1 _ _ _ hhC]; rfl
        have hw := (H.out.below hbw).wrow h1
        obtain ⟨x, hx⟩ : ∃ x, x = ls[k] := ⟨_, rfl⟩
        rw [← hx] at d2 hw
        have hm1 := (HO.out.lo _ (List.getElem_mem h1)).2
        rw [← hx] at hm1
        have HXX := Hid.mk hx
        obtain ⟨m, hm⟩ : ∃ m, x.words.length = m := ⟨_, rfl⟩
        have HM := Hid.mk hm
        rw [hm] at d2 hw hm1
        have HW := Hid.mk hw
        have hm2 : 1 ≤ m ∧ m ≤ 1048576 := ⟨hm1.1, hm1.2.1⟩
        clear hm1 b0 hx hm hw
        have HL1 : (wcells x.words).length = m * 2 := by rw [wcells_len, HM.out]
        have HNEWS : Hid (∀ j u, (wcells x.words)[j]? = some u → wr.cell? ((⟨x.wb, 0, none⟩ : Addr).add j) = some u) := by
          intro j u hu
          have := row_cell HW.out hu
          cases j <;> simpa [Addr.add] using this
        have HT : Hid (wr.ownsRow w.heap.size 62 1 tv k (ls'.map LReg.sl)) := by
          have := HX.out.2.2.2.2.1
          rw [HX.out.2.1] at this
          exact this
        have hwC := hbw.size
        have hCt : tv.ownBlock ≠ some C := by
          have := (List.nodup_cons.1 HX.out.2.2.2.2.2.2.1).1
          rw [HCC.out] at this
          exact fun e => this (List.mem_append.2 (.inr (List.mem_append.2 (.inl (by simp [e])))))
        rw [hC] at hwC
        have hCl := lt_of_heap hhC
        go_upto_region 7 with (fail)
        have hsz := hbw.size
        have HST : Hid (∀ (w1 w2 : World) (ob : Obj), wr.drew.grownBy w1 (Value.slice none 0 0).ownBlock → (w1.alloc ob).grownBy w2 tv.ownBlock → w2.heap[C]? = some (.cells #[rv', tv, .int .i64 la] 56 (0, 0))) := by
          intro w1 w2 ob g1 g2
          have s1 := g1.size
          simp only [World.size_drew] at s1
          exact (g2.block C (by simp; omega) (fun e => hCt e.symm)).trans ((Below.heap_alloc _ _ _ (by omega)).trans ((g1.block C hCl (by simp [Value.ownBlock])).trans hhC))
        have HKT : Hid (∀ (w1 : World) (ob : Obj), wr.drew.grownBy w1 (Value.slice none 0 0).ownBlock → (w1.alloc ob).ownsRow w.heap.size 62 1 tv k (ls'.map LReg.sl)) := by
          intro w1 ob g1
          exact (HT.out.drew.kept g1 (by cases h : tv.ownBlock <;> simp [Value.ownBlock])).alloc _
        have HB1 : Hid (∀ (w1 : World), wr.drew.grownBy w1 (Value.slice none 0 0).ownBlock → w.heap.size ≤ w1.heap.size) := by
          intro w1 g1
          have s1 := g1.size
          simp only [World.size_drew] at s1
          omega
        go_region_law (first | (refine step_append_lies _ (by rfl) _ _ _ (by rfl) w.heap.size 29 i1 (.agg #[.int .i64 0, .int .i64 0]) 2 16 Try.underlying62 hj hy0 hy1 hy2 rfl (by omega) (.slice none 0 0) 0 [] (by rfl) (World.ownsRow_nil _ _ _ _) ⟨x.wb, 0, none⟩ m x.cap (wcells x.words) (by rfl) HL1 HNEWS.out wc_one (by omega) (by unfold maxLen; omega) (by omega) hsz wr.heap.size (by rfl) ?_; intro g cap w1 hown1 hgrow1 hat1 hlt1; have d4 : w1.cell? ⟨C, 1, none⟩ = some tv := grown_cell (w := wr.drew) hgrow1 d3 (by simp [Value.ownBlock]); have d5 := fun ob => alloc_cell (o := ob) d4) | (refine step_append_lies _ (by rfl) _ _ _ (by rfl) w.heap.size 62 i2 (.slice none 0 0) 1 24 Try.underlying54 hk hx0 hx1 hx2 rfl (by omega) tv k (ls'.map LReg.sl) (by rfl) (HKT.out w1 _ hgrow1) ⟨w1.heap.size, 0, none⟩ 1 1 [.slice (some ⟨g, 0, none⟩) (0 + m) cap] (by rfl) (by rfl) (by intro j u hu; have := one_new w1 (.slice (some ⟨g, 0, none⟩) (0 + m) cap) 62 j u hu; simpa using this) (by simp [Value.oneCell']) (by omega) (by unfold maxLen; omega) (by omega) (by have := HB1.out w1 hgrow1; simp; omega) (w1.heap.size + 1) (by simp) ?_; intro g2 cap2 w2 hown2 hgrow2 hat2 hlt2; have hh2 := HST.out w1 w2 _ hgrow1 hgrow2; have v1 : w2.cell? ⟨C, 1, none⟩ = some tv := (by rw [cell_of_row w2 C 1 _ _ _ hh2]; rfl); have vf : w2.frozen? ⟨C, 1, none⟩ = false := frozen_of_row w2 C 1 _ _ hh2))
        all_goals
          have HF : Hid (CpAt w C la rv' (.slice (some ⟨g2, 0, none⟩) (k + 1) cap2) ls (ls' ++ [⟨x.base, g, cap, x.words⟩]) (w2.setCell ⟨C, 1, none⟩ (.slice (some ⟨g2, 0, none⟩) (k + 1) cap2))) := by
            have e2 := HX.out.2.1
            have h0 := HX.out.2.2
            rw [HCC.out] at h0
            subst e2
            exact cp_step h0 (by rw [HM.out]; simpa using hown1) ⟨hgrow1.os, hgrow1.tape, hgrow1.output, hgrow1.size, fun i hi _ => hgrow1.block i hi (by simp [Value.ownBlock])⟩ (by rcases hat1 with q | q <;> first | exact q | simp [Value.ownBlock] at q) (by rw [HM.out]; simpa using hown2) hgrow2 hat2
          have HG : Hid ((ls' ++ [(⟨x.base, g, cap, x.words⟩ : LReg)]).map LReg.reg = (ls.take (k + 1)).map LReg.reg ∧ (ls' ++ [(⟨x.base, g, cap, x.words⟩ : LReg)]).length = k + 1) := by
            refine ⟨?_, by simp [HX.out.2.1]⟩
            rw [List.take_succ_eq_append_getElem h1, List.map_append, List.map_append, HX.out.1, ← HXX.out]
            rfl
          clear hown1 hgrow1 hat1 hown2 hgrow2 hat2 hh2 d4 d5 HKT HST HB1 HT HNEWS HL1
          rw [← HCC.out] at HF
          go_wp2_with fail
          exact ⟨⟨k + 1, _, _, by go_num, by omega, HG.out.1, HG.out.2, by first | exact HF.out | (rw [← HCC.out]; exact HF.out)⟩, by simp [intOf]; omega⟩
      · obtain rfl : k = n := by omega
        have HF : Hid (CopyPost w S (.returned (.pointer (some ⟨C, 0, none⟩))) wr) := by
          obtain ⟨e1, e2, e3⟩ := HX.out
          rw [List.take_of_length_le (by rw [HNL.out]; exact Nat.le_refl _)] at e1
          refine ⟨hbw, C, rfoot C rv' tv ls', rfl, ?_, ?_⟩
          · have := cp_done e3 e1 HO.out HWD.out
            rw [HCC.out] at this
            have e : (⟨ls.map LReg.reg, la⟩ : Sp) = S := by rw [← HR.out, ← HLA.out]
            rw [e] at this
            exact this
          · intro b hb
            rw [← HCC.out] at hb
            exact (e3.lt b hb).1
        clear HX hhC HC
        go_wp2_with fail
        go_ret
        exact HF.out
end
end Go.Proofs.Ytkooogllajmkeaa
/- The program's Copy. -/
namespace Go.Proofs.Ytkooogllajmkeaa
open Go.RowKit Go.Shelf
set_option pp.deepTerms true
attribute [local go_sem] Oper.semAt_some
theorem SpAt.kept {W W' : World} {row : Option Nat} {C : Nat} {last : Int} {sl : Value} {ls : List LReg} (h : SpAt W C last sl ls) (hg : W.grownBy W' row) (hr : ∀ r, row = some r → ∃ o : Obj, W.heap[r]? = some o ∧ o.isCells = false) : SpAt W' C last sl ls := by
  have keep : ∀ (base T1 z : Nat) (v : Value) (n : Nat) (xs : List Value), W.ownsRow base T1 z v n xs → W'.ownsRow base T1 z v n xs := by
    intro base T1 z v n xs ho
    refine ho.kept hg ?_
    rcases ho.2 with ⟨rfl, _⟩ | ⟨g, cap, cur, rfl, _, hgb, _⟩
    · exact .inl rfl
    · refine .inr fun e' => ?_
      obtain ⟨o, ho, hc⟩ := hr g (by simpa [Value.ownBlock] using e'.symm)
      rw [hgb] at ho; cases ho; cases hc
  exact ⟨(grownBy_keeps_cells hg hr h.head rfl).trans h.head, keep _ _ _ _ _ _ h.row, fun r hr => keep _ _ _ _ _ _ (h.words r hr), h.nodup⟩
/-- the copy on its way: in block C, the variable's box in B -/
def CopyI (w : World) (C B : Nat) (last : Int) (rs : List LReg) (W : World) : Prop :=
  ∃ sl ls', Boxed W B 52 (.pointer (some ⟨C, 0, none⟩)) ∧ SpAt W C last sl ls' ∧ ls'.map LReg.reg = rs.map LReg.reg ∧ (∀ b ∈ foot C sl ls', w.heap.size ≤ b ∧ b ≠ B) ∧ (ls' = [] → sl = .slice none 0 0)
theorem copyI_own {ls : List LReg} (w : World) (C B : Nat) (last : Int) : Own (fun (pre : List (In ls)) W => CopyI w C B last (vals pre) W) := by
  rintro s X Y row ⟨sl, ls', h1, h2, h3, h4⟩ hg hr
  exact ⟨sl, ls', boxed_own B 52 (fun _ : Unit => .pointer (some ⟨C, 0, none⟩)) () X Y row h1 hg hr, h2.kept hg hr, h3, h4⟩
theorem CopyI.lt {w : World} {C B : Nat} {last : Int} {rs : List LReg} {W : World} (h : CopyI w C B last rs W) : B < W.heap.size := let ⟨_, _, h1, _⟩ := h; h1.lt
theorem CopyI.box {w : World} {C B : Nat} {last : Int} {rs : List LReg} {W : World} (h : CopyI w C B last rs W) : W.cell? ⟨B, 0, none⟩ = some (.pointer (some ⟨C, 0, none⟩)) := let ⟨_, _, h1, _⟩ := h; h1.cell
theorem regsOk_of_reg {last : Int} {ls ls' : List LReg} (hr : ls'.map LReg.reg = ls.map LReg.reg) (ok : RegsOk last ls) : RegsOk last ls' := by
  have hl : ls'.length = ls.length := by have := congrArg List.length hr; simpa using this
  have hb : ∀ i (h : i < ls.length), ls'[i].base = ls[i].base ∧ ls'[i].words = ls[i].words := fun i hi => by
    have := congrArg (fun l => l[i]?) hr
    simp only [List.getElem?_map, List.getElem?_eq_getElem (show i < ls'.length by omega), List.getElem?_eq_getElem hi, Option.map_some, Option.some.injEq, LReg.reg, Reg.mk.injEq] at this
    exact this
  refine ⟨?_, ?_, ok.last0, ok.last1, ?_⟩
  · intro r hr'
    obtain ⟨i, hi, rfl⟩ := List.getElem_of_mem hr'
    have := ok.lo _ (List.getElem_mem (show i < ls.length by omega))
    rw [(hb i (by omega)).1, (hb i (by omega)).2]
    exact this
  · refine List.pairwise_iff_getElem.2 (fun i j hi hj hij => ?_)
    rw [(hb i (by omega)).1, (hb i (by omega)).2, (hb j (by omega)).1]
    exact List.pairwise_iff_getElem.1 ok.sep i j (by omega) (by omega) hij
  · have e : ls'.map (fun r => r.words.length) = ls.map (fun r => r.words.length) := by
      have := congrArg (List.map (fun r : Reg => r.words.length)) hr
      simpa [LReg.reg, Function.comp_def] using this
    rw [show (ls'.map (·.words.length)) = _ from e]
    exact ok.live
theorem copyI_apart {w W : World} {p C Bx : Nat} {last : Int} {sl sl' : Value} {ls ls' : List LReg} (h : SpAt w p last sl ls) (hs : SpAt W C last sl' ls') (hft : ∀ b ∈ foot C sl' ls', w.heap.size ≤ b) (hnil : ls' = [] → sl' = .slice none 0 0)
    {x : LReg} (hx : x ∈ ls) (cX1 : W.cell? ⟨Bx, 1, none⟩ = some (.slice (some ⟨x.wb, 0, none⟩) x.words.length x.cap)) : sl'.ownBlock ≠ some Bx := by
  intro e
  rcases Nat.eq_zero_or_pos ls'.length with h0 | h0
  · rw [hnil (List.eq_nil_of_length_eq_zero h0)] at e
    simp [Value.ownBlock] at e
  · rcases hs.shape with ⟨_, q⟩ | ⟨B, cap, rfl, _⟩
    · subst q; simp at h0
    · simp only [Value.ownBlock, Option.some.injEq] at e
      subst e
      have := hs.wslice h0
      simp only [Nat.zero_mul, Nat.zero_add] at this
      rw [cX1] at this
      simp only [Option.some.injEq, Value.slice.injEq, Addr.mk.injEq, and_true] at this
      have h1 := hft ls'[0].wb (by simp only [foot, List.mem_cons, List.mem_append]; exact .inr (.inr (List.mem_map.2 ⟨_, List.getElem_mem h0, rfl⟩)))
      have h2 := h.lt x.wb (by simp only [foot, List.mem_cons, List.mem_append]; exact .inr (.inr (List.mem_map.2 ⟨_, hx, rfl⟩)))
      rw [this.1] at h2
      omega
theorem copy_step {w W w1 w2 : World} {C B : Nat} {last : Int} {sl' : Value} {ls' rs : List LReg} (hb : Boxed W B 52 (.pointer (some ⟨C, 0, none⟩))) (hs : SpAt W C last sl' ls') (hreg : ls'.map LReg.reg = rs.map LReg.reg) (hft : ∀ b ∈ foot C sl' ls', w.heap.size ≤ b ∧ b ≠ B)
    (hB1 : Below w.heap.size w W) {x : LReg} {g cap g2 cap2 : Nat} {ob : Obj} (hb1 : Below W.heap.size W w1) (hown1 : w1.ownsRow W.heap.size 29 2 (.slice (some ⟨g, 0, none⟩) x.words.length cap) x.words.length (wcells x.words))
    (hown2 : w2.ownsRow 0 100 2 (.slice (some ⟨g2, 0, none⟩) (ls'.length + 1) cap2) (ls'.length + 1) (rcells ls' ++ [.int .i64 x.base, .slice (some ⟨g, 0, none⟩) x.words.length cap]))
    (hg2 : (w1.alloc ob).grownBy w2 sl'.ownBlock) (hat : sl'.ownBlock = some g2 ∨ g2 = w1.heap.size + 1) :
    KeepsOthers W (w2.setCell ⟨C, 0, none⟩ (.slice (some ⟨g2, 0, none⟩) (ls'.length + 1) cap2)) ∧ Below w.heap.size W (w2.setCell ⟨C, 0, none⟩ (.slice (some ⟨g2, 0, none⟩) (ls'.length + 1) cap2)) ∧ CopyI w C B last (rs ++ [x]) (w2.setCell ⟨C, 0, none⟩ (.slice (some ⟨g2, 0, none⟩) (ls'.length + 1) cap2)) := by
  have hlt := hs.lt
  have hd0 := List.nodup_cons.1 hs.nodup
  have hd1 := List.nodup_append.1 hd0.2
  have s0 := hB1.size
  have s1 := hb1.size
  have s2 := hg2.size
  simp only [World.size_alloc] at s2
  have gl := hown1.lt g rfl
  have hCl := lt_of_heap hs.head
  have hCm : C ∈ foot C sl' ls' := by simp [foot]
  have hCt : sl'.ownBlock ≠ some C := fun e => hd0.1 (List.mem_append.2 (.inl (by simp [e])))
  have htl : ∀ b, sl'.ownBlock = some b → b ∈ foot C sl' ls' := fun b e => by simp [foot, e]
  have hwl : ∀ r ∈ ls', r.wb ∈ foot C sl' ls' := fun r hr => by simp only [foot, List.mem_cons, List.mem_append]; exact .inr (.inr (List.mem_map.2 ⟨r, hr, rfl⟩))
  have hwt : ∀ r ∈ ls', sl'.ownBlock ≠ some r.wb := fun r hr e => hd1.2.2 r.wb (by simp [e]) r.wb (List.mem_map.2 ⟨r, hr, rfl⟩) rfl
  have hwC : ∀ r ∈ ls', r.wb ≠ C := fun r hr e => hd0.1 (List.mem_append.2 (.inr (List.mem_map.2 ⟨r, hr, e⟩)))
  have hg2C : g2 ≠ C := by
    rcases hat with e | e
    · rintro rfl; exact hCt e
    · omega
  have hh2 : w2.heap[C]? = some (.cells #[sl', .int .i64 last] 27 (0, 0)) := (hg2.block C (by simp; omega) (fun e => hCt e.symm)).trans ((Below.heap_alloc _ _ _ (by omega)).trans ((hb1.block C hCl).trans hs.head))
  have keep : ∀ (T1 z base : Nat) (v : Value) (n : Nat) (xs : List Value), w1.ownsRow base T1 z v n xs → (∀ b, v.ownBlock = some b → sl'.ownBlock ≠ some b ∧ b ≠ C) →
      (w2.setCell ⟨C, 0, none⟩ (.slice (some ⟨g2, 0, none⟩) (ls'.length + 1) cap2)).ownsRow base T1 z v n xs := by
    intro T1 z base v n xs ho hx
    cases hv : v.ownBlock with
    | none => exact ownsRow_setCell_other ((ho.alloc ob).kept hg2 (.inl hv)) (by rw [hv]; simp) _
    | some b => exact ownsRow_setCell_other ((ho.alloc ob).kept hg2 (.inr (by rw [hv]; exact Ne.symm (hx b hv).1))) (by rw [hv]; simpa using (hx b hv).2) _
  refine ⟨?_, ?_, ?_⟩
  · refine (((⟨hb1.size, fun k o hk _ => (hb1.block k (lt_of_heap hk)).trans hk⟩ : KeepsOthers W w1).trans (KeepsOthers.alloc _ ob)).trans (KeepsOthers.of_grownBy hg2 fun j o ej hj => ?_)).trans (KeepsOthers.setCell _ _ _)
    have hjl := hlt j (htl j ej)
    rcases hs.row.2 with ⟨q, _⟩ | ⟨b, cap, cur, q, _, hgb, _⟩
    · rw [q] at ej; simp [Value.ownBlock] at ej
    · rw [q] at ej
      simp only [Value.ownBlock, Option.some.injEq] at ej
      subst ej
      rw [Below.heap_alloc _ _ _ (by omega), hb1.block b hjl, hgb] at hj
      cases hj; rfl
  · refine Below.setCell (p := ⟨C, 0, none⟩) (Below.grown ((hb1.mono s0).alloc (by omega) ob) hg2 (by simp; omega) (fun b e => (hft b (htl b e)).1)) (hft C hCm).1 _
  · refine ⟨.slice (some ⟨g2, 0, none⟩) (ls'.length + 1) cap2, ls' ++ [⟨x.base, g, cap, x.words⟩], ?_, ⟨?_, ?_, ?_, ?_⟩, ?_, ?_, by simp⟩
    · have hBl := hb.lt
      have hBC : B ≠ C := fun e => (hft C hCm).2 e.symm
      have h2 : w2.heap[B]? = some (.cells #[.pointer (some ⟨C, 0, none⟩)] 52 (0, 0)) := (hg2.block B (by simp; omega) (fun e => (hft B (htl B e.symm)).2 rfl)).trans ((Below.heap_alloc _ _ _ (by omega)).trans ((hb1.block B hBl).trans hb))
      exact (Below.heap_setCell _ _ _ _ hBC).trans h2
    · have := heap_setCell_same w2 C 0 _ _ (.slice (some ⟨g2, 0, none⟩) (ls'.length + 1) cap2) hh2
      simpa using this
    · rw [List.length_append, show rcells (ls' ++ [⟨x.base, g, cap, x.words⟩]) = rcells ls' ++ [.int .i64 x.base, .slice (some ⟨g, 0, none⟩) x.words.length cap] by simp [rcells, LReg.cells]]
      exact ownsRow_setCell_other hown2 (by simp [Value.ownBlock, hg2C]) _
    · intro r hr
      rcases List.mem_append.1 hr with hr | hr
      · refine keep _ _ _ _ _ _ (((hs.words r hr)).kept (row := none) ⟨hb1.os, hb1.tape, hb1.output, hb1.size, fun k hk _ => hb1.block k hk⟩ (.inr (by simp [Value.ownBlock]))) (fun b hx => ?_)
        simp only [Value.ownBlock, Option.some.injEq] at hx
        subst hx
        exact ⟨hwt r hr, hwC r hr⟩
      · obtain rfl : r = _ := by simpa using hr
        refine keep _ _ _ _ _ _ (hown1.mono (Nat.zero_le _)) (fun b hx => ?_)
        simp only [Value.ownBlock, Option.some.injEq] at hx
        subst hx
        exact ⟨fun e => by have := hlt _ (htl _ e); omega, by omega⟩
    · have hg2g : g2 ≠ g := by
        rcases hat with q | q
        · have := hlt _ (htl _ q); omega
        · omega
      have hg2w : ∀ r ∈ ls', g2 ≠ r.wb := fun r hr e => by
        rcases hat with q | q
        · exact hwt r hr (e ▸ q)
        · have := hlt _ (hwl r hr); omega
      simp only [foot, Value.ownBlock, Option.toList_some, List.map_append, List.map_cons, List.map_nil]
      refine List.nodup_cons.2 ⟨?_, List.nodup_append.2 ⟨by simp, List.nodup_append.2 ⟨hd1.2.1, by simp, ?_⟩, ?_⟩⟩
      · intro q
        simp only [List.mem_append, List.mem_singleton, List.mem_map] at q
        rcases q with q | ⟨r, hr, q⟩ | q
        · exact hg2C q.symm
        · exact hwC r hr q
        · omega
      · intro y hy z hz e
        simp only [List.mem_singleton] at hz
        obtain ⟨r, hr, rfl⟩ := List.mem_map.1 hy
        have := hlt _ (hwl r hr); omega
      · intro y hy z hz e
        simp only [List.mem_singleton] at hy
        subst hy
        rcases List.mem_append.1 hz with q | q
        · obtain ⟨r, hr, rfl⟩ := List.mem_map.1 q
          exact hg2w r hr e
        · simp only [List.mem_singleton] at q; subst q; exact hg2g e
    · simp only [List.map_append, hreg, List.map_cons, List.map_nil, LReg.reg]
    · have hBl := hb.lt
      intro b hb'
      simp only [foot, Value.ownBlock, Option.toList_some, List.map_append, List.map_cons, List.map_nil, List.mem_cons, List.mem_append, List.not_mem_nil, or_false] at hb'
      rcases hb' with rfl | rfl | q | rfl
      · exact hft _ hCm
      · rcases hat with q | q
        · exact hft _ (htl _ q)
        · exact ⟨by omega, by omega⟩
      · obtain ⟨r, hr, rfl⟩ := List.mem_map.1 q
        exact hft _ (hwl r hr)
      · exact ⟨by omega, by omega⟩
def CopyRes (w : World) (S : Sp) (e : Ending) (w' : World) : Prop := Below w.heap.size w w' ∧ ∃ q fs', e = .returned (.pointer (some ⟨q, 0, none⟩)) ∧ Spc w' q S fs' ∧ ∀ b ∈ fs', w.heap.size ≤ b
set_option maxRecDepth 100000 in
set_option maxHeartbeats 2000000 in
theorem copy_in {w : World} {p : Nat} {last : Int} {sl : Value} {ls : List LReg} (h : SpAt w p last sl ls) (ok : RegsOk last ls) (n : Nat) (hn : 5 ≤ n) :
    CallsIn Fence.wide n Try.prog 28 #[.pointer (some ⟨p, 0, none⟩)] w (CopyRes w ⟨ls.map LReg.reg, last⟩) := by
  have hfn : ∀ k, Fence.wide.fn k := fun _ => trivial
  have hn1 : 1 ≤ n := by omega
  obtain ⟨i0, hi, hz0, hz1, hz2⟩ := info_parts infoG
  have c1 := h.cell1
  refine callsIn_of_wp_marks Try.func28 rfl trivial ?_ rfl
  simp only [Try.ntmps28, List.size_toArray, List.length_cons, List.length_nil, Nat.reduceAdd, Nat.reduceSub, Array.replicate_succ, Array.replicate_zero, List.push_toArray, List.append_toArray, List.nil_append, List.cons_append]
  gi_wp2_with (gi_at_call 46; refine (each_in (n - 1) _ _).mono ?_; rintro e w' ⟨rfl, rfl⟩)
  have bC := ((heap_alloc_new w (.cells #[.slice none 0 0, .int .i64 last] 27)))
  have bN := (Boxed.new (w.alloc (.cells #[.slice none 0 0, .int .i64 last] 27)) 52 (.pointer (some ⟨w.heap.size, 0, none⟩))).alloc (.cells #[.pointer (some ⟨p, 0, none⟩)] 52)
  have bE := Boxed.new ((w.alloc (.cells #[.slice none 0 0, .int .i64 last] 27)).alloc (.cells #[.pointer (some ⟨w.heap.size, 0, none⟩)] 52)) 52 (.pointer (some ⟨p, 0, none⟩))
  have hB0 : Below w.heap.size w (((w.alloc (.cells #[.slice none 0 0, .int .i64 last] 27)).alloc (.cells #[.pointer (some ⟨w.heap.size, 0, none⟩)] 52)).alloc (.cells #[.pointer (some ⟨p, 0, none⟩)] 52)) := (((Below.refl _ w).alloc (Nat.le_refl _) _).alloc (by simp) _).alloc (by simp; omega) _
  have hsz : (((w.alloc (.cells #[.slice none 0 0, .int .i64 last] 27)).alloc (.cells #[.pointer (some ⟨w.heap.size, 0, none⟩)] 52)).alloc (.cells #[.pointer (some ⟨p, 0, none⟩)] 52)).heap.size = w.heap.size + 3 := by simp
  have bC2 : (((w.alloc (.cells #[.slice none 0 0, .int .i64 last] 27)).alloc (.cells #[.pointer (some ⟨w.heap.size, 0, none⟩)] 52)).alloc (.cells #[.pointer (some ⟨p, 0, none⟩)] 52)).heap[w.heap.size]? = some (.cells #[.slice none 0 0, .int .i64 last] 27 (0, 0)) := (Below.heap_alloc _ _ _ (by simp; omega)).trans ((Below.heap_alloc _ _ _ (by simp)).trans bC)
  simp only [World.size_alloc] at bE bN
  obtain ⟨W0, hW0⟩ : ∃ W0, ((w.alloc (.cells #[.slice none 0 0, .int .i64 last] 27)).alloc (.cells #[.pointer (some ⟨w.heap.size, 0, none⟩)] 52)).alloc (.cells #[.pointer (some ⟨p, 0, none⟩)] 52) = W0 := ⟨_, rfl⟩
  rw [hW0] at bN bE hB0 hsz bC2 ⊢
  clear hW0 bC
  have hcnt := ok.count
  have HI0 : CopyI w w.heap.size (w.heap.size + 1) last [] W0 := by
    refine ⟨_, [], bN, ⟨bC2, World.ownsRow_nil _ _ _ _, by simp, by simp [foot, Value.ownBlock]⟩, rfl, ?_, fun _ => rfl⟩
    intro b hb
    simp [foot, Value.ownBlock] at hb
    subst hb
    omega
  refine wpIn_rangeFunc_ownH (F := Fence.wide) rfl (by omega) (gf := 79) (lb := #[.pointer (some ⟨w.heap.size + 1 + 1, 0, none⟩)]) rfl trivial (enters_of Try.func79 (by kernel_rfl) rfl)
    (each_stops (n - 1) (by omega) (w.heap.size + 1 + 1) p w.heap.size last sl ls ok.count W0 (by omega) (by omega) bE.cell (h.below hB0) h.lt) belowK_t (belowK_b (by omega)) (Below.refl _ _) (fun _ => rfl)
    (fun pre W => CopyI w w.heap.size (w.heap.size + 1) last (vals pre) W ∧ Below w.heap.size w W)
    (fun c pre W => False)
    (OwnFrom.and (Own.from (copyI_own w _ _ last) _) (ownFrom_below (Nat.le_refl _) (by omega)))
    (fun _ _ _ _ _ hs _ _ => hs)
    ⟨HI0, hB0⟩
    (fun x a' W => ∃ Bx, w.heap.size + 1 < Bx ∧ W.heap[Bx]? = some (.cells #[.int .i64 x.1.base, .slice (some ⟨x.1.wb, 0, none⟩) x.1.words.length x.1.cap] 100 (0, 0)) ∧ a' = { tmps := #[.pointer (some ⟨p, 0, none⟩), undef, .pointer none, .pointer (some ⟨w.heap.size + 1, 0, none⟩), .pointer (some ⟨Bx, 0, none⟩), .pointer (some ⟨p, 0, none⟩), .bool false, .pointer (some ⟨p, 0, none⟩), .pointer (some ⟨p, 0, none⟩), .pointer (some ⟨p, 1, none⟩), .int .i64 last, .agg #[.slice none 0 0, .int .i64 last], .pointer (some ⟨w.heap.size, 0, none⟩), .pointer (some ⟨p, 0, none⟩), .func (.func 79) #[] #[.pointer (some ⟨w.heap.size + 1 + 1, 0, none⟩)], .agg #[.int .i64 x.1.base, .slice (some ⟨x.1.wb, 0, none⟩) x.1.words.length x.1.cap], undef, undef, undef, undef, undef, undef, undef, undef, undef, undef, undef, undef, undef, undef, undef, undef], defers := [] })
    (fun x a' _ X Y row hs hg hr => by obtain ⟨Bx, h1, h2, h3⟩ := hs; exact ⟨Bx, h1, (hg.block Bx (lt_of_heap h2) (fun e => by obtain ⟨_, o, ho, hc⟩ := hr Bx e.symm; rw [h2] at ho; cases ho; simp [Obj.isCells] at hc)).trans h2, h3⟩)
    ?assign ?body ?done ?stop
  case assign =>
    rintro l pre x W K ⟨hI, hB1⟩ hK
    unfold renc
    gi_wp2
    have hl : w.heap.size + 1 < W.heap.size := hI.lt
    exact hK _ _ ((KeepsOthers.alloc _ _).from _) ((Below.refl _ W).alloc hB1.size _) ⟨(copyI_own w _ _ last).alloc _ hI, hB1.alloc hB1.size _⟩ ⟨W.heap.size, hl, heap_alloc_new W _, rfl⟩
  case body =>
    have hn2 : 1 ≤ n - 1 - 1 := by omega
    rintro l pre x a' W hl ⟨r, hr⟩ ⟨hI, hB1⟩ ⟨Bx, hBx, bX, rfl⟩ hlt
    have cX0 : W.cell? ⟨Bx, 0, none⟩ = some (.int .i64 x.1.base) := by rw [cell_of_row W Bx 0 _ _ _ bX]; rfl
    have cX1 : W.cell? ⟨Bx, 1, none⟩ = some (.slice (some ⟨x.1.wb, 0, none⟩) x.1.words.length x.1.cap) := by rw [cell_of_row W Bx 1 _ _ _ bX]; rfl
    have cN := hI.box
    have hI0 := hI
    obtain ⟨sl', ls', hb, hs, hreg, hft, hnil⟩ := hI
    have cC := hs.cell0
    have hxw := (ok.lo x.1 x.2).2
    have hap := copyI_apart h hs (fun b hb => (hft b hb).1) hnil x.2 cX1
    have hwb : x.1.wb < w.heap.size := h.lt x.1.wb (by simp only [foot, List.mem_cons, List.mem_append]; exact .inr (.inr (List.mem_map.2 ⟨_, x.2, rfl⟩)))
    have HCells : Hid (∀ j u, (wcells x.1.words)[j]? = some u → W.drew.cell? ((⟨x.1.wb, 0, none⟩ : Addr).add j) = some u) := by
      intro j u hu
      have := (hB1.cell (p := ⟨x.1.wb, j, none⟩) hwb).trans (row_cell (h.words x.1 x.2) hu)
      cases j <;> simpa [Addr.add] using this
    have hls : ls'.length ≤ 4194304 := by
      have : ls'.length = (vals pre).length := by have := congrArg List.length hreg; simpa using this
      have : (vals pre).length < ls.length := by simpa [vals] using hlt
      omega
    have hCB : w.heap.size ≠ w.heap.size + 1 := by omega
    have hCt : sl'.ownBlock ≠ some w.heap.size := fun e => (List.nodup_cons.1 hs.nodup).1 (List.mem_append.2 (.inl (by simp [e])))
    have hBt : sl'.ownBlock ≠ some (w.heap.size + 1) := fun e => (hft _ (by simp [foot, e])).2 rfl
    gi_wp2
    refine region_round (S := fun W' => W'.cell? ⟨w.heap.size + 1, 0, none⟩ = some (.pointer (some ⟨w.heap.size, 0, none⟩)) ∧ W'.cell? ⟨Bx, 0, none⟩ = some (.int .i64 x.1.base) ∧ W'.cell? ⟨Bx, 1, none⟩ = some (.slice (some ⟨x.1.wb, 0, none⟩) x.1.words.length x.1.cap)) (by kernel_rfl) ?hL (no_defer (by kernel_rfl)) ?hS (fun hHeld => ?hH)
    case hL => rintro ⟨a, w, h⟩; exact h
    case hS => exact ⟨cN, cX0, cX1⟩
    refine wpAnyH_take (i := 0) (v := ?_) rfl (by kernel_rfl) (by kernel_rfl) (by kernel_rfl) (fun _ _ _ h => h) (Or.inl ⟨by rfl, ?_⟩) (by assumption) ?_
    rotate_left
    · (intro w hSw; (try dsimp only at hSw); go_simp <;> with_reducible rfl)
    refine wpAnyH_take (i := 1) (v := ?_) rfl (by kernel_rfl) (by kernel_rfl) (by kernel_rfl) (fun _ _ _ h => h) (Or.inl ⟨by rfl, ?_⟩) (by assumption) ?_
    rotate_left
    · (intro w hSw; (try dsimp only at hSw); go_simp <;> with_reducible rfl)
    refine wpAnyH_take (i := 2) (v := ?_) rfl (by kernel_rfl) (by kernel_rfl) (by kernel_rfl) (fun _ _ _ h => h) (Or.inl ⟨by rfl, ?_⟩) (by assumption) ?_
    rotate_left
    · (intro w hSw; (try dsimp only at hSw); go_simp <;> with_reducible rfl)
    refine wpAnyH_take (i := 3) (v := ?_) rfl (by kernel_rfl) (by kernel_rfl) (by kernel_rfl) (fun _ _ _ h => h) (Or.inl ⟨by rfl, ?_⟩) (by assumption) ?_
    rotate_left
    · (intro w hSw; (try dsimp only at hSw); go_simp <;> with_reducible rfl)
    refine wpAnyH_take (i := 5) (v := ?_) rfl (by kernel_rfl) (by kernel_rfl) (by kernel_rfl) (fun _ _ _ h => h) (Or.inl ⟨by rfl, ?_⟩) (by assumption) ?_
    rotate_left
    · (intro w hSw; (try dsimp only at hSw); go_simp <;> with_reducible rfl)
    refine wpAnyH_take (i := 6) (v := ?_) rfl (by kernel_rfl) (by kernel_rfl) (by kernel_rfl) (fun _ _ _ h => h) (Or.inl ⟨by rfl, ?_⟩) (by assumption) ?_
    rotate_left
    · (intro w hSw; (try dsimp only at hSw); go_simp <;> with_reducible rfl)
    refine wpAnyH_take (i := 7) (v := ?_) rfl (by kernel_rfl) (by kernel_rfl) (by kernel_rfl) (fun _ _ _ h => h) (Or.inl ⟨by rfl, ?_⟩) (by assumption) ?_
    rotate_left
    · (intro w hSw; (try dsimp only at hSw); go_simp <;> with_reducible rfl)
    refine wpAnyH_take (i := 8) (v := ?_) rfl (by kernel_rfl) (by kernel_rfl) (by kernel_rfl) (fun _ _ _ h => h) (Or.inl ⟨by rfl, ?_⟩) (by assumption) ?_
    rotate_left
    · (intro w hSw; (try dsimp only at hSw); go_simp <;> with_reducible rfl)
    refine wpAnyH_ready (rs := [4, 9]) (by kernel_rfl) (by simp) ?_
    refine AllReadyH.cons rfl (fun K hK => ?_) ?_
    · have dd := cC
      go_simp
      refine hK.out _ _ ⟨cN, cX0, cX1⟩ (fun hHeld => ?_)
      clear hK K dd
      refine wpAnyH_ready (rs := [9]) (by kernel_rfl) (by simp) ?_
      refine AllReadyH.cons rfl (fun K hK => ?_) ?_
      · go_simp
        refine (cloneV_any x.1.wb 0 x.1.words.length x.1.cap (wcells x.1.words) W.drew (Nat.lt_of_lt_of_le hwb hB1.size) (wcells_len _) hxw.1 (by omega) HCells.out wc_one).mono ?_
        rintro e w1 ⟨hb1, g, cap, hown1, rfl⟩
        have hb1' : Below W.heap.size W w1 := ⟨hb1.os, hb1.tape, hb1.output, hb1.size, hb1.block⟩
        have d1 : w1.cell? ⟨w.heap.size, 0, none⟩ = some sl' := (hb1'.cell (cell_lt cC)).trans cC
        have S1 : w1.cell? ⟨w.heap.size + 1, 0, none⟩ = some (.pointer (some ⟨w.heap.size, 0, none⟩)) ∧ w1.cell? ⟨Bx, 0, none⟩ = some (.int .i64 x.1.base) ∧ w1.cell? ⟨Bx, 1, none⟩ = some (.slice (some ⟨x.1.wb, 0, none⟩) x.1.words.length x.1.cap) := ⟨(hb1'.cell (cell_lt cN)).trans cN, (hb1'.cell (cell_lt cX0)).trans cX0, (hb1'.cell (cell_lt cX1)).trans cX1⟩
        refine hK.out _ _ S1 (fun hHeld => ?_)
        clear hK K
        refine wpAnyH_ready (rs := [10]) (by kernel_rfl) (by simp) ?_
        refine AllReadyH.cons rfl (fun K hK => ?_) ?_
        · go_simp
          refine hK.out _ _ S1 (fun hHeld => ?_)
          clear hK K
          refine wpAnyH_ready (rs := [11]) (by kernel_rfl) (by simp) ?_
          refine AllReadyH.cons rfl (fun K hK => ?_) ?_
          · go_simp
            have d2 := alloc_cell (o := .cells #[.int .i64 x.1.base, .slice (some ⟨g, 0, none⟩) x.1.words.length cap] 100) d1
            have S2 := And.intro (alloc_cell (o := .cells #[.int .i64 x.1.base, .slice (some ⟨g, 0, none⟩) x.1.words.length cap] 100) S1.1) (And.intro (alloc_cell (o := .cells #[.int .i64 x.1.base, .slice (some ⟨g, 0, none⟩) x.1.words.length cap] 100) S1.2.1) (alloc_cell (o := .cells #[.int .i64 x.1.base, .slice (some ⟨g, 0, none⟩) x.1.words.length cap] 100) S1.2.2))
            refine hK.out _ _ S2 (fun hHeld => ?_)
            clear hK K
            refine wpAnyH_ready (rs := [12]) (by kernel_rfl) (by simp) ?_
            refine AllReadyH.cons rfl (fun K hK => ?_) ?_
            · refine step_append_lies _ (by rfl) _ _ _ (by rfl) 0 100 i0 (.agg #[.int .i64 0, .slice none 0 0]) 2 32 Try.underlying25 hi hz0 hz1 hz2 rfl (by omega) sl' ls'.length (rcells ls') (by rfl) ((hs.row.kept (row := none) ⟨hb1'.os, hb1'.tape, hb1'.output, hb1'.size, fun k hk _ => hb1'.block k hk⟩ (by cases sl'.ownBlock <;> simp)).alloc _) ⟨w1.heap.size, 0, none⟩ 1 1 [.int .i64 x.1.base, .slice (some ⟨g, 0, none⟩) x.1.words.length cap] (by rfl) (by rfl) (two_new _ _ _ _) (by simp [Value.oneCell']) (by omega) (by unfold maxLen; omega) (by omega) (Nat.zero_le _) (w1.heap.size + 1) (by simp) ?_
              intro g2 cap2 w2 hown2 hg2 hat2 hlt2
              have hx2 : w2.heap[w.heap.size]? = some (.cells #[sl', .int .i64 last] 27 (0, 0)) := (hg2.block _ (by have := cell_lt d1; simp at this ⊢; omega) (fun e => hCt e.symm)).trans ((Below.heap_alloc _ _ _ (cell_lt d1)).trans ((hb1'.block _ (lt_of_heap hs.head)).trans hs.head))
              have d3 : w2.cell? ⟨w.heap.size, 0, none⟩ = some sl' := by rw [cell_of_row w2 w.heap.size 0 _ _ _ hx2]; rfl
              have f3 : w2.frozen? ⟨w.heap.size, 0, none⟩ = false := frozen_of_row w2 w.heap.size 0 _ _ hx2
              have S3 : w2.cell? ⟨w.heap.size + 1, 0, none⟩ = some (.pointer (some ⟨w.heap.size, 0, none⟩)) ∧ w2.cell? ⟨Bx, 0, none⟩ = some (.int .i64 x.1.base) ∧ w2.cell? ⟨Bx, 1, none⟩ = some (.slice (some ⟨x.1.wb, 0, none⟩) x.1.words.length x.1.cap) := ⟨grown_cell hg2 S2.1 (fun e => hBt e.symm), grown_cell hg2 S2.2.1 (fun e => hap e.symm), grown_cell hg2 S2.2.2 (fun e => hap e.symm)⟩
              refine hK.out _ _ S3 (fun hHeld => ?_)
              clear hK K
              refine wpAnyH_ready (rs := [13]) (by kernel_rfl) (by simp) ?_
              refine AllReadyH.cons rfl (fun K hK => ?_) ?_
              · go_simp
                refine hK.out _ _ S3 (fun hHeld => ?_)
                clear hK K
                refine wpAnyH_ready (rs := [14]) (by kernel_rfl) (by simp) ?_
                refine AllReadyH.cons rfl (fun K hK => ?_) ?_
                · go_simp
                  refine hK.out _ _ S3 (fun hHeld => ?_)
                  clear hK K
                  refine wpAnyH_ready (rs := [15]) (by kernel_rfl) (by simp) ?_
                  refine AllReadyH.cons rfl (fun K hK => ?_) ?_
                  · go_simp
                    refine hK.out _ _ ⟨(World.cell?_setCell_other _ _ _ _ (by intro e; injection e with e1; omega)).trans S3.1, (World.cell?_setCell_other _ _ _ _ (by intro e; injection e with e1; omega)).trans S3.2.1, (World.cell?_setCell_other _ _ _ _ (by intro e; injection e with e1; omega)).trans S3.2.2⟩ (fun hHeld => ?_)
                    clear hK K
                    refine wpAnyH_done (by kernel_rfl) ?_ _
                    obtain ⟨q1, q2, q3⟩ := copy_step hb hs hreg hft hB1 hb1' hown1 hown2 hg2 hat2
                    exact ⟨q1.from _, q2, by rw [vals_snoc]; exact q3, hB1.trans q2⟩
                  exact AllReadyH.nil
                exact AllReadyH.nil
              exact AllReadyH.nil
            exact AllReadyH.nil
          exact AllReadyH.nil
        exact AllReadyH.nil
      exact AllReadyH.nil
    refine AllReadyH.cons rfl (fun K hK => ?_) ?_
    · go_simp
      refine (cloneV_any x.1.wb 0 x.1.words.length x.1.cap (wcells x.1.words) W.drew (Nat.lt_of_lt_of_le hwb hB1.size) (wcells_len _) hxw.1 (by omega) HCells.out wc_one).mono ?_
      rintro e w1 ⟨hb1, g, cap, hown1, rfl⟩
      have hb1' : Below W.heap.size W w1 := ⟨hb1.os, hb1.tape, hb1.output, hb1.size, hb1.block⟩
      have d1 : w1.cell? ⟨w.heap.size, 0, none⟩ = some sl' := (hb1'.cell (cell_lt cC)).trans cC
      have S1 : w1.cell? ⟨w.heap.size + 1, 0, none⟩ = some (.pointer (some ⟨w.heap.size, 0, none⟩)) ∧ w1.cell? ⟨Bx, 0, none⟩ = some (.int .i64 x.1.base) ∧ w1.cell? ⟨Bx, 1, none⟩ = some (.slice (some ⟨x.1.wb, 0, none⟩) x.1.words.length x.1.cap) := ⟨(hb1'.cell (cell_lt cN)).trans cN, (hb1'.cell (cell_lt cX0)).trans cX0, (hb1'.cell (cell_lt cX1)).trans cX1⟩
      refine hK.out _ _ S1 (fun hHeld => ?_)
      clear hK K
      refine wpAnyH_ready (rs := [4, 10]) (by kernel_rfl) (by simp) ?_
      refine AllReadyH.cons rfl (fun K hK => ?_) ?_
      · have dd := d1
        go_simp
        refine hK.out _ _ S1 (fun hHeld => ?_)
        clear hK K dd
        refine wpAnyH_ready (rs := [10]) (by kernel_rfl) (by simp) ?_
        refine AllReadyH.cons rfl (fun K hK => ?_) ?_
        · go_simp
          refine hK.out _ _ S1 (fun hHeld => ?_)
          clear hK K
          refine wpAnyH_ready (rs := [11]) (by kernel_rfl) (by simp) ?_
          refine AllReadyH.cons rfl (fun K hK => ?_) ?_
          · go_simp
            have d2 := alloc_cell (o := .cells #[.int .i64 x.1.base, .slice (some ⟨g, 0, none⟩) x.1.words.length cap] 100) d1
            have S2 := And.intro (alloc_cell (o := .cells #[.int .i64 x.1.base, .slice (some ⟨g, 0, none⟩) x.1.words.length cap] 100) S1.1) (And.intro (alloc_cell (o := .cells #[.int .i64 x.1.base, .slice (some ⟨g, 0, none⟩) x.1.words.length cap] 100) S1.2.1) (alloc_cell (o := .cells #[.int .i64 x.1.base, .slice (some ⟨g, 0, none⟩) x.1.words.length cap] 100) S1.2.2))
            refine hK.out _ _ S2 (fun hHeld => ?_)
            clear hK K
            refine wpAnyH_ready (rs := [12]) (by kernel_rfl) (by simp) ?_
            refine AllReadyH.cons rfl (fun K hK => ?_) ?_
            · refine step_append_lies _ (by rfl) _ _ _ (by rfl) 0 100 i0 (.agg #[.int .i64 0, .slice none 0 0]) 2 32 Try.underlying25 hi hz0 hz1 hz2 rfl (by omega) sl' ls'.length (rcells ls') (by rfl) ((hs.row.kept (row := none) ⟨hb1'.os, hb1'.tape, hb1'.output, hb1'.size, fun k hk _ => hb1'.block k hk⟩ (by cases sl'.ownBlock <;> simp)).alloc _) ⟨w1.heap.size, 0, none⟩ 1 1 [.int .i64 x.1.base, .slice (some ⟨g, 0, none⟩) x.1.words.length cap] (by rfl) (by rfl) (two_new _ _ _ _) (by simp [Value.oneCell']) (by omega) (by unfold maxLen; omega) (by omega) (Nat.zero_le _) (w1.heap.size + 1) (by simp) ?_
              intro g2 cap2 w2 hown2 hg2 hat2 hlt2
              have hx2 : w2.heap[w.heap.size]? = some (.cells #[sl', .int .i64 last] 27 (0, 0)) := (hg2.block _ (by have := cell_lt d1; simp at this ⊢; omega) (fun e => hCt e.symm)).trans ((Below.heap_alloc _ _ _ (cell_lt d1)).trans ((hb1'.block _ (lt_of_heap hs.head)).trans hs.head))
              have d3 : w2.cell? ⟨w.heap.size, 0, none⟩ = some sl' := by rw [cell_of_row w2 w.heap.size 0 _ _ _ hx2]; rfl
              have f3 : w2.frozen? ⟨w.heap.size, 0, none⟩ = false := frozen_of_row w2 w.heap.size 0 _ _ hx2
              have S3 : w2.cell? ⟨w.heap.size + 1, 0, none⟩ = some (.pointer (some ⟨w.heap.size, 0, none⟩)) ∧ w2.cell? ⟨Bx, 0, none⟩ = some (.int .i64 x.1.base) ∧ w2.cell? ⟨Bx, 1, none⟩ = some (.slice (some ⟨x.1.wb, 0, none⟩) x.1.words.length x.1.cap) := ⟨grown_cell hg2 S2.1 (fun e => hBt e.symm), grown_cell hg2 S2.2.1 (fun e => hap e.symm), grown_cell hg2 S2.2.2 (fun e => hap e.symm)⟩
              refine hK.out _ _ S3 (fun hHeld => ?_)
              clear hK K
              refine wpAnyH_ready (rs := [13]) (by kernel_rfl) (by simp) ?_
              refine AllReadyH.cons rfl (fun K hK => ?_) ?_
              · go_simp
                refine hK.out _ _ S3 (fun hHeld => ?_)
                clear hK K
                refine wpAnyH_ready (rs := [14]) (by kernel_rfl) (by simp) ?_
                refine AllReadyH.cons rfl (fun K hK => ?_) ?_
                · go_simp
                  refine hK.out _ _ S3 (fun hHeld => ?_)
                  clear hK K
                  refine wpAnyH_ready (rs := [15]) (by kernel_rfl) (by simp) ?_
                  refine AllReadyH.cons rfl (fun K hK => ?_) ?_
                  · go_simp
                    refine hK.out _ _ ⟨(World.cell?_setCell_other _ _ _ _ (by intro e; injection e with e1; omega)).trans S3.1, (World.cell?_setCell_other _ _ _ _ (by intro e; injection e with e1; omega)).trans S3.2.1, (World.cell?_setCell_other _ _ _ _ (by intro e; injection e with e1; omega)).trans S3.2.2⟩ (fun hHeld => ?_)
                    clear hK K
                    refine wpAnyH_done (by kernel_rfl) ?_ _
                    obtain ⟨q1, q2, q3⟩ := copy_step hb hs hreg hft hB1 hb1' hown1 hown2 hg2 hat2
                    exact ⟨q1.from _, q2, by rw [vals_snoc]; exact q3, hB1.trans q2⟩
                  exact AllReadyH.nil
                exact AllReadyH.nil
              exact AllReadyH.nil
            exact AllReadyH.nil
          exact AllReadyH.nil
        exact AllReadyH.nil
      refine AllReadyH.cons rfl (fun K hK => ?_) ?_
      · go_simp
        refine hK.out _ _ S1 (fun hHeld => ?_)
        clear hK K
        refine wpAnyH_ready (rs := [4, 11]) (by kernel_rfl) (by simp) ?_
        refine AllReadyH.cons rfl (fun K hK => ?_) ?_
        · have dd := d1
          go_simp
          refine hK.out _ _ S1 (fun hHeld => ?_)
          clear hK K dd
          refine wpAnyH_ready (rs := [11]) (by kernel_rfl) (by simp) ?_
          refine AllReadyH.cons rfl (fun K hK => ?_) ?_
          · go_simp
            have d2 := alloc_cell (o := .cells #[.int .i64 x.1.base, .slice (some ⟨g, 0, none⟩) x.1.words.length cap] 100) d1
            have S2 := And.intro (alloc_cell (o := .cells #[.int .i64 x.1.base, .slice (some ⟨g, 0, none⟩) x.1.words.length cap] 100) S1.1) (And.intro (alloc_cell (o := .cells #[.int .i64 x.1.base, .slice (some ⟨g, 0, none⟩) x.1.words.length cap] 100) S1.2.1) (alloc_cell (o := .cells #[.int .i64 x.1.base, .slice (some ⟨g, 0, none⟩) x.1.words.length cap] 100) S1.2.2))
            refine hK.out _ _ S2 (fun hHeld => ?_)
            clear hK K
            refine wpAnyH_ready (rs := [12]) (by kernel_rfl) (by simp) ?_
            refine AllReadyH.cons rfl (fun K hK => ?_) ?_
            · refine step_append_lies _ (by rfl) _ _ _ (by rfl) 0 100 i0 (.agg #[.int .i64 0, .slice none 0 0]) 2 32 Try.underlying25 hi hz0 hz1 hz2 rfl (by omega) sl' ls'.length (rcells ls') (by rfl) ((hs.row.kept (row := none) ⟨hb1'.os, hb1'.tape, hb1'.output, hb1'.size, fun k hk _ => hb1'.block k hk⟩ (by cases sl'.ownBlock <;> simp)).alloc _) ⟨w1.heap.size, 0, none⟩ 1 1 [.int .i64 x.1.base, .slice (some ⟨g, 0, none⟩) x.1.words.length cap] (by rfl) (by rfl) (two_new _ _ _ _) (by simp [Value.oneCell']) (by omega) (by unfold maxLen; omega) (by omega) (Nat.zero_le _) (w1.heap.size + 1) (by simp) ?_
              intro g2 cap2 w2 hown2 hg2 hat2 hlt2
              have hx2 : w2.heap[w.heap.size]? = some (.cells #[sl', .int .i64 last] 27 (0, 0)) := (hg2.block _ (by have := cell_lt d1; simp at this ⊢; omega) (fun e => hCt e.symm)).trans ((Below.heap_alloc _ _ _ (cell_lt d1)).trans ((hb1'.block _ (lt_of_heap hs.head)).trans hs.head))
              have d3 : w2.cell? ⟨w.heap.size, 0, none⟩ = some sl' := by rw [cell_of_row w2 w.heap.size 0 _ _ _ hx2]; rfl
              have f3 : w2.frozen? ⟨w.heap.size, 0, none⟩ = false := frozen_of_row w2 w.heap.size 0 _ _ hx2
              have S3 : w2.cell? ⟨w.heap.size + 1, 0, none⟩ = some (.pointer (some ⟨w.heap.size, 0, none⟩)) ∧ w2.cell? ⟨Bx, 0, none⟩ = some (.int .i64 x.1.base) ∧ w2.cell? ⟨Bx, 1, none⟩ = some (.slice (some ⟨x.1.wb, 0, none⟩) x.1.words.length x.1.cap) := ⟨grown_cell hg2 S2.1 (fun e => hBt e.symm), grown_cell hg2 S2.2.1 (fun e => hap e.symm), grown_cell hg2 S2.2.2 (fun e => hap e.symm)⟩
              refine hK.out _ _ S3 (fun hHeld => ?_)
              clear hK K
              refine wpAnyH_ready (rs := [13]) (by kernel_rfl) (by simp) ?_
              refine AllReadyH.cons rfl (fun K hK => ?_) ?_
              · go_simp
                refine hK.out _ _ S3 (fun hHeld => ?_)
                clear hK K
                refine wpAnyH_ready (rs := [14]) (by kernel_rfl) (by simp) ?_
                refine AllReadyH.cons rfl (fun K hK => ?_) ?_
                · go_simp
                  refine hK.out _ _ S3 (fun hHeld => ?_)
                  clear hK K
                  refine wpAnyH_ready (rs := [15]) (by kernel_rfl) (by simp) ?_
                  refine AllReadyH.cons rfl (fun K hK => ?_) ?_
                  · go_simp
                    refine hK.out _ _ ⟨(World.cell?_setCell_other _ _ _ _ (by intro e; injection e with e1; omega)).trans S3.1, (World.cell?_setCell_other _ _ _ _ (by intro e; injection e with e1; omega)).trans S3.2.1, (World.cell?_setCell_other _ _ _ _ (by intro e; injection e with e1; omega)).trans S3.2.2⟩ (fun hHeld => ?_)
                    clear hK K
                    refine wpAnyH_done (by kernel_rfl) ?_ _
                    obtain ⟨q1, q2, q3⟩ := copy_step hb hs hreg hft hB1 hb1' hown1 hown2 hg2 hat2
                    exact ⟨q1.from _, q2, by rw [vals_snoc]; exact q3, hB1.trans q2⟩
                  exact AllReadyH.nil
                exact AllReadyH.nil
              exact AllReadyH.nil
            exact AllReadyH.nil
          exact AllReadyH.nil
        refine AllReadyH.cons rfl (fun K hK => ?_) ?_
        · go_simp
          have d2 := alloc_cell (o := .cells #[.int .i64 x.1.base, .slice (some ⟨g, 0, none⟩) x.1.words.length cap] 100) d1
          have S2 := And.intro (alloc_cell (o := .cells #[.int .i64 x.1.base, .slice (some ⟨g, 0, none⟩) x.1.words.length cap] 100) S1.1) (And.intro (alloc_cell (o := .cells #[.int .i64 x.1.base, .slice (some ⟨g, 0, none⟩) x.1.words.length cap] 100) S1.2.1) (alloc_cell (o := .cells #[.int .i64 x.1.base, .slice (some ⟨g, 0, none⟩) x.1.words.length cap] 100) S1.2.2))
          refine hK.out _ _ S2 (fun hHeld => ?_)
          clear hK K
          refine wpAnyH_ready (rs := [4]) (by kernel_rfl) (by simp) ?_
          refine AllReadyH.cons rfl (fun K hK => ?_) ?_
          · have dd := d2
            go_simp
            refine hK.out _ _ S2 (fun hHeld => ?_)
            clear hK K dd
            refine wpAnyH_ready (rs := [12]) (by kernel_rfl) (by simp) ?_
            refine AllReadyH.cons rfl (fun K hK => ?_) ?_
            · refine step_append_lies _ (by rfl) _ _ _ (by rfl) 0 100 i0 (.agg #[.int .i64 0, .slice none 0 0]) 2 32 Try.underlying25 hi hz0 hz1 hz2 rfl (by omega) sl' ls'.length (rcells ls') (by rfl) ((hs.row.kept (row := none) ⟨hb1'.os, hb1'.tape, hb1'.output, hb1'.size, fun k hk _ => hb1'.block k hk⟩ (by cases sl'.ownBlock <;> simp)).alloc _) ⟨w1.heap.size, 0, none⟩ 1 1 [.int .i64 x.1.base, .slice (some ⟨g, 0, none⟩) x.1.words.length cap] (by rfl) (by rfl) (two_new _ _ _ _) (by simp [Value.oneCell']) (by omega) (by unfold maxLen; omega) (by omega) (Nat.zero_le _) (w1.heap.size + 1) (by simp) ?_
              intro g2 cap2 w2 hown2 hg2 hat2 hlt2
              have hx2 : w2.heap[w.heap.size]? = some (.cells #[sl', .int .i64 last] 27 (0, 0)) := (hg2.block _ (by have := cell_lt d1; simp at this ⊢; omega) (fun e => hCt e.symm)).trans ((Below.heap_alloc _ _ _ (cell_lt d1)).trans ((hb1'.block _ (lt_of_heap hs.head)).trans hs.head))
              have d3 : w2.cell? ⟨w.heap.size, 0, none⟩ = some sl' := by rw [cell_of_row w2 w.heap.size 0 _ _ _ hx2]; rfl
              have f3 : w2.frozen? ⟨w.heap.size, 0, none⟩ = false := frozen_of_row w2 w.heap.size 0 _ _ hx2
              have S3 : w2.cell? ⟨w.heap.size + 1, 0, none⟩ = some (.pointer (some ⟨w.heap.size, 0, none⟩)) ∧ w2.cell? ⟨Bx, 0, none⟩ = some (.int .i64 x.1.base) ∧ w2.cell? ⟨Bx, 1, none⟩ = some (.slice (some ⟨x.1.wb, 0, none⟩) x.1.words.length x.1.cap) := ⟨grown_cell hg2 S2.1 (fun e => hBt e.symm), grown_cell hg2 S2.2.1 (fun e => hap e.symm), grown_cell hg2 S2.2.2 (fun e => hap e.symm)⟩
              refine hK.out _ _ S3 (fun hHeld => ?_)
              clear hK K
              refine wpAnyH_ready (rs := [13]) (by kernel_rfl) (by simp) ?_
              refine AllReadyH.cons rfl (fun K hK => ?_) ?_
              · go_simp
                refine hK.out _ _ S3 (fun hHeld => ?_)
                clear hK K
                refine wpAnyH_ready (rs := [14]) (by kernel_rfl) (by simp) ?_
                refine AllReadyH.cons rfl (fun K hK => ?_) ?_
                · go_simp
                  refine hK.out _ _ S3 (fun hHeld => ?_)
                  clear hK K
                  refine wpAnyH_ready (rs := [15]) (by kernel_rfl) (by simp) ?_
                  refine AllReadyH.cons rfl (fun K hK => ?_) ?_
                  · go_simp
                    refine hK.out _ _ ⟨(World.cell?_setCell_other _ _ _ _ (by intro e; injection e with e1; omega)).trans S3.1, (World.cell?_setCell_other _ _ _ _ (by intro e; injection e with e1; omega)).trans S3.2.1, (World.cell?_setCell_other _ _ _ _ (by intro e; injection e with e1; omega)).trans S3.2.2⟩ (fun hHeld => ?_)
                    clear hK K
                    refine wpAnyH_done (by kernel_rfl) ?_ _
                    obtain ⟨q1, q2, q3⟩ := copy_step hb hs hreg hft hB1 hb1' hown1 hown2 hg2 hat2
                    exact ⟨q1.from _, q2, by rw [vals_snoc]; exact q3, hB1.trans q2⟩
                  exact AllReadyH.nil
                exact AllReadyH.nil
              exact AllReadyH.nil
            exact AllReadyH.nil
          exact AllReadyH.nil
        exact AllReadyH.nil
      exact AllReadyH.nil
    exact AllReadyH.nil
  case done =>
    rintro D zs W hD rfl ⟨hI, hB1⟩ hK
    rw [vals_all] at hI
    have cN := hI.box
    have HI := Hid.mk hI
    clear hI
    gi_wp2
    refine ⟨by simp, .inl ⟨_, _, rfl, run_takeDeferred hK, ?_⟩⟩
    have hbF := hB1.trans (belowK_b (w := w) (Nat.le_refl _) W D _ (.deferred none) (by omega) hK rfl rfl)
    have hIF := (copyI_own (ls := ls) w w.heap.size (w.heap.size + 1) last).putObj (s := ls.attach) (.deferred none) (by rw [vals_all]; exact HI.out) hK rfl
    rw [vals_all] at hIF
    obtain ⟨slF, lsF, -, hsF, hregF, hftF, -⟩ := hIF
    exact ⟨_, results_tmp rfl _ _ _, hbF, w.heap.size, foot w.heap.size slF lsF, rfl, ⟨slF, lsF, hsF, regsOk_of_reg hregF ok, hregF.symm, rfl⟩, fun b hb => (hftF b hb).1⟩
  case stop =>
    rintro D c pre W _ _ h _
    exact h.elim
theorem copy_spc {w : World} {p : Nat} {S : Sp} {fs : List Nat} (h : Spc w p S fs) : Calls Try.prog 28 #[.pointer (some ⟨p, 0, none⟩)] w (CopyRes w S) := by
  obtain ⟨sl, ls, h1, ok, hr, rfl⟩ := h
  have e : (⟨ls.map LReg.reg, S.last⟩ : Sp) = S := by rw [← hr]
  have := callsIn_wide.1 (copy_in h1 ok 10 (by decide))
  rw [e] at this
  exact this
end Go.Proofs.Ytkooogllajmkeaa
