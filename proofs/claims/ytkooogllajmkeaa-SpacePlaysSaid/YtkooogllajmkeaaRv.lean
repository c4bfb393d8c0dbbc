/- The document's Let. -/
import Derived.Test.YtkooogllajmkeaaRu
import Derived.Deep.Onto
namespace Go.Proofs.Ytkooogllajmkeaa
open Go.RowKit
set_option pp.deepTerms true
section
variable {w : World} {p : Nat} {last : Int} {rv wv : Value} {ls : List LReg}
theorem own_shape {w : World} {base e size n : Nat} {v : Value} {xs : List Value} (h : w.ownsRow base e size v n xs) : ∃ ao c, v = .slice ao n c := by
  rcases h.2 with ⟨rfl, rfl⟩ | ⟨g, cap, cur, rfl, _⟩
  · exact ⟨_, _, rfl⟩
  · exact ⟨_, _, rfl⟩
theorem rlet_mk {S : Sp} {gs : List Nat} (h : RAt w p S.last rv wv ls) (ok : RegsOk S.last ls) (hwd : Words ls) (hr : S.regs = ls.map LReg.reg) (hgs : gs = rfoot p rv wv ls) {k : Nat} (hk : k < ls.length) {a : Int} (ha : ls[k].base = a) (hno : ∀ j (hj : j < ls.length), j < k → ls[j].base ≠ a)
    {W : World} {v3 v4 : Value} {b3 b4 m3 m4 : Nat} (hK : Kp [p] w W) (hh : W.heap[p]? = some (.cells #[v3, v4, .int .i64 S.last] 56 (0, 0)))
    (h3 : W.ownsRow b3 39 2 v3 m3 (gcells (ls.take k) ++ gcells (ls.drop (k + 1)))) (h4 : W.ownsRow b4 62 1 v4 m4 ((ls.take k).map LReg.sl ++ (ls.drop (k + 1)).map LReg.sl))
    (e3 : m3 = ls.length - 1) (e4 : m4 = ls.length - 1) (hb3 : w.heap.size ≤ b3) (hb4 : w.heap.size ≤ b4) (hne : ∀ x, v3.ownBlock = some x → v4.ownBlock ≠ some x) : RStp w p gs (S.let_ a).2 W := by
  rw [let_at hr hk ha hno]
  subst e3 e4
  have hlen : (ls.eraseIdx k).length = ls.length - 1 := by rw [List.length_eraseIdx, if_pos hk]
  have hpl := lt_of_heap h.head
  have hd0 := List.nodup_cons.1 h.nodup
  have hd1 := List.nodup_append.1 hd0.2
  have hd2 := List.nodup_append.1 hd1.2.1
  have hwbl : ∀ x ∈ (ls.eraseIdx k).map (·.wb), x < w.heap.size ∧ x ≠ p := fun x hx => by
    obtain ⟨r, hr, rfl⟩ := List.mem_map.1 hx
    have hr' := List.mem_of_mem_eraseIdx hr
    have hin : r.wb ∈ ls.map (·.wb) := List.mem_map.2 ⟨r, hr', rfl⟩
    exact ⟨((h.words r hr').lt r.wb rfl).2, fun e => hd0.1 (List.mem_append.2 (.inr (List.mem_append.2 (.inr (e ▸ hin)))))⟩
  have q3 : ∀ x, v3.ownBlock = some x → w.heap.size ≤ x := fun x hx => Nat.le_trans hb3 (h3.lt x hx).1
  have q4 : ∀ x, v4.ownBlock = some x → w.heap.size ≤ x := fun x hx => Nat.le_trans hb4 (h4.lt x hx).1
  refine ⟨_, ⟨v3, v4, ls.eraseIdx k, ⟨hh, ?_, ?_, ?_, ?_⟩, ok.erase k, words_erase hwd k, rfl, rfl⟩, ?_, ?_⟩
  · rw [hlen, gcells_erase]; exact h3.mono (Nat.zero_le _)
  · rw [hlen, sl_erase]; exact h4.mono (Nat.zero_le _)
  · intro r hr'
    refine hK.row (h.words r (List.mem_of_mem_eraseIdx hr')) (fun g hg => ?_)
    simp [Value.ownBlock, LReg.sl] at hg
    subst hg
    simpa using (hwbl r.wb (List.mem_map.2 ⟨r, hr', rfl⟩)).2
  · unfold rfoot
    refine List.nodup_cons.2 ⟨?_, List.nodup_append.2 ⟨?_, List.nodup_append.2 ⟨?_, ?_, ?_⟩, ?_⟩⟩
    · intro q
      simp only [List.mem_append, Option.mem_toList] at q
      rcases q with q | q | q
      · have := q3 p q; omega
      · have := q4 p q; omega
      · exact (hwbl p q).2 rfl
    · cases v3.ownBlock <;> simp
    · cases v4.ownBlock <;> simp
    · exact hd2.2.1.sublist ((List.eraseIdx_sublist _ _).map _)
    · intro x hx y hy e
      subst e
      simp only [Option.mem_toList] at hx
      have := q4 x hx; have := (hwbl x hy).1; omega
    · intro x hx y hy e
      subst e
      simp only [Option.mem_toList, List.mem_append] at hx hy
      rcases hy with hy | hy
      · exact hne x hx hy
      · have := q3 x hx; have := (hwbl x hy).1; omega
  · rw [hgs]; exact hK.mono (by simp [rfoot])
  · intro b hb
    rw [hgs]
    simp only [rfoot, List.mem_cons, List.mem_append, Option.mem_toList] at hb ⊢
    rcases hb with q | q | q | q
    · exact .inl (.inl q)
    · exact .inr (q3 b q)
    · exact .inr (q4 b q)
    · obtain ⟨r, hr, rfl⟩ := List.mem_map.1 q
      exact .inl (.inr (.inr (.inr (List.mem_map.2 ⟨r, List.mem_of_mem_eraseIdx hr, rfl⟩))))
set_option maxRecDepth 100000 in
set_option maxHeartbeats 2000000 in
theorem rlet_spc {S : Sp} {gs : List Nat} (h : RSpc w p S gs) (a : Int) : Calls Try.prog 50 #[.pointer (some ⟨p, 0, none⟩), .int .i64 a] w fun e w' =>
    RStp w p gs (S.let_ a).2 w' ∧ e = .returned (.int .i64 (S.let_ a).1) := by
  have hS := h
  obtain ⟨rv, wv, ls, h, ok, hwd, hr, hgs⟩ := h
  have hcn := ok.count
  have HH := Hid.mk hS
  have H := Hid.mk h
  have HR := Hid.mk hr
  obtain ⟨ao, c, hrv, hc⟩ := h.shape
  have hcell := h.cell0
  have hpl : p < w.heap.size := lt_of_heap h.head
  obtain ⟨n, hn⟩ : ∃ n, ls.length = n := ⟨_, rfl⟩
  have HC := Hid.mk hc
  have HNL := Hid.mk hn
  rw [hn] at hrv hcn
  rw [hrv] at hcell
  have HRV := Hid.mk hrv
  clear hc hn hrv h hr hS
  go_enter Try.func50, Try.ntmps50
  go_wp2
  go_loopw [5] (fun x wr => ∃ k : Nat, x = .int .i64 k ∧ k ≤ n ∧ Hid (∀ j (hj : j < ls.length), j < k → ls[j].base ≠ a) ∧ Below w.heap.size w wr) (fun x _ => n - (intOf x).toNat)
  case atStart => exact ⟨0, rfl, by omega, fun _ _ q => absurd q (by omega), Below.refl _ _⟩
  case round =>
    obtain ⟨k, rfl, hk, HB, hbw⟩ := hrel
    have c0 := (hbw.cell (p := ⟨p, 0, none⟩) hpl).trans hcell
    by_cases hlt : k < n
    · have h1 : k < ls.length := by rw [HNL.out]; exact hlt
      obtain ⟨B, rfl, hB, b0, -⟩ := HC.out k h1
      have d0 := (hbw.cell (p := ⟨B, k * 2, none⟩) hB).trans b0
      clear b0
      by_cases hq : ls[k].base = a
      · rw [hq] at d0
        have HQ := Hid.mk hq
        clear hq d0 c0
        have hR := H.out.below hbw
        obtain ⟨B1, c1, e1, hc1, hB1, hx1⟩ := hR.rrow (by omega)
        rw [HRV.out] at e1
        simp only [Value.slice.injEq, Option.some.injEq, Addr.mk.injEq, and_true] at e1
        obtain ⟨rfl, en, rfl⟩ := e1
        obtain ⟨B', c', ew, hc', hB', hx'⟩ := hR.trow (by omega)
        rw [HNL.out] at ew hc1 hc'
        have c0 := hR.cell0
        have cw := hR.cell1
        rw [HRV.out] at c0
        rw [ew] at cw
        have d0 : wr.cell? ⟨B, k * 2, none⟩ = some (.int .i64 a) := by rw [hx1 _ _ (gcells_fst h1), HQ.out]
        have hkc : k ≤ c := by omega
        have HX := Hid.mk hx1
        have HX' := Hid.mk hx'
        have HBw := Hid.mk HB
        clear hx1 hx' hR
        obtain ⟨i0, hi0, hz0, hz1, hz2⟩ := info_parts infoR
        obtain ⟨i1, hj0, hy0, hy1, hy2⟩ := info_parts infoS
        have z1 : (a == a) = true := by simp
        go_wp2_with (at_builtin; refine wpList_append_own_at _ rfl _ _ 36 rfl wr.heap.size 39 i0 (.agg #[.int .i64 0, .int .i64 0]) 2 16 Try.underlying36 hi0 hz0 hz1 hz2 rfl (by decide) _ 0 [] rfl (World.ownsRow_nil _ _ _ _) ⟨B, 0, none⟩ k _ (gcells (ls.take k)) rfl ?l1 ?n1 ?o1 ?m1 ?b1 (Nat.le_refl _) ?_)
        case l1 => rw [gcells_len, List.length_take, Nat.min_eq_left (by omega)]
        case n1 => intro j u hu; have := HX.out j u (gcells_take_at hu); cases j <;> simpa [Addr.add] using this
        case o1 => exact gcells_one
        case m1 => unfold maxLen; omega
        case b1 => omega
        intro v1 wA hown1 hgrow1 hnn1 hat1
        have hbA : Below w.heap.size w wA := hbw.grown hgrow1 hbw.size (by intro k hk; simp [Value.ownBlock] at hk)
        have hRA := H.out.below hbA
        obtain ⟨B2, c2, ew2, hc2, hB2, hx2⟩ := hRA.trow (by have := HNL.out; omega)
        rw [HNL.out] at ew2
        obtain ⟨rfl, rfl⟩ : B' = B2 ∧ c' = c2 := by rw [ew] at ew2; simpa using ew2
        clear ew2 hc2 c0 cw d0
        have cw := hRA.cell1
        rw [ew] at cw
        have HX2 := Hid.mk hx2
        clear hx2 HX'
        go_wp2_with (at_builtin; refine wpList_append_own_at _ rfl _ _ 54 rfl wA.heap.size 62 i1 (.slice none 0 0) 1 24 Try.underlying54 hj0 hy0 hy1 hy2 rfl (by decide) _ 0 [] rfl (World.ownsRow_nil _ _ _ _) ⟨B', 0, none⟩ k _ ((ls.take k).map LReg.sl) rfl ?l2 ?n2 ?o2 ?m2 ?b2 (Nat.le_refl _) ?_)
        case l2 => simp; omega
        case n2 =>
          intro j u hu
          have hu' : (ls.map LReg.sl)[j]? = some u := by
            rw [← List.take_append_drop k ls, List.map_append, List.getElem?_append_left (List.getElem?_eq_some_iff.1 hu).1]; exact hu
          have := HX2.out j u hu'
          cases j <;> simpa [Addr.add] using this
        case o2 => exact sl_one
        case m2 => unfold maxLen; omega
        case b2 => omega
        intro v2 wB hown2 hgrow2 hnn2 hat2
        have hbB : Below w.heap.size w wB := hbA.grown hgrow2 hbA.size (by intro k hk; simp [Value.ownBlock] at hk)
        have hRB := H.out.below hbB
        have hown1B := hown1.kept hgrow2 (by cases h : v1.ownBlock <;> simp [Value.ownBlock])
        obtain ⟨B3, c3, e3, hc3, hB3, hx3⟩ := hRB.rrow (by have := HNL.out; omega)
        rw [HRV.out, HNL.out] at e3
        obtain ⟨rfl, rfl⟩ : B = B3 ∧ c = c3 := by simpa using e3
        have c0 := hRB.cell0
        rw [HRV.out] at c0
        have HX3 := Hid.mk hx3
        clear hx3 HX HX2 e3 hc3 cw
        have hsA := hbA.size
        have hsB := hbB.size
        have hwk : IntKind.i64.wrap ((k : Int) + 1) = k + 1 := by rw [IntKind.wrap_i64]; omega
        have hkn1 : k + 1 ≤ n := by omega
        obtain ⟨ad, had, hadn⟩ : ∃ ad, (if c = k + 1 then some (⟨B, 0, none⟩ : Addr) else some ⟨B, (k + 1) * 2, none⟩) = some ad ∧ ∀ j u, (gcells (ls.drop (k + 1)))[j]? = some u → wB.cell? (ad.add j) = some u := by
          by_cases hck : c = k + 1
          · refine ⟨⟨B, 0, none⟩, if_pos hck, fun j u hu => ?_⟩
            have hd : ls.drop (k + 1) = [] := List.drop_eq_nil_of_le (by have := HNL.out; omega)
            rw [hd] at hu
            simp [gcells] at hu
          · refine ⟨⟨B, (k + 1) * 2, none⟩, if_neg hck, fun j u hu => ?_⟩
            have := HX3.out _ u (gcells_drop_at (by have := HNL.out; omega) hu)
            cases j <;> simpa [Addr.add] using this
        go_wp2_with (at_builtin; refine wpList_append_own_at _ rfl _ _ 36 rfl wr.heap.size 39 i0 (.agg #[.int .i64 0, .int .i64 0]) 2 16 Try.underlying36 hi0 hz0 hz1 hz2 rfl (by decide) _ _ _ rfl hown1B ad _ _ (gcells (ls.drop (k + 1))) rfl ?l3 ?n3 ?o3 ?m3 ?b3 (Nat.le_trans hgrow1.size hgrow2.size) ?_)
        case l3 => rw [gcells_len, List.length_drop]
        case n3 => exact hadn
        case o3 => exact gcells_one
        case m3 => unfold maxLen; have := HNL.out; omega
        case b3 => have := HNL.out; omega
        intro v3 wC hown3 hgrow3 hnn3 hat3
        have hpr : p < wr.heap.size := Nat.lt_of_lt_of_le hpl hbw.size
        have hpB : p < wB.heap.size := Nat.lt_of_lt_of_le hpl hbB.size
        have hv1p : v1.ownBlock ≠ some p := fun e => by have := (hown1.lt p e).1; omega
        have hheadC : wC.heap[p]? = some (.cells #[rv, wv, .int .i64 S.last] 56 (0, 0)) := (hgrow3.block p hpB (fun e => hv1p e.symm)).trans hRB.head
        rw [HRV.out, ew] at hheadC
        have x0 : wC.cell? ⟨p, 0, none⟩ = some (.slice (some ⟨B, 0, none⟩) n c) := by rw [cell_of_row wC p 0 _ _ _ hheadC]; rfl
        have x1 : wC.cell? ⟨p, 1, none⟩ = some (.slice (some ⟨B', 0, none⟩) n c') := by rw [cell_of_row wC p 1 _ _ _ hheadC]; rfl
        have xf : ∀ o, wC.frozen? ⟨p, o, none⟩ = false := fun o => frozen_of_row wC p o _ _ hheadC
        have hv2p : v2.ownBlock ≠ some p := fun e => by have := (hown2.lt p e).1; have := hgrow1.size; omega
        have hv12 : v2.ownBlock = none ∨ v2.ownBlock ≠ v1.ownBlock := by
          cases h2 : v2.ownBlock with
          | none => exact .inl rfl
          | some x =>
            refine .inr (fun e => ?_)
            have := (hown2.lt x h2).1
            have := (hown1.lt x e.symm).2
            omega
        have hown2C := ownsRow_setCell_other (a := ⟨p, 0, none⟩) (hown2.kept hgrow3 hv12) (by simpa using hv2p) v3
        have HTC : Hid (∀ u, ∀ j, (ls.map LReg.sl)[j]? = some u → (wC.setCell ⟨p, 0, none⟩ v3).cell? ⟨B', j, none⟩ = some u) := by
          intro u j hu
          have hpB' : B' ≠ p := by
            rintro rfl
            exact (List.nodup_cons.1 hRB.nodup).1 (List.mem_append.2 (.inr (List.mem_append.2 (.inl (by rw [ew]; simp [Value.ownBlock])))))
          obtain ⟨B4, c4, e4, hc4, hB4, hx4⟩ := hRB.trow (by have := HNL.out; omega)
          rw [HNL.out] at e4
          obtain ⟨rfl, rfl⟩ : B' = B4 ∧ c' = c4 := by rw [ew] at e4; simpa using e4
          have h1 := hx4 j u hu
          rw [World.cell?_setCell_other _ _ _ _ (by intro e; injection e with e1; exact hpB' e1.symm), World.cell?_of_block (hgrow3.block B' hB4 (fun e => by have := (hown1.lt B' e.symm).1; omega))]
          exact h1
        obtain ⟨ad4, had4, hadn4⟩ : ∃ ad, (if c' = k + 1 then some (⟨B', 0, none⟩ : Addr) else some ⟨B', k + 1, none⟩) = some ad ∧ ∀ j u, ((ls.drop (k + 1)).map LReg.sl)[j]? = some u → (wC.setCell ⟨p, 0, none⟩ v3).cell? (ad.add j) = some u := by
          by_cases hck : c' = k + 1
          · refine ⟨⟨B', 0, none⟩, if_pos hck, fun j u hu => ?_⟩
            have hd : ls.drop (k + 1) = [] := List.drop_eq_nil_of_le (by have := HNL.out; omega)
            rw [hd] at hu
            simp at hu
          · refine ⟨⟨B', k + 1, none⟩, if_neg hck, fun j u hu => ?_⟩
            have hu' : (ls.map LReg.sl)[k + 1 + j]? = some u := by rw [List.map_drop, List.getElem?_drop] at hu; exact hu
            have := HTC.out u _ hu'
            cases j <;> simpa [Addr.add] using this
        have hheadP : (wC.setCell ⟨p, 0, none⟩ v3).heap[p]? = some (.cells #[v3, .slice (some ⟨B', 0, none⟩) n c', .int .i64 S.last] 56 (0, 0)) := by
          have := heap_setCell_same wC p 0 _ _ v3 hheadC
          simpa using this
        have hsC : wC.heap.size = (wC.setCell ⟨p, 0, none⟩ v3).heap.size := by simp [World.setCell]
        have hgs3 := hgrow3.size
        have hgs2 := hgrow2.size
        have hgs1 := hgrow1.size
        have hv3p : v3.ownBlock ≠ some p := fun e => by have := (hown3.lt p e).1; omega
        have hown3P := ownsRow_setCell_other (a := ⟨p, 0, none⟩) hown3 (by simpa using hv3p) v3
        have h1lt := fun x (e : v1.ownBlock = some x) => hown1.lt x e
        have h2lt := fun x (e : v2.ownBlock = some x) => hown2.lt x e
        have h3lt := fun x (e : v3.ownBlock = some x) => hown3.lt x e
        obtain ⟨ao3, c3, e3⟩ := own_shape hown3
        have HK3 := Hid.mk (show Kp [p] w (wC.setCell ⟨p, 0, none⟩ v3) from ((Kp.of_below hbB _).grown hgrow3 (fun x hx => .inr (by have := (h1lt x hx).1; have := hbw.size; omega))).setCell (.inl (by simp)) _)
        clear hgrow3 hnn3 hown3 hnn1 hnn2 hgrow1 hgrow2 hown1 hown2 hown1B hheadC hbA hbB hRA hRB HX3 HTC hadn had hv12
        subst e3
        go_wp2_with (at_builtin; refine wpList_append_own_at _ rfl _ _ 54 rfl wA.heap.size 62 i1 (.slice none 0 0) 1 24 Try.underlying54 hj0 hy0 hy1 hy2 rfl (by decide) _ _ _ rfl hown2C ad4 _ _ ((ls.drop (k + 1)).map LReg.sl) rfl ?l4 ?n4 ?o4 ?m4 ?b4 ?z4 ?_)
        case l4 => rw [List.length_map, List.length_drop, HNL.out]; omega
        case n4 => exact hadn4
        case o4 => exact sl_one
        case m4 => unfold maxLen; have := HNL.out; omega
        case b4 => have := HNL.out; omega
        case z4 => omega
        intro v4 wD hown4 hgrow4 hnn4 hat4
        have hgs4 := hgrow4.size
        have hheadD : wD.heap[p]? = some (.cells #[.slice ao3 (k + (ls.length - (k + 1))) c3, .slice (some ⟨B', 0, none⟩) n c', .int .i64 S.last] 56 (0, 0)) := (hgrow4.block p (by omega) (fun e => hv2p e.symm)).trans hheadP
        have y1 : wD.cell? ⟨p, 1, none⟩ = some (.slice (some ⟨B', 0, none⟩) n c') := by rw [cell_of_row wD p 1 _ _ _ hheadD]; rfl
        have yf : ∀ o, wD.frozen? ⟨p, o, none⟩ = false := fun o => frozen_of_row wD p o _ _ hheadD
        have h4lt := fun x (e : v4.ownBlock = some x) => hown4.lt x e
        have hv4p : v4.ownBlock ≠ some p := fun e => by have := (h4lt p e).1; omega
        have hKF : Kp [p] w (wD.setCell ⟨p, 1, none⟩ v4) := (HK3.out.grown hgrow4 (fun x hx => .inr (by have := (h2lt x hx).1; have := hbw.size; omega))).setCell (.inl (by simp)) _
        have hne3 : ∀ x, (Value.slice ao3 (k + (ls.length - (k + 1))) c3).ownBlock = some x → v2.ownBlock ≠ some x := by
          intro x hx e
          rcases hat3 with q | q
          · rw [hx] at q; have := (h1lt x q.symm).2; have := (h2lt x e).1; omega
          · rw [hx] at q; injection q with q; have := (h2lt x e).2; omega
        have hne4 : ∀ x, (Value.slice ao3 (k + (ls.length - (k + 1))) c3).ownBlock = some x → v4.ownBlock ≠ some x := by
          intro x hx e
          rcases hat4 with q | q
          · exact hne3 x hx (q ▸ e)
          · rw [e] at q; injection q with q; have := (h3lt x hx).2; omega
        have hown3D : (wD.setCell ⟨p, 1, none⟩ v4).ownsRow wr.heap.size 39 2 (.slice ao3 (k + (ls.length - (k + 1))) c3) (k + (ls.length - (k + 1))) (gcells (ls.take k) ++ gcells (ls.drop (k + 1))) := by
          refine ownsRow_setCell_other (a := ⟨p, 1, none⟩) (hown3P.kept hgrow4 ?_) (by simpa using hv3p) v4
          cases hx : (Value.slice ao3 (k + (ls.length - (k + 1))) c3).ownBlock with
          | none => exact .inl rfl
          | some x => exact .inr (fun e => hne3 x hx e.symm)
        have hown4D := ownsRow_setCell_other (a := ⟨p, 1, none⟩) hown4 (by simpa using hv4p) v4
        rw [← List.map_take] at hown4D
        have HF := Hid.mk (rlet_mk (H.out) ok hwd HR.out hgs (by have := HNL.out; omega) HQ.out HBw.out hKF (by have := heap_setCell_same wD p 1 _ _ v4 hheadD; simpa using this) hown3D hown4D (by have := HNL.out; omega) (by have := HNL.out; omega) hbw.size (by have := hbw.size; omega) hne4)
        have hres := Hid.mk (by rw [let_at HR.out (by have := HNL.out; omega) HQ.out HBw.out] : (S.let_ a).1 = 0)
        obtain ⟨ao4, c4, e4⟩ := own_shape hown4
        clear hown4 hgrow4 hnn4 hat4 hKF hne3 hne4 hown3D hown4D hheadD hheadP hown3P hown2C hadn4 had4 x0 xf HK3 h1lt h2lt h3lt h4lt
        subst e4
        go_wp2_with fail
        go_ret
        exact ⟨HF.out, by rw [hres.out]; rfl⟩
      · have z1 : (ls[k].base == a) = false := by simp [hq]
        have HB1 : Hid (∀ j (hj : j < ls.length), j < k + 1 → ls[j].base ≠ a) := by
          intro j hj hjk
          rcases Nat.lt_or_ge j k with q | q
          · exact HB.out j hj q
          · obtain rfl : j = k := by omega
            exact hq
        obtain ⟨x1, hx1⟩ : ∃ x1, ls[k].base = x1 := ⟨_, rfl⟩
        rw [hx1] at d0 z1
        clear hq hx1 HB h1
        go_wp2
        exact ⟨⟨k + 1, by go_num, by omega, HB1, hbw⟩, by simp [intOf]; omega⟩
    · obtain rfl : k = n := by omega
      have hres := Hid.mk (let_none HR.out (fun j hj => HB.out j hj (by have := HNL.out; omega)) : S.let_ a = (211, S))
      clear HB HC
      go_wp2
      go_ret
      rw [hres.out]
      exact ⟨RStp.of_below HH.out hbw, rfl⟩
end
end Go.Proofs.Ytkooogllajmkeaa
