/- Parts Rv Tw Da Br Rw, put together. -/
import Derived.Test.YtkooogllajmkeaaMo2
import Derived.Test.YtkooogllajmkeaaMo5
import Derived.Test.YtkooogllajmkeaaMo7
import Derived.Deep.Onto
import Derived.Deep.RegionHeld3
import Derived.Deep.DrawnRows
import Derived.OrdersIn
import Derived.OrdersHeld
import Derived.Deep.RegionHeld
/- The document's Let. -/
namespace Go.Proofs.Ytkooogllajmkeaa
open Go.RowKit
set_option pp.deepTerms true
section
variable {w : World} {p : Nat} {last : Int} {rv wv : Value} {ls : List LReg}
theorem own_shape {w : World} {base e size n : Nat} {v : Value} {xs : List Value} (h : w.ownsRow base e size v n xs) : ∃ ao c, v = .slice ao n c := by
  rcases h.2 with ⟨rfl, rfl⟩ | ⟨g, cap, cur, rfl, _⟩
  · exact ⟨_, _, rfl⟩
  · exact ⟨_, _, rfl⟩
theorem rlet_mk {S : Sp} {gs : List Nat} (h : RAt w p S.last rv wv ls) (ok : RegsOk S.last ls) (hwd : Words ls) (hr : S.regs = ls.map LReg.reg) (hgs : gs = rfoot p rv wv ls) {k : Nat} (hk : k < ls.length) {a : Int} (ha : ls[k].base = a) (hno : ∀ j (hj : j < ls.length), j < k → ls[j].base ≠ a)
    {W : World} {v3 v4 : Value} {b3 b4 m3 m4 : Nat} (hK : Kp [p] w W) (hh : W.heap[p]? = some (.cells #[v3, v4, .int .i64 S.last] 56 (0, 0)))
    (h3 : W.ownsRow b3 39 2 v3 m3 (gcells (ls.take k) ++ gcells (ls.drop (k + 1)))) (h4 : W.ownsRow b4 62 1 v4 m4 ((ls.take k).map LReg.sl ++ (ls.drop (k + 1)).map LReg.sl))
    (e3 : m3 = ls.length - 1) (e4 : m4 = ls.length - 1) (hb3 : w.heap.size ≤ b3) (hb4 : w.heap.size ≤ b4) (hne : ∀ x, v3.ownBlock = some x → v4.ownBlock ≠ some x) : RStp w p gs (S.let_ a).2 W := by
  rw [let_at hr hk ha hno]
  subst e3 e4
  have hlen : (ls.eraseIdx k).length = ls.length - 1 := by rw [List.length_eraseIdx, if_pos hk]
  have hpl := lt_of_heap h.head
  have hd0 := List.nodup_cons.1 h.nodup
  have hd1 := List.nodup_append.1 hd0.2
  have hd2 := List.nodup_append.1 hd1.2.1
  have hwbl : ∀ x ∈ (ls.eraseIdx k).map (·.wb), x < w.heap.size ∧ x ≠ p := fun x hx => by
    obtain ⟨r, hr, rfl⟩ := List.mem_map.1 hx
    have hr' := List.mem_of_mem_eraseIdx hr
    have hin : r.wb ∈ ls.map (·.wb) := List.mem_map.2 ⟨r, hr', rfl⟩
    exact ⟨((h.words r hr').lt r.wb rfl).2, fun e => hd0.1 (List.mem_append.2 (.inr (List.mem_append.2 (.inr (e ▸ hin)))))⟩
  have q3 : ∀ x, v3.ownBlock = some x → w.heap.size ≤ x := fun x hx => Nat.le_trans hb3 (h3.lt x hx).1
  have q4 : ∀ x, v4.ownBlock = some x → w.heap.size ≤ x := fun x hx => Nat.le_trans hb4 (h4.lt x hx).1
  refine ⟨_, ⟨v3, v4, ls.eraseIdx k, ⟨hh, ?_, ?_, ?_, ?_⟩, ok.erase k, words_erase hwd k, rfl, rfl⟩, ?_, ?_⟩
  · rw [hlen, gcells_erase]; exact h3.mono (Nat.zero_le _)
  · rw [hlen, sl_erase]; exact h4.mono (Nat.zero_le _)
  · intro r hr'
    refine hK.row (h.words r (List.mem_of_mem_eraseIdx hr')) (fun g hg => ?_)
    simp [Value.ownBlock, LReg.sl] at hg
    subst hg
    simpa using (hwbl r.wb (List.mem_map.2 ⟨r, hr', rfl⟩)).2
  · unfold rfoot
    refine List.nodup_cons.2 ⟨?_, List.nodup_append.2 ⟨?_, List.nodup_append.2 ⟨?_, ?_, ?_⟩, ?_⟩⟩
    · intro q
      simp only [List.mem_append, Option.mem_toList] at q
      rcases q with q | q | q
      · have := q3 p q; omega
      · have := q4 p q; omega
      · exact (hwbl p q).2 rfl
    · cases v3.ownBlock <;> simp
    · cases v4.ownBlock <;> simp
    · exact hd2.2.1.sublist ((List.eraseIdx_sublist _ _).map _)
    · intro x hx y hy e
      subst e
      simp only [Option.mem_toList] at hx
      have := q4 x hx; have := (hwbl x hy).1; omega
    · intro x hx y hy e
      subst e
      simp only [Option.mem_toList, List.mem_append] at hx hy
      rcases hy with hy | hy
      · exact hne x hx hy
      · have := q3 x hx; have := (hwbl x hy).1; omega
  · rw [hgs]; exact hK.mono (by simp [rfoot])
  · intro b hb
    rw [hgs]
    simp only [rfoot, List.mem_cons, List.mem_append, Option.mem_toList] at hb ⊢
    rcases hb with q | q | q | q
    · exact .inl (.inl q)
    · exact .inr (q3 b q)
    · exact .inr (q4 b q)
    · obtain ⟨r, hr, rfl⟩ := List.mem_map.1 q
      exact .inl (.inr (.inr (.inr (List.mem_map.2 ⟨r, List.mem_of_mem_eraseIdx hr, rfl⟩))))
set_option maxRecDepth 100000 in
set_option maxHeartbeats 2000000 in
theorem rlet_spc {S : Sp} {gs : List Nat} (h : RSpc w p S gs) (a : Int) : Calls Try.prog 50 #[.pointer (some ⟨p, 0, none⟩), .int .i64 a] w fun e w' =>
    RStp w p gs (S.let_ a).2 w' ∧ e = .returned (.int .i64 (S.let_ a).1) := by
  have hS := h
  obtain ⟨rv, wv, ls, h, ok, hwd, hr, hgs⟩ := h
  have hcn := ok.count
  have HH := Hid.mk hS
  have H := Hid.mk h
  have HR := Hid.mk hr
  obtain ⟨ao, c, hrv, hc⟩ := h.shape
  have hcell := h.cell0
  have hpl : p < w.heap.size := lt_of_heap h.head
  obtain ⟨n, hn⟩ : ∃ n, ls.length = n := ⟨_, rfl⟩
  have HC := Hid.mk hc
  have HNL := Hid.mk hn
  rw [hn] at hrv hcn
  rw [hrv] at hcell
  have HRV := Hid.mk hrv
  clear hc hn hrv h hr hS
  go_enter Try.func50, Try.ntmps50
  go_wp2
  go_loopw [5] (fun x wr => ∃ k : Nat, x = .int .i64 k ∧ k ≤ n ∧ Hid (∀ j (hj : j < ls.length), j < k → ls[j].base ≠ a) ∧ Below w.heap.size w wr) (fun x _ => n - (intOf x).toNat)
  case atStart => exact ⟨0, rfl, by omega, fun _ _ q => absurd q (by omega), Below.refl _ _⟩
  case round =>
    obtain ⟨k, rfl, hk, HB, hbw⟩ := hrel
    have c0 := (hbw.cell (p := ⟨p, 0, none⟩) hpl).trans hcell
    by_cases hlt : k < n
    · have h1 : k < ls.length := by rw [HNL.out]; exact hlt
      obtain ⟨B, rfl, hB, b0, -⟩ := HC.out k h1
      have d0 := (hbw.cell (p := ⟨B, k * 2, none⟩) hB).trans b0
      clear b0
      by_cases hq : ls[k].base = a
      · rw [hq] at d0
        have HQ := Hid.mk hq
        clear hq d0 c0
        have hR := H.out.below hbw
        obtain ⟨B1, c1, e1, hc1, hB1, hx1⟩ := hR.rrow (by omega)
        rw [HRV.out] at e1
        simp only [Value.slice.injEq, Option.some.injEq, Addr.mk.injEq, and_true] at e1
        obtain ⟨rfl, en, rfl⟩ := e1
        obtain ⟨B', c', ew, hc', hB', hx'⟩ := hR.trow (by omega)
        rw [HNL.out] at ew hc1 hc'
        have c0 := hR.cell0
        have cw := hR.cell1
        rw [HRV.out] at c0
        rw [ew] at cw
        have d0 : wr.cell? ⟨B, k * 2, none⟩ = some (.int .i64 a) := by rw [hx1 _ _ (gcells_fst h1), HQ.out]
        have hkc : k ≤ c := by omega
        have HX := Hid.mk hx1
        have HX' := Hid.mk hx'
        have HBw := Hid.mk HB
        clear hx1 hx' hR
        obtain ⟨i0, hi0, hz0, hz1, hz2⟩ := info_parts infoR
        obtain ⟨i1, hj0, hy0, hy1, hy2⟩ := info_parts infoS
        have z1 : (a == a) = true := by simp
        go_wp2_with (at_builtin; refine wpList_append_own_at _ rfl _ _ 36 rfl wr.heap.size 39 i0 (.agg #[.int .i64 0, .int .i64 0]) 2 16 Try.underlying36 hi0 hz0 hz1 hz2 rfl (by decide) _ 0 [] rfl (World.ownsRow_nil _ _ _ _) ⟨B, 0, none⟩ k _ (gcells (ls.take k)) rfl ?l1 ?n1 ?o1 ?m1 ?b1 (Nat.le_refl _) ?_)
        case l1 => rw [gcells_len, List.length_take, Nat.min_eq_left (by omega)]
        case n1 => intro j u hu; have := HX.out j u (gcells_take_at hu); cases j <;> simpa [Addr.add] using this
        case o1 => exact gcells_one
        case m1 => unfold maxLen; omega
        case b1 => omega
        intro v1 wA hown1 hgrow1 hnn1 hat1
        have hbA : Below w.heap.size w wA := hbw.grown hgrow1 hbw.size (by intro k hk; simp [Value.ownBlock] at hk)
        have hRA := H.out.below hbA
        obtain ⟨B2, c2, ew2, hc2, hB2, hx2⟩ := hRA.trow (by have := HNL.out; omega)
        rw [HNL.out] at ew2
        obtain ⟨rfl, rfl⟩ : B' = B2 ∧ c' = c2 := by rw [ew] at ew2; simpa using ew2
        clear ew2 hc2 c0 cw d0
        have cw := hRA.cell1
        rw [ew] at cw
        have HX2 := Hid.mk hx2
        clear hx2 HX'
        go_wp2_with (at_builtin; refine wpList_append_own_at _ rfl _ _ 54 rfl wA.heap.size 62 i1 (.slice none 0 0) 1 24 Try.underlying54 hj0 hy0 hy1 hy2 rfl (by decide) _ 0 [] rfl (World.ownsRow_nil _ _ _ _) ⟨B', 0, none⟩ k _ ((ls.take k).map LReg.sl) rfl ?l2 ?n2 ?o2 ?m2 ?b2 (Nat.le_refl _) ?_)
        case l2 => simp; omega
        case n2 =>
          intro j u hu
          have hu' : (ls.map LReg.sl)[j]? = some u := by
            rw [← List.take_append_drop k ls, List.map_append, List.getElem?_append_left (List.getElem?_eq_some_iff.1 hu).1]; exact hu
          have := HX2.out j u hu'
          cases j <;> simpa [Addr.add] using this
        case o2 => exact sl_one
        case m2 => unfold maxLen; omega
        case b2 => omega
        intro v2 wB hown2 hgrow2 hnn2 hat2
        have hbB : Below w.heap.size w wB := hbA.grown hgrow2 hbA.size (by intro k hk; simp [Value.ownBlock] at hk)
        have hRB := H.out.below hbB
        have hown1B := hown1.kept hgrow2 (by cases h : v1.ownBlock <;> simp [Value.ownBlock])
        obtain ⟨B3, c3, e3, hc3, hB3, hx3⟩ := hRB.rrow (by have := HNL.out; omega)
        rw [HRV.out, HNL.out] at e3
        obtain ⟨rfl, rfl⟩ : B = B3 ∧ c = c3 := by simpa using e3
        have c0 := hRB.cell0
        rw [HRV.out] at c0
        have HX3 := Hid.mk hx3
        clear hx3 HX HX2 e3 hc3 cw
        have hsA := hbA.size
        have hsB := hbB.size
        have hwk : IntKind.i64.wrap ((k : Int) + 1) = k + 1 := by rw [IntKind.wrap_i64]; omega
        have hkn1 : k + 1 ≤ n := by omega
        obtain ⟨ad, had, hadn⟩ : ∃ ad, (if c = k + 1 then some (⟨B, 0, none⟩ : Addr) else some ⟨B, (k + 1) * 2, none⟩) = some ad ∧ ∀ j u, (gcells (ls.drop (k + 1)))[j]? = some u → wB.cell? (ad.add j) = some u := by
          by_cases hck : c = k + 1
          · refine ⟨⟨B, 0, none⟩, if_pos hck, fun j u hu => ?_⟩
            have hd : ls.drop (k + 1) = [] := List.drop_eq_nil_of_le (by have := HNL.out; omega)
            rw [hd] at hu
            simp [gcells] at hu
          · refine ⟨⟨B, (k + 1) * 2, none⟩, if_neg hck, fun j u hu => ?_⟩
            have := HX3.out _ u (gcells_drop_at (by have := HNL.out; omega) hu)
            cases j <;> simpa [Addr.add] using this
        go_wp2_with (at_builtin; refine wpList_append_own_at _ rfl _ _ 36 rfl wr.heap.size 39 i0 (.agg #[.int .i64 0, .int .i64 0]) 2 16 Try.underlying36 hi0 hz0 hz1 hz2 rfl (by decide) _ _ _ rfl hown1B ad _ _ (gcells (ls.drop (k + 1))) rfl ?l3 ?n3 ?o3 ?m3 ?b3 (Nat.le_trans hgrow1.size hgrow2.size) ?_)
        case l3 => rw [gcells_len, List.length_drop]
        case n3 => exact hadn
        case o3 => exact gcells_one
        case m3 => unfold maxLen; have := HNL.out; omega
        case b3 => have := HNL.out; omega
        intro v3 wC hown3 hgrow3 hnn3 hat3
        have hpr : p < wr.heap.size := Nat.lt_of_lt_of_le hpl hbw.size
        have hpB : p < wB.heap.size := Nat.lt_of_lt_of_le hpl hbB.size
        have hv1p : v1.ownBlock ≠ some p := fun e => by have := (hown1.lt p e).1; omega
        have hheadC : wC.heap[p]? = some (.cells #[rv, wv, .int .i64 S.last] 56 (0, 0)) := (hgrow3.block p hpB (fun e => hv1p e.symm)).trans hRB.head
        rw [HRV.out, ew] at hheadC
        have x0 : wC.cell? ⟨p, 0, none⟩ = some (.slice (some ⟨B, 0, none⟩) n c) := by rw [cell_of_row wC p 0 _ _ _ hheadC]; rfl
        have x1 : wC.cell? ⟨p, 1, none⟩ = some (.slice (some ⟨B', 0, none⟩) n c') := by rw [cell_of_row wC p 1 _ _ _ hheadC]; rfl
        have xf : ∀ o, wC.frozen? ⟨p, o, none⟩ = false := fun o => frozen_of_row wC p o _ _ hheadC
        have hv2p : v2.ownBlock ≠ some p := fun e => by have := (hown2.lt p e).1; have := hgrow1.size; omega
        have hv12 : v2.ownBlock = none ∨ v2.ownBlock ≠ v1.ownBlock := by
          cases h2 : v2.ownBlock with
          | none => exact .inl rfl
          | some x =>
            refine .inr (fun e => ?_)
            have := (hown2.lt x h2).1
            have := (hown1.lt x e.symm).2
            omega
        have hown2C := ownsRow_setCell_other (a := ⟨p, 0, none⟩) (hown2.kept hgrow3 hv12) (by simpa using hv2p) v3
        have HTC : Hid (∀ u, ∀ j, (ls.map LReg.sl)[j]? = some u → (wC.setCell ⟨p, 0, none⟩ v3).cell? ⟨B', j, none⟩ = some u) := by
          intro u j hu
          have hpB' : B' ≠ p := by
            rintro rfl
            exact (List.nodup_cons.1 hRB.nodup).1 (List.mem_append.2 (.inr (List.mem_append.2 (.inl (by rw [ew]; simp [Value.ownBlock])))))
          obtain ⟨B4, c4, e4, hc4, hB4, hx4⟩ := hRB.trow (by have := HNL.out; omega)
          rw [HNL.out] at e4
          obtain ⟨rfl, rfl⟩ : B' = B4 ∧ c' = c4 := by rw [ew] at e4; simpa using e4
          have h1 := hx4 j u hu
          rw [World.cell?_setCell_other _ _ _ _ (by intro e; injection e with e1; exact hpB' e1.symm), World.cell?_of_block (hgrow3.block B' hB4 (fun e => by have := (hown1.lt B' e.symm).1; omega))]
          exact h1
        obtain ⟨ad4, had4, hadn4⟩ : ∃ ad, (if c' = k + 1 then some (⟨B', 0, none⟩ : Addr) else some ⟨B', k + 1, none⟩) = some ad ∧ ∀ j u, ((ls.drop (k + 1)).map LReg.sl)[j]? = some u → (wC.setCell ⟨p, 0, none⟩ v3).cell? (ad.add j) = some u := by
          by_cases hck : c' = k + 1
          · refine ⟨⟨B', 0, none⟩, if_pos hck, fun j u hu => ?_⟩
            have hd : ls.drop (k + 1) = [] := List.drop_eq_nil_of_le (by have := HNL.out; omega)
            rw [hd] at hu
            simp at hu
          · refine ⟨⟨B', k + 1, none⟩, if_neg hck, fun j u hu => ?_⟩
            have hu' : (ls.map LReg.sl)[k + 1 + j]? = some u := by rw [List.map_drop, List.getElem?_drop] at hu; exact hu
            have := HTC.out u _ hu'
            cases j <;> simpa [Addr.add] using this
        have hheadP : (wC.setCell ⟨p, 0, none⟩ v3).heap[p]? = some (.cells #[v3, .slice (some ⟨B', 0, none⟩) n c', .int .i64 S.last] 56 (0, 0)) := by
          have := heap_setCell_same wC p 0 _ _ v3 hheadC
          simpa using this
        have hsC : wC.heap.size = (wC.setCell ⟨p, 0, none⟩ v3).heap.size := by simp [World.setCell]
        have hgs3 := hgrow3.size
        have hgs2 := hgrow2.size
        have hgs1 := hgrow1.size
        have hv3p : v3.ownBlock ≠ some p := fun e => by have := (hown3.lt p e).1; omega
        have hown3P := ownsRow_setCell_other (a := ⟨p, 0, none⟩) hown3 (by simpa using hv3p) v3
        have h1lt := fun x (e : v1.ownBlock = some x) => hown1.lt x e
        have h2lt := fun x (e : v2.ownBlock = some x) => hown2.lt x e
        have h3lt := fun x (e : v3.ownBlock = some x) => hown3.lt x e
        obtain ⟨ao3, c3, e3⟩ := own_shape hown3
        have HK3 := Hid.mk (show Kp [p] w (wC.setCell ⟨p, 0, none⟩ v3) from ((Kp.of_below hbB _).grown hgrow3 (fun x hx => .inr (by have := (h1lt x hx).1; have := hbw.size; omega))).setCell (.inl (by simp)) _)
        clear hgrow3 hnn3 hown3 hnn1 hnn2 hgrow1 hgrow2 hown1 hown2 hown1B hheadC hbA hbB hRA hRB HX3 HTC hadn had hv12
        subst e3
        go_wp2_with (at_builtin; refine wpList_append_own_at _ rfl _ _ 54 rfl wA.heap.size 62 i1 (.slice none 0 0) 1 24 Try.underlying54 hj0 hy0 hy1 hy2 rfl (by decide) _ _ _ rfl hown2C ad4 _ _ ((ls.drop (k + 1)).map LReg.sl) rfl ?l4 ?n4 ?o4 ?m4 ?b4 ?z4 ?_)
        case l4 => rw [List.length_map, List.length_drop, HNL.out]; omega
        case n4 => exact hadn4
        case o4 => exact sl_one
        case m4 => unfold maxLen; have := HNL.out; omega
        case b4 => have := HNL.out; omega
        case z4 => omega
        intro v4 wD hown4 hgrow4 hnn4 hat4
        have hgs4 := hgrow4.size
        have hheadD : wD.heap[p]? = some (.cells #[.slice ao3 (k + (ls.length - (k + 1))) c3, .slice (some ⟨B', 0, none⟩) n c', .int .i64 S.last] 56 (0, 0)) := (hgrow4.block p (by omega) (fun e => hv2p e.symm)).trans hheadP
        have y1 : wD.cell? ⟨p, 1, none⟩ = some (.slice (some ⟨B', 0, none⟩) n c') := by rw [cell_of_row wD p 1 _ _ _ hheadD]; rfl
        have yf : ∀ o, wD.frozen? ⟨p, o, none⟩ = false := fun o => frozen_of_row wD p o _ _ hheadD
        have h4lt := fun x (e : v4.ownBlock = some x) => hown4.lt x e
        have hv4p : v4.ownBlock ≠ some p := fun e => by have := (h4lt p e).1; omega
        have hKF : Kp [p] w (wD.setCell ⟨p, 1, none⟩ v4) := (HK3.out.grown hgrow4 (fun x hx => .inr (by have := (h2lt x hx).1; have := hbw.size; omega))).setCell (.inl (by simp)) _
        have hne3 : ∀ x, (Value.slice ao3 (k + (ls.length - (k + 1))) c3).ownBlock = some x → v2.ownBlock ≠ some x := by
          intro x hx e
          rcases hat3 with q | q
          · rw [hx] at q; have := (h1lt x q.symm).2; have := (h2lt x e).1; omega
          · rw [hx] at q; injection q with q; have := (h2lt x e).2; omega
        have hne4 : ∀ x, (Value.slice ao3 (k + (ls.length - (k + 1))) c3).ownBlock = some x → v4.ownBlock ≠ some x := by
          intro x hx e
          rcases hat4 with q | q
          · exact hne3 x hx (q ▸ e)
          · rw [e] at q; injection q with q; have := (h3lt x hx).2; omega
        have hown3D : (wD.setCell ⟨p, 1, none⟩ v4).ownsRow wr.heap.size 39 2 (.slice ao3 (k + (ls.length - (k + 1))) c3) (k + (ls.length - (k + 1))) (gcells (ls.take k) ++ gcells (ls.drop (k + 1))) := by
          refine ownsRow_setCell_other (a := ⟨p, 1, none⟩) (hown3P.kept hgrow4 ?_) (by simpa using hv3p) v4
          cases hx : (Value.slice ao3 (k + (ls.length - (k + 1))) c3).ownBlock with
          | none => exact .inl rfl
          | some x => exact .inr (fun e => hne3 x hx e.symm)
        have hown4D := ownsRow_setCell_other (a := ⟨p, 1, none⟩) hown4 (by simpa using hv4p) v4
        rw [← List.map_take] at hown4D
        have HF := Hid.mk (rlet_mk (H.out) ok hwd HR.out hgs (by have := HNL.out; omega) HQ.out HBw.out hKF (by have := heap_setCell_same wD p 1 _ _ v4 hheadD; simpa using this) hown3D hown4D (by have := HNL.out; omega) (by have := HNL.out; omega) hbw.size (by have := hbw.size; omega) hne4)
        have hres := Hid.mk (by rw [let_at HR.out (by have := HNL.out; omega) HQ.out HBw.out] : (S.let_ a).1 = 0)
        obtain ⟨ao4, c4, e4⟩ := own_shape hown4
        clear hown4 hgrow4 hnn4 hat4 hKF hne3 hne4 hown3D hown4D hheadD hheadP hown3P hown2C hadn4 had4 x0 xf HK3 h1lt h2lt h3lt h4lt
        subst e4
        go_wp2_with fail
        go_ret
        exact ⟨HF.out, by rw [hres.out]; rfl⟩
      · have z1 : (ls[k].base == a) = false := by simp [hq]
        have HB1 : Hid (∀ j (hj : j < ls.length), j < k + 1 → ls[j].base ≠ a) := by
          intro j hj hjk
          rcases Nat.lt_or_ge j k with q | q
          · exact HB.out j hj q
          · obtain rfl : j = k := by omega
            exact hq
        obtain ⟨x1, hx1⟩ : ∃ x1, ls[k].base = x1 := ⟨_, rfl⟩
        rw [hx1] at d0 z1
        clear hq hx1 HB h1
        go_wp2
        exact ⟨⟨k + 1, by go_num, by omega, HB1, hbw⟩, by simp [intOf]; omega⟩
    · obtain rfl : k = n := by omega
      have hres := Hid.mk (let_none HR.out (fun j hj => HB.out j hj (by have := HNL.out; omega)) : S.let_ a = (211, S))
      clear HB HC
      go_wp2
      go_ret
      rw [hres.out]
      exact ⟨RStp.of_below HH.out hbw, rfl⟩
end
end Go.Proofs.Ytkooogllajmkeaa
/- Two spaces alike: the program's and the document's, both of the call's own; the methods' contracts over both. -/
namespace Go.Proofs.Ytkooogllajmkeaa
open Go.RowKit
/-- an integer of 64 bits -/
def I64 (a : Int) : Prop := -9223372036854775808 ≤ a ∧ a ≤ 9223372036854775807
theorem RSpc.kp {w w' : World} {p : Nat} {S : Sp} {fs gs : List Nat} (h : RSpc w p S gs) (k : Kp fs w w') (hd : ∀ b ∈ gs, b ∉ fs) : RSpc w' p S gs := by
  obtain ⟨rv, wv, ls, h1, h2, h3, h4, rfl⟩ := h
  exact ⟨rv, wv, ls, h1.kp k hd, h2, h3, h4, rfl⟩
theorem RSpc.below {w w' : World} {p : Nat} {S : Sp} {gs : List Nat} (h : RSpc w p S gs) (k : Below w.heap.size w w') : RSpc w' p S gs := h.kp (Kp.of_below k []) (by simp)
theorem RSpc.lt {w : World} {p : Nat} {S : Sp} {gs : List Nat} (h : RSpc w p S gs) : ∀ b ∈ gs, b < w.heap.size := by
  obtain ⟨rv, wv, ls, h1, _, _, _, rfl⟩ := h
  exact h1.lt
theorem RSpc.mem {w : World} {p : Nat} {S : Sp} {gs : List Nat} (h : RSpc w p S gs) : p ∈ gs := by
  obtain ⟨rv, wv, ls, _, _, _, _, rfl⟩ := h
  simp [rfoot]
theorem rlive_spc {w : World} {p : Nat} {S : Sp} {gs : List Nat} (h : RSpc w p S gs) : Calls Try.prog 58 #[.pointer (some ⟨p, 0, none⟩)] w fun e w' => Below w.heap.size w w' ∧ e = .returned (.int .i64 (total S.regs : Nat)) := by
  obtain ⟨rv, wv, ls, h1, h2, h3, h4, rfl⟩ := h
  rw [h4, total_map]
  exact rlive_any h1 h2
theorem rget_spc {w : World} {p : Nat} {S : Sp} {gs : List Nat} (h : RSpc w p S gs) (a : Int) (ha : I64 a) : Calls Try.prog 52 #[.pointer (some ⟨p, 0, none⟩), .int .i64 a] w fun e w' =>
    Below w.heap.size w w' ∧ e = .returned (.tuple #[.agg #[.int .i64 (S.get a).1.1, .int .i64 (S.get a).1.2], .int .i64 (S.get a).2]) := by
  obtain ⟨rv, wv, ls, h1, h2, h3, h4, rfl⟩ := h
  have := rget_any h1 h2 h3 a ha
  have e : (⟨ls.map LReg.reg, S.last⟩ : Sp) = S := by rw [← h4]
  rw [e] at this
  exact this
theorem rof_spc {w : World} {p : Nat} {S : Sp} {gs : List Nat} (h : RSpc w p S gs) (a : Int) (ha : I64 a) : Calls Try.prog 21 #[.pointer (some ⟨p, 0, none⟩), .int .i64 a] w fun e w' =>
    Below w.heap.size w w' ∧ e = .returned (.tuple #[.agg #[.int .i64 (S.of a).1.1, .int .i64 (S.of a).1.2], .bool (S.of a).2]) := by
  obtain ⟨rv, wv, ls, h1, h2, h3, h4, rfl⟩ := h
  have := rof_any h1 h2 a ha
  have e : (⟨ls.map LReg.reg, S.last⟩ : Sp) = S := by rw [← h4]
  rw [e] at this
  exact this
theorem RSpc.zero (w : World) : RSpc (w.alloc (.cells #[.slice none 0 0, .slice none 0 0, .int .i64 0] 56)) w.heap.size ⟨[], 0⟩ [w.heap.size] := by
  refine ⟨.slice none 0 0, .slice none 0 0, [], ⟨heap_alloc_new w _, World.ownsRow_nil _ _ _ _, World.ownsRow_nil _ _ _ _, by simp, by simp [rfoot, Value.ownBlock]⟩, ⟨by simp, by simp, by simp, by simp, by simp⟩, by intro r hr; simp at hr, rfl, by simp [rfoot, Value.ownBlock]⟩

/-- two spaces of the call's own; E: other blocks of the call's own, with what they hold -/
def Two (w : World) (p pr : Nat) (S R : Sp) (E : List (Nat × Obj)) (W : World) : Prop := ∃ fs gs, Spc W p S fs ∧ RSpc W pr R gs ∧ (∀ b ∈ fs, b ∉ gs) ∧ (∀ b ∈ fs, w.heap.size ≤ b) ∧ (∀ b ∈ gs, w.heap.size ≤ b) ∧ Below w.heap.size w W ∧ ∀ x ∈ E, x.1 ∉ fs ∧ x.1 ∉ gs ∧ W.heap[x.1]? = some x.2
section
variable {w W W' : World} {p pr : Nat} {S S' R R' : Sp} {E : List (Nat × Obj)} {fs gs : List Nat}
theorem Two.stp (hR : RSpc W pr R gs) (hd : ∀ b ∈ fs, b ∉ gs) (hf : ∀ b ∈ fs, w.heap.size ≤ b) (hg : ∀ b ∈ gs, w.heap.size ≤ b) (hb : Below w.heap.size w W) (hE : ∀ x ∈ E, x.1 ∉ fs ∧ x.1 ∉ gs ∧ W.heap[x.1]? = some x.2) (hs : Stp W p fs S' W') : Two w p pr S' R E W' := by
  obtain ⟨fs', h1, h2, h3⟩ := hs
  have hgl := hR.lt
  refine ⟨fs', gs, h1, hR.kp h2 (fun b hb q => hd b q hb), fun b hb' q => ?_, fun b hb' => (h3 b hb').elim (hf b) (fun q => Nat.le_trans hb.size q), hg, h2.to_below hb hf, fun x hx => ⟨fun q => ?_, (hE x hx).2.1, h2.at (hE x hx).2.2 (hE x hx).1⟩⟩
  · rcases h3 b hb' with c | c
    · exact hd b c q
    · have := hgl b q; omega
  · rcases h3 _ q with q | q
    · exact (hE x hx).1 q
    · have := lt_of_heap (hE x hx).2.2; omega
theorem Two.rstp (hS : Spc W p S fs) (hd : ∀ b ∈ fs, b ∉ gs) (hf : ∀ b ∈ fs, w.heap.size ≤ b) (hg : ∀ b ∈ gs, w.heap.size ≤ b) (hb : Below w.heap.size w W) (hE : ∀ x ∈ E, x.1 ∉ fs ∧ x.1 ∉ gs ∧ W.heap[x.1]? = some x.2) (hs : RStp W pr gs R' W') : Two w p pr S R' E W' := by
  obtain ⟨gs', h1, h2, h3⟩ := hs
  have hfl := hS.lt
  refine ⟨fs, gs', hS.kp h2 hd, h1, fun b hb' q => ?_, hf, fun b hb' => (h3 b hb').elim (hg b) (fun q => Nat.le_trans hb.size q), h2.to_below hb hg, fun x hx => ⟨(hE x hx).1, fun q => ?_, h2.at (hE x hx).2.2 (hE x hx).2.1⟩⟩
  · rcases h3 b q with c | c
    · exact hd b hb' c
    · have := hfl b hb'; omega
  · rcases h3 _ q with q | q
    · exact (hE x hx).2.1 q
    · have := lt_of_heap (hE x hx).2.2; omega
theorem Two.keep (h : Two w p pr S R E W) (k : Below W.heap.size W W') : Two w p pr S R E W' := by
  obtain ⟨fs, gs, h1, h2, h3, h4, h5, h6, h7⟩ := h
  exact ⟨fs, gs, h1.below k, h2.below k, h3, h4, h5, h6.trans (k.mono h6.size), fun x hx => ⟨(h7 x hx).1, (h7 x hx).2.1, below_at k (h7 x hx).2.2 (lt_of_heap (h7 x hx).2.2)⟩⟩
theorem Two.size (h : Two w p pr S R E W) : Below w.heap.size w W := let ⟨_, _, _, _, _, _, _, q, _⟩ := h; q
theorem Two.alloc (h : Two w p pr S R E W) (o : Obj) : Two w p pr S R ((W.heap.size, o) :: E) (W.alloc o) := by
  have hk := h.keep ((Below.refl W.heap.size W).alloc (Nat.le_refl _) o)
  obtain ⟨fs0, gs0, q1, q2, q3, q4, q5, q6, q7⟩ := h
  have hb := (Below.refl W.heap.size W).alloc (Nat.le_refl _) o
  refine ⟨fs0, gs0, q1.below hb, q2.below hb, q3, q4, q5, hk.size, fun x hx => ?_⟩
  rcases List.mem_cons.1 hx with rfl | hx
  · exact ⟨fun q => by have := q1.lt _ q; omega, fun q => by have := q2.lt _ q; omega, heap_alloc_new W o⟩
  · exact ⟨(q7 x hx).1, (q7 x hx).2.1, below_at hb (q7 x hx).2.2 (lt_of_heap (q7 x hx).2.2)⟩
theorem Two.box (h : Two w p pr S R E W) {b j : Nat} {cs : Array Value} {T : TypeId} {v : Value} (hm : (b, Obj.cells cs T (0, 0)) ∈ E) (hv : cs[j]? = some v) : W.cell? ⟨b, j, none⟩ = some v := by
  obtain ⟨fs, gs, h1, h2, h3, h4, h5, h6, h7⟩ := h
  rw [cell_of_row W b j _ _ _ (h7 _ hm).2.2, hv]
theorem Two.free (h : Two w p pr S R E W) {b : Nat} {cs : Array Value} {T : TypeId} (hm : (b, Obj.cells cs T (0, 0)) ∈ E) (j : Nat) : W.frozen? ⟨b, j, none⟩ = false := by
  obtain ⟨fs, gs, h1, h2, h3, h4, h5, h6, h7⟩ := h
  exact frozen_of_row W b j _ _ (h7 _ hm).2.2
theorem Two.sub (h : Two w p pr S R E W) {E' : List (Nat × Obj)} (hs : ∀ x ∈ E', x ∈ E) : Two w p pr S R E' W := by
  obtain ⟨fs, gs, h1, h2, h3, h4, h5, h6, h7⟩ := h
  exact ⟨fs, gs, h1, h2, h3, h4, h5, h6, fun x hx => h7 x (hs x hx)⟩
theorem take_two (h : Two w p pr S R E W) (m : Int) (hl : S.last ≤ 1152921504606846976) : Calls Try.prog 12 #[.pointer (some ⟨p, 0, none⟩), .int .i64 m] W fun e w' => Two w p pr (S.take m).2 R E w' ∧ e = .returned (.tuple #[.int .i64 (S.take m).1.1, .int .i64 (S.take m).1.2]) := by
  obtain ⟨fs, gs, h1, h2, h3, h4, h5, h6, h7⟩ := h
  refine (take_spc h1 m hl).mono ?_
  rintro e w' ⟨hs, rfl⟩
  exact ⟨Two.stp h2 h3 h4 h5 h6 h7 hs, rfl⟩
theorem rtake_two (h : Two w p pr S R E W) (m : Int) (hl : R.last ≤ 1152921504606846976) : Calls Try.prog 49 #[.pointer (some ⟨pr, 0, none⟩), .int .i64 m] W fun e w' => Two w p pr S (R.take m).2 E w' ∧ e = .returned (.tuple #[.int .i64 (R.take m).1.1, .int .i64 (R.take m).1.2]) := by
  obtain ⟨fs, gs, h1, h2, h3, h4, h5, h6, h7⟩ := h
  refine (rtake_spc h2 m hl).mono ?_
  rintro e w' ⟨hs, rfl⟩
  exact ⟨Two.rstp h1 h3 h4 h5 h6 h7 hs, rfl⟩
theorem let_two (h : Two w p pr S R E W) (a : Int) : Calls Try.prog 13 #[.pointer (some ⟨p, 0, none⟩), .int .i64 a] W fun e w' => Two w p pr (S.let_ a).2 R E w' ∧ e = .returned (.int .i64 (S.let_ a).1) := by
  obtain ⟨fs, gs, h1, h2, h3, h4, h5, h6, h7⟩ := h
  refine (let_spc h1 a).mono ?_
  rintro e w' ⟨hs, rfl⟩
  exact ⟨Two.stp h2 h3 h4 h5 h6 h7 hs, rfl⟩
theorem rlet_two (h : Two w p pr S R E W) (a : Int) : Calls Try.prog 50 #[.pointer (some ⟨pr, 0, none⟩), .int .i64 a] W fun e w' => Two w p pr S (R.let_ a).2 E w' ∧ e = .returned (.int .i64 (R.let_ a).1) := by
  obtain ⟨fs, gs, h1, h2, h3, h4, h5, h6, h7⟩ := h
  refine (rlet_spc h2 a).mono ?_
  rintro e w' ⟨hs, rfl⟩
  exact ⟨Two.rstp h1 h3 h4 h5 h6 h7 hs, rfl⟩
theorem put_two (h : Two w p pr S R E W) (a t n : Int) : Calls Try.prog 17 #[.pointer (some ⟨p, 0, none⟩), .int .i64 a, .agg #[.int .i64 t, .int .i64 n]] W fun e w' => Two w p pr (S.put a (t, n)).2 R E w' ∧ e = .returned (.int .i64 (S.put a (t, n)).1) := by
  obtain ⟨fs, gs, h1, h2, h3, h4, h5, h6, h7⟩ := h
  refine (put_spc h1 a t n).mono ?_
  rintro e w' ⟨hs, rfl⟩
  exact ⟨Two.stp h2 h3 h4 h5 h6 h7 hs, rfl⟩
theorem rput_two (h : Two w p pr S R E W) (a t n : Int) (ha : I64 a) : Calls Try.prog 51 #[.pointer (some ⟨pr, 0, none⟩), .int .i64 a, .agg #[.int .i64 t, .int .i64 n]] W fun e w' => Two w p pr S (R.put a (t, n)).2 E w' ∧ e = .returned (.int .i64 (R.put a (t, n)).1) := by
  obtain ⟨fs, gs, h1, h2, h3, h4, h5, h6, h7⟩ := h
  refine (rput_spc h2 a t n ha).mono ?_
  rintro e w' ⟨hs, rfl⟩
  exact ⟨Two.rstp h1 h3 h4 h5 h6 h7 hs, rfl⟩
theorem drop_two (h : Two w p pr S R E W) (a m : Int) : Calls Try.prog 18 #[.pointer (some ⟨p, 0, none⟩), .int .i64 a, .int .i64 m] W fun e w' => Two w p pr (S.drop a m).2 R E w' ∧ e = .returned (.int .i64 (S.drop a m).1) := by
  obtain ⟨fs, gs, h1, h2, h3, h4, h5, h6, h7⟩ := h
  refine (drop_spc h1 a m).mono ?_
  rintro e w' ⟨hs, rfl⟩
  exact ⟨Two.stp h2 h3 h4 h5 h6 h7 hs, rfl⟩
theorem rdrop_two (h : Two w p pr S R E W) (a m : Int) (ha : I64 a) : Calls Try.prog 53 #[.pointer (some ⟨pr, 0, none⟩), .int .i64 a, .int .i64 m] W fun e w' => Two w p pr S (R.drop a m).2 E w' ∧ e = .returned (.int .i64 (R.drop a m).1) := by
  obtain ⟨fs, gs, h1, h2, h3, h4, h5, h6, h7⟩ := h
  refine (rdrop_spc h2 a m ha).mono ?_
  rintro e w' ⟨hs, rfl⟩
  exact ⟨Two.rstp h1 h3 h4 h5 h6 h7 hs, rfl⟩
theorem move_two (h : Two w p pr S R E W) (b a m : Int) : Calls Try.prog 23 #[.pointer (some ⟨p, 0, none⟩), .int .i64 b, .int .i64 a, .int .i64 m] W fun e w' => Two w p pr (S.move b a m).2 R E w' ∧ e = .returned (.int .i64 (S.move b a m).1) := by
  obtain ⟨fs, gs, h1, h2, h3, h4, h5, h6, h7⟩ := h
  refine (move_spc h1 b a m).mono ?_
  rintro e w' ⟨hs, rfl⟩
  exact ⟨Two.stp h2 h3 h4 h5 h6 h7 hs, rfl⟩
theorem rmove_two (h : Two w p pr S R E W) (b a m : Int) (hb : I64 b) (ha : I64 a) : Calls Try.prog 54 #[.pointer (some ⟨pr, 0, none⟩), .int .i64 b, .int .i64 a, .int .i64 m] W fun e w' => Two w p pr S (R.move b a m).2 E w' ∧ e = .returned (.int .i64 (R.move b a m).1) := by
  obtain ⟨fs, gs, h1, h2, h3, h4, h5, h6, h7⟩ := h
  refine (rmove_spc h2 b a m hb ha).mono ?_
  rintro e w' ⟨hs, rfl⟩
  exact ⟨Two.rstp h1 h3 h4 h5 h6 h7 hs, rfl⟩
theorem get_two (h : Two w p pr S R E W) (a : Int) : Calls Try.prog 19 #[.pointer (some ⟨p, 0, none⟩), .int .i64 a] W fun e w' => Two w p pr S R E w' ∧ Below W.heap.size W w' ∧ e = .returned (.tuple #[.agg #[.int .i64 (S.get a).1.1, .int .i64 (S.get a).1.2], .int .i64 (S.get a).2]) := by
  have h0 := h
  obtain ⟨fs, gs, h1, h2, h3, h4, h5, h6, h7⟩ := h
  refine (get_spc h1 a).mono ?_
  rintro e w' ⟨hb, rfl⟩
  exact ⟨h0.keep hb, hb, rfl⟩
theorem rget_two (h : Two w p pr S R E W) (a : Int) (ha : I64 a) : Calls Try.prog 52 #[.pointer (some ⟨pr, 0, none⟩), .int .i64 a] W fun e w' => Two w p pr S R E w' ∧ Below W.heap.size W w' ∧ e = .returned (.tuple #[.agg #[.int .i64 (R.get a).1.1, .int .i64 (R.get a).1.2], .int .i64 (R.get a).2]) := by
  have h0 := h
  obtain ⟨fs, gs, h1, h2, h3, h4, h5, h6, h7⟩ := h
  refine (rget_spc h2 a ha).mono ?_
  rintro e w' ⟨hb, rfl⟩
  exact ⟨h0.keep hb, hb, rfl⟩
theorem of_two (h : Two w p pr S R E W) (a : Int) : Calls Try.prog 15 #[.pointer (some ⟨p, 0, none⟩), .int .i64 a] W fun e w' => Two w p pr S R E w' ∧ Below W.heap.size W w' ∧ e = .returned (.tuple #[.agg #[.int .i64 (S.of a).1.1, .int .i64 (S.of a).1.2], .bool (S.of a).2]) := by
  have h0 := h
  obtain ⟨fs, gs, h1, h2, h3, h4, h5, h6, h7⟩ := h
  refine (find_of h1 a).mono ?_
  rintro e w' ⟨hb, rfl⟩
  exact ⟨h0.keep hb, hb, rfl⟩
theorem rof_two (h : Two w p pr S R E W) (a : Int) (ha : I64 a) : Calls Try.prog 21 #[.pointer (some ⟨pr, 0, none⟩), .int .i64 a] W fun e w' => Two w p pr S R E w' ∧ Below W.heap.size W w' ∧ e = .returned (.tuple #[.agg #[.int .i64 (R.of a).1.1, .int .i64 (R.of a).1.2], .bool (R.of a).2]) := by
  have h0 := h
  obtain ⟨fs, gs, h1, h2, h3, h4, h5, h6, h7⟩ := h
  refine (rof_spc h2 a ha).mono ?_
  rintro e w' ⟨hb, rfl⟩
  exact ⟨h0.keep hb, hb, rfl⟩
theorem live_two (h : Two w p pr S R E W)  : Calls Try.prog 16 #[.pointer (some ⟨p, 0, none⟩)] W fun e w' => Two w p pr S R E w' ∧ Below W.heap.size W w' ∧ e = .returned ( .int .i64 (total S.regs)) := by
  have h0 := h
  obtain ⟨fs, gs, h1, h2, h3, h4, h5, h6, h7⟩ := h
  refine (live_spc h1 ).mono ?_
  rintro e w' ⟨rfl, hb⟩
  exact ⟨h0.keep hb, hb, rfl⟩
theorem rlive_two (h : Two w p pr S R E W)  : Calls Try.prog 58 #[.pointer (some ⟨pr, 0, none⟩)] W fun e w' => Two w p pr S R E w' ∧ Below W.heap.size W w' ∧ e = .returned ( .int .i64 (total R.regs : Nat)) := by
  have h0 := h
  obtain ⟨fs, gs, h1, h2, h3, h4, h5, h6, h7⟩ := h
  refine (rlive_spc h2 ).mono ?_
  rintro e w' ⟨hb, rfl⟩
  exact ⟨h0.keep hb, hb, rfl⟩
theorem run_two (h : Two w p pr S R E W) (a m : Int) : Calls Try.prog 24 #[.pointer (some ⟨p, 0, none⟩), .int .i64 a, .int .i64 m] W fun e w' => Two w p pr S R E w' ∧ Below W.heap.size W w' ∧ RunOut W (S.run a m) e w' := by
  have h0 := h
  obtain ⟨fs, gs, h1, h2, h3, h4, h5, h6, h7⟩ := h
  refine (run_spc h1 a m).mono ?_
  rintro e w' ⟨hb, hr⟩
  exact ⟨h0.keep hb, hb, hr⟩
theorem rrun_two (h : Two w p pr S R E W) (a m : Int) (ha : I64 a) : Calls Try.prog 55 #[.pointer (some ⟨pr, 0, none⟩), .int .i64 a, .int .i64 m] W fun e w' => Two w p pr S R E w' ∧ Below W.heap.size W w' ∧ ∃ v, e = .returned (.tuple #[v, .int .i64 (R.run a m).2]) ∧ Rd w' v ((R.run a m).1.getD []) := by
  have h0 := h
  obtain ⟨fs, gs, h1, h2, h3, h4, h5, h6, h7⟩ := h
  refine (rrun_spc h2 a m ha).mono ?_
  rintro e w' ⟨hb, hr⟩
  exact ⟨h0.keep hb, hb, hr⟩
theorem regions_two (h : Two w p pr S R E W) : Calls Try.prog 14 #[.pointer (some ⟨p, 0, none⟩)] W fun e w' => Two w p pr S R E w' ∧ Below W.heap.size W w' ∧ ∃ v, Rd w' v (tells S.regs) ∧ e = .returned v := by
  have h0 := h
  obtain ⟨fs, gs, h1, h2, h3, h4, h5, h6, h7⟩ := h
  refine (regions_spc h1).mono ?_
  rintro e w' ⟨hb, v, rfl, hrow, _⟩
  exact ⟨h0.keep hb, hb, v, Rd.of_row hrow (by simp [tells]), rfl⟩
/-- the document's row of regions, as read -/
theorem Two.rrow (h : Two w p pr S R E W) : ∃ v, W.cell? ⟨pr, 0, none⟩ = some v ∧ Rd W v (tells R.regs) := by
  obtain ⟨fs, gs, h1, ⟨rv, wv, ls, h2, ok, hwd, hr, hgs⟩, h3, h4, h5, h6, h7⟩ := h
  refine ⟨rv, h2.cell0, ?_⟩
  have := h2.row
  rw [gcells_tells, ← hr] at this
  exact Rd.of_row this (by rw [hr]; simp [tells])
end
end Go.Proofs.Ytkooogllajmkeaa
/- A play's step (layer 21), kinds 1, 2, 4, 5: both calls, one answer. -/
namespace Go.Proofs.Ytkooogllajmkeaa
open Go.RowKit
set_option pp.deepTerms true
attribute [local go_sem ↓] Go.wp_at_zero Go.wp_at_succ
/-- a play's block -/
def plo (p pr : Nat) : Obj := .cells #[.pointer (some ⟨p, 0, none⟩), .pointer (some ⟨pr, 0, none⟩)] 58
/-- an operation's block, and its value -/
def opo (k n a b t v : Int) : Obj := .cells #[.int .i64 k, .int .i64 n, .int .i64 a, .int .i64 b, .int .i64 t, .int .i64 v] 31
def opv (k n a b t v : Int) : Value := .agg #[.int .i64 k, .int .i64 n, .int .i64 a, .int .i64 b, .int .i64 t, .int .i64 v]
/-- what a step leaves -/
def DoPost (w : World) (q p pr : Nat) (S : Sp) (e : Ending) (w' : World) : Prop := e = .returned (.bool true) ∧ Two w p pr S S [(q, plo p pr)] w'
theorem undrew {W W' : World} (h : Below W.drew.heap.size W.drew W') : Below W.heap.size W W' := ⟨h.os, h.tape, h.output, h.size, h.block⟩
section
variable {w W : World} {q B p pr : Nat} {S R : Sp} {k n a b t v : Int}
theorem Two.qs (h : Two w p pr S R [(B, opo k n a b t v), (q, plo p pr)] W) : W.cell? ⟨q, 0, none⟩ = some (.pointer (some ⟨p, 0, none⟩)) ∧ W.cell? ⟨q, 1, none⟩ = some (.pointer (some ⟨pr, 0, none⟩)) :=
  ⟨h.box (List.Mem.tail _ (List.Mem.head _)) rfl, h.box (List.Mem.tail _ (List.Mem.head _)) rfl⟩
theorem Two.os (h : Two w p pr S R [(B, opo k n a b t v), (q, plo p pr)] W) : W.cell? ⟨B, 0, none⟩ = some (.int .i64 k) ∧ W.cell? ⟨B, 1, none⟩ = some (.int .i64 n) ∧ W.cell? ⟨B, 2, none⟩ = some (.int .i64 a) ∧ W.cell? ⟨B, 3, none⟩ = some (.int .i64 b) ∧ W.cell? ⟨B, 4, none⟩ = some (.int .i64 t) ∧ W.cell? ⟨B, 5, none⟩ = some (.int .i64 v) :=
  ⟨h.box (List.Mem.head _) rfl, h.box (List.Mem.head _) rfl, h.box (List.Mem.head _) rfl, h.box (List.Mem.head _) rfl, h.box (List.Mem.head _) rfl, h.box (List.Mem.head _) rfl⟩
theorem Two.lst (h : Two w p pr S R [(B, opo k n a b t v), (q, plo p pr)] W) : Two w p pr S R [(q, plo p pr)] W := h.sub (by simp)

set_option maxRecDepth 100000 in
set_option maxHeartbeats 4000000 in
theorem do1_any (h : Two w p pr S S [(q, plo p pr)] W) (n a b t v : Int) : Calls Try.prog 20 #[.pointer (some ⟨q, 0, none⟩), opv 1 n a b t v] W (DoPost w q p pr (S.let_ a).2) := by
  have hB := Two.alloc h (opo 1 n a b t v)
  have b0 := hB.keep (Below.refl _ _).drew
  have x0 := hB.qs
  have x1 := hB.os
  obtain ⟨x2, x3⟩ := x0
  obtain ⟨x4, x5, x6, x7, x8, x9⟩ := x1
  unfold opo at x2 x3 x4 x5 x6 x7 x8 x9
  unfold opv
  go_enter Try.func20, Try.ntmps20
  go_wp2_with fail
  go_region_held3 (fun W' => W'.cell? ⟨q, 0, none⟩ = some (.pointer (some ⟨p, 0, none⟩)) ∧ W'.cell? ⟨q, 1, none⟩ = some (.pointer (some ⟨pr, 0, none⟩)) ∧ W'.cell? ⟨W.heap.size, 2, none⟩ = some (.int .i64 a)) (first | exact ⟨hy.qs.1, hy.qs.2, hy.os.2.2.1⟩ | exact ⟨hx.qs.1, hx.qs.2, hx.os.2.2.1⟩ | exact ⟨b0.qs.1, b0.qs.2, b0.os.2.2.1⟩) (first | (go_at_call 13; refine (let_two (w := w) (pr := pr) (S := S) (R := S) (E := [(W.heap.size, opo 1 n a b t v), (q, plo p pr)]) ?_ a).mono ?_; exact b0; rintro e wx ⟨hx, rfl⟩) | (go_at_call 13; refine (let_two (w := w) (pr := pr) (S := S) (R := (S.let_ a).2) (E := [(W.heap.size, opo 1 n a b t v), (q, plo p pr)]) ?_ a).mono ?_; exact hy; rintro e wx ⟨hx, rfl⟩) | (go_at_call 50; refine (rlet_two (w := w) (p := p) (S := S) (R := S) (E := [(W.heap.size, opo 1 n a b t v), (q, plo p pr)]) ?_ a).mono ?_; exact b0; rintro e wy ⟨hy, rfl⟩) | (go_at_call 50; refine (rlet_two (w := w) (p := p) (S := (S.let_ a).2) (R := S) (E := [(W.heap.size, opo 1 n a b t v), (q, plo p pr)]) ?_ a).mono ?_; exact hx; rintro e wy ⟨hy, rfl⟩))
  all_goals
    go_wp2_with fail
    go_ret
    exact ⟨rfl, (by first | exact hy.lst | exact hx.lst)⟩
set_option maxRecDepth 100000 in
set_option maxHeartbeats 4000000 in
theorem do2_any (h : Two w p pr S S [(q, plo p pr)] W) (n a b t v : Int) (ha : I64 a) : Calls Try.prog 20 #[.pointer (some ⟨q, 0, none⟩), opv 2 n a b t v] W (DoPost w q p pr (S.put a (t, v)).2) := by
  have hB := Two.alloc h (opo 2 n a b t v)
  have b0 := hB.keep (Below.refl _ _).drew
  have x0 := hB.qs
  have x1 := hB.os
  obtain ⟨x2, x3⟩ := x0
  obtain ⟨x4, x5, x6, x7, x8, x9⟩ := x1
  unfold opo at x2 x3 x4 x5 x6 x7 x8 x9
  unfold opv
  go_enter Try.func20, Try.ntmps20
  go_wp2_with fail
  go_region_held3 (fun W' => W'.cell? ⟨q, 0, none⟩ = some (.pointer (some ⟨p, 0, none⟩)) ∧ W'.cell? ⟨q, 1, none⟩ = some (.pointer (some ⟨pr, 0, none⟩)) ∧ W'.cell? ⟨W.heap.size, 2, none⟩ = some (.int .i64 a) ∧ W'.cell? ⟨W.heap.size, 4, none⟩ = some (.int .i64 t) ∧ W'.cell? ⟨W.heap.size, 5, none⟩ = some (.int .i64 v)) (first | exact ⟨hy.qs.1, hy.qs.2, hy.os.2.2.1, hy.os.2.2.2.2.1, hy.os.2.2.2.2.2⟩ | exact ⟨hx.qs.1, hx.qs.2, hx.os.2.2.1, hx.os.2.2.2.2.1, hx.os.2.2.2.2.2⟩ | exact ⟨b0.qs.1, b0.qs.2, b0.os.2.2.1, b0.os.2.2.2.2.1, b0.os.2.2.2.2.2⟩) (first | (go_at_call 17; refine (put_two (w := w) (pr := pr) (S := S) (R := S) (E := [(W.heap.size, opo 2 n a b t v), (q, plo p pr)]) ?_ a t v).mono ?_; exact b0; rintro e wx ⟨hx, rfl⟩) | (go_at_call 17; refine (put_two (w := w) (pr := pr) (S := S) (R := (S.put a (t, v)).2) (E := [(W.heap.size, opo 2 n a b t v), (q, plo p pr)]) ?_ a t v).mono ?_; exact hy; rintro e wx ⟨hx, rfl⟩) | (go_at_call 51; refine (rput_two (w := w) (p := p) (S := S) (R := S) (E := [(W.heap.size, opo 2 n a b t v), (q, plo p pr)]) ?_ a t v ha).mono ?_; exact b0; rintro e wy ⟨hy, rfl⟩) | (go_at_call 51; refine (rput_two (w := w) (p := p) (S := (S.put a (t, v)).2) (R := S) (E := [(W.heap.size, opo 2 n a b t v), (q, plo p pr)]) ?_ a t v ha).mono ?_; exact hx; rintro e wy ⟨hy, rfl⟩))
  all_goals
    go_wp2_with fail
    go_ret
    exact ⟨rfl, (by first | exact hy.lst | exact hx.lst)⟩
set_option maxRecDepth 100000 in
set_option maxHeartbeats 4000000 in
theorem do4_any (h : Two w p pr S S [(q, plo p pr)] W) (n a b t v : Int) (ha : I64 a) : Calls Try.prog 20 #[.pointer (some ⟨q, 0, none⟩), opv 4 n a b t v] W (DoPost w q p pr (S.drop a n).2) := by
  have hB := Two.alloc h (opo 4 n a b t v)
  have b0 := hB.keep (Below.refl _ _).drew
  have x0 := hB.qs
  have x1 := hB.os
  obtain ⟨x2, x3⟩ := x0
  obtain ⟨x4, x5, x6, x7, x8, x9⟩ := x1
  unfold opo at x2 x3 x4 x5 x6 x7 x8 x9
  unfold opv
  go_enter Try.func20, Try.ntmps20
  go_wp2_with fail
  go_region_held3 (fun W' => W'.cell? ⟨q, 0, none⟩ = some (.pointer (some ⟨p, 0, none⟩)) ∧ W'.cell? ⟨q, 1, none⟩ = some (.pointer (some ⟨pr, 0, none⟩)) ∧ W'.cell? ⟨W.heap.size, 1, none⟩ = some (.int .i64 n) ∧ W'.cell? ⟨W.heap.size, 2, none⟩ = some (.int .i64 a)) (first | exact ⟨hy.qs.1, hy.qs.2, hy.os.2.1, hy.os.2.2.1⟩ | exact ⟨hx.qs.1, hx.qs.2, hx.os.2.1, hx.os.2.2.1⟩ | exact ⟨b0.qs.1, b0.qs.2, b0.os.2.1, b0.os.2.2.1⟩) (first | (go_at_call 18; refine (drop_two (w := w) (pr := pr) (S := S) (R := S) (E := [(W.heap.size, opo 4 n a b t v), (q, plo p pr)]) ?_ a n).mono ?_; exact b0; rintro e wx ⟨hx, rfl⟩) | (go_at_call 18; refine (drop_two (w := w) (pr := pr) (S := S) (R := (S.drop a n).2) (E := [(W.heap.size, opo 4 n a b t v), (q, plo p pr)]) ?_ a n).mono ?_; exact hy; rintro e wx ⟨hx, rfl⟩) | (go_at_call 53; refine (rdrop_two (w := w) (p := p) (S := S) (R := S) (E := [(W.heap.size, opo 4 n a b t v), (q, plo p pr)]) ?_ a n ha).mono ?_; exact b0; rintro e wy ⟨hy, rfl⟩) | (go_at_call 53; refine (rdrop_two (w := w) (p := p) (S := (S.drop a n).2) (R := S) (E := [(W.heap.size, opo 4 n a b t v), (q, plo p pr)]) ?_ a n ha).mono ?_; exact hx; rintro e wy ⟨hy, rfl⟩))
  all_goals
    go_wp2_with fail
    go_ret
    exact ⟨rfl, (by first | exact hy.lst | exact hx.lst)⟩
set_option maxRecDepth 100000 in
set_option maxHeartbeats 4000000 in
theorem do5_any (h : Two w p pr S S [(q, plo p pr)] W) (n a b t v : Int) (hb : I64 b) (ha : I64 a) : Calls Try.prog 20 #[.pointer (some ⟨q, 0, none⟩), opv 5 n a b t v] W (DoPost w q p pr (S.move b a n).2) := by
  have hB := Two.alloc h (opo 5 n a b t v)
  have b0 := hB.keep (Below.refl _ _).drew
  have x0 := hB.qs
  have x1 := hB.os
  obtain ⟨x2, x3⟩ := x0
  obtain ⟨x4, x5, x6, x7, x8, x9⟩ := x1
  unfold opo at x2 x3 x4 x5 x6 x7 x8 x9
  unfold opv
  go_enter Try.func20, Try.ntmps20
  go_wp2_with fail
  go_region_held3 (fun W' => W'.cell? ⟨q, 0, none⟩ = some (.pointer (some ⟨p, 0, none⟩)) ∧ W'.cell? ⟨q, 1, none⟩ = some (.pointer (some ⟨pr, 0, none⟩)) ∧ W'.cell? ⟨W.heap.size, 1, none⟩ = some (.int .i64 n) ∧ W'.cell? ⟨W.heap.size, 2, none⟩ = some (.int .i64 a) ∧ W'.cell? ⟨W.heap.size, 3, none⟩ = some (.int .i64 b)) (first | exact ⟨hy.qs.1, hy.qs.2, hy.os.2.1, hy.os.2.2.1, hy.os.2.2.2.1⟩ | exact ⟨hx.qs.1, hx.qs.2, hx.os.2.1, hx.os.2.2.1, hx.os.2.2.2.1⟩ | exact ⟨b0.qs.1, b0.qs.2, b0.os.2.1, b0.os.2.2.1, b0.os.2.2.2.1⟩) (first | (go_at_call 23; refine (move_two (w := w) (pr := pr) (S := S) (R := S) (E := [(W.heap.size, opo 5 n a b t v), (q, plo p pr)]) ?_ b a n).mono ?_; exact b0; rintro e wx ⟨hx, rfl⟩) | (go_at_call 23; refine (move_two (w := w) (pr := pr) (S := S) (R := (S.move b a n).2) (E := [(W.heap.size, opo 5 n a b t v), (q, plo p pr)]) ?_ b a n).mono ?_; exact hy; rintro e wx ⟨hx, rfl⟩) | (go_at_call 54; refine (rmove_two (w := w) (p := p) (S := S) (R := S) (E := [(W.heap.size, opo 5 n a b t v), (q, plo p pr)]) ?_ b a n hb ha).mono ?_; exact b0; rintro e wy ⟨hy, rfl⟩) | (go_at_call 54; refine (rmove_two (w := w) (p := p) (S := (S.move b a n).2) (R := S) (E := [(W.heap.size, opo 5 n a b t v), (q, plo p pr)]) ?_ b a n hb ha).mono ?_; exact hx; rintro e wy ⟨hy, rfl⟩))
  all_goals
    go_wp2_with fail
    go_ret
    exact ⟨rfl, (by first | exact hy.lst | exact hx.lst)⟩
end
end Go.Proofs.Ytkooogllajmkeaa
/- A region that draws its order in the body of a loop over an iterator: what is shown of it by the unfenced laws holds in the round, too. -/
namespace Go.Proofs.Ytkooogllajmkeaa
open Go.RowKit
section
variable {l n : Nat} {P : Program} {Q : Exit → Act → World → Prop} {ops : Array Oper} {md : Region.Mode}
theorem rowsIn_round {row : String} {args : Array Value} {w : World} {R : Value → World → Prop} (h : Rows P row args w R) : RowsIn (Fence.wide.inRound l) n P row args w R :=
  fun c cs _ => let ⟨v, w', r, s⟩ := h c cs; ⟨v, w', r, stepsIn_wide.2 s⟩
theorem callsIn_round {f : FuncId} {args : Array Value} {w : World} {R : Ending → World → Prop} (h : Calls P f args w R) : CallsIn (Fence.wide.inRound l) n P f args w R :=
  ⟨trivial, fun cs _ => let ⟨e, w', fr, r, s, x⟩ := h cs; ⟨e, w', fr, r, comesIn_wide.2 s, x⟩⟩
theorem oper_round {o : Oper} {a : Act} {w : World} {K K' : Act → World → Prop} (hd : ∀ c, o.op ≠ .defer c) (hK : ∀ a w, K a w → K' a w) (h : o.wp P a w K Q) : o.wpIn (Fence.wide.inRound l) n P a w K' Q := by
  unfold Oper.wp at h
  unfold Oper.wpIn
  refine ⟨fun _ _ => trivial, ?_⟩
  rw [Oper.semAt_eq _ _ _ hd]
  generalize (execOp a.eval o).run P w = r at h
  cases r with
  | ok x w' =>
    cases x <;> simp only [Oper.upon, Oper.uponIn] at h ⊢
    case enter f args => exact ⟨(fun q => by cases q), callsIn_round (h.mono (fun e w'' he => by cases e <;> first | exact hK _ _ he | exact he))⟩
    case row row args => exact ⟨(fun q => by cases q), rowsIn_round (h.mono (fun _ _ he => hK _ _ he))⟩
    all_goals exact hK _ _ h
  | halt x w' => cases x <;> simp only [Oper.upon, Oper.uponIn] at h ⊢ <;> exact h
theorem any_round (hL : ¬ LetsOut Q) (hd : ∀ (i : Nat) (o : Oper) c, ops[i]? = some o → o.op ≠ .defer c) : ∀ (fuel : Nat) (listed : Array Bool) (a : Act) (w : World), wpAny P md ops Q fuel listed a w → wpAnyIn (Fence.wide.inRound l) n P md ops Q fuel listed a w
  | 0, _, _, _, h => h
  | fuel + 1, listed, a, w, h => by
    refine ⟨h.1, fun i hi => ?_⟩
    have h2 := h.2 i hi
    unfold wpOp at h2
    unfold wpOpIn
    cases ho : ops[i]? with
    | none => rw [ho] at h2; exact any_round hL hd fuel _ _ _ h2
    | some o =>
      rw [ho] at h2
      simp only at h2 ⊢
      by_cases hw : Region.wanted o (yielded ops a.tmps) = true
      · rw [if_pos hw] at h2 ⊢
        rcases h2 with h2 | h2
        · exact oper_round (hd i o · ho) (fun a w q => any_round hL hd fuel _ a w q) h2
        · exact absurd h2.2 hL
      · rw [if_neg hw] at h2 ⊢
        exact ⟨fun _ _ => trivial, any_round hL hd fuel _ _ _ h2⟩
theorem no_defer (h : ops.all (fun o => match o.op with | .defer _ => false | _ => true) = true) (i : Nat) (o : Oper) (c : _) (ho : ops[i]? = some o) : o.op ≠ .defer c := by
  intro e
  obtain ⟨hi, rfl⟩ := Array.getElem?_eq_some_iff.1 ho
  have := Array.all_eq_true.1 h i hi
  rw [e] at this
  cases this
theorem region_round {id : Nat} {S : World → Prop} {a : Act} {w : World} (hm : P.follows .mixedOrders = true) (hL : ¬ LetsOut Q) (hd : ∀ (i : Nat) (o : Oper) c, ops[i]? = some o → o.op ≠ .defer c) (hS : S w.drew)
    (h : S w.drew → wpAnyH P .any ops Q S ops.size (Array.replicate ops.size false) a w.drew) : (Code.region id ops true).wpIn (Fence.wide.inRound l) n P Q a w :=
  wpIn_region_any hm (any_round hL hd _ _ _ _ (wpAny_of_held _ _ _ _ (h hS)))
end
end Go.Proofs.Ytkooogllajmkeaa
/- The document's Copy. -/
namespace Go.Proofs.Ytkooogllajmkeaa
open Go.RowKit
set_option pp.deepTerms true
/-- a copy on its way: ls' are those that lie there -/
def CpAt (w : World) (C : Nat) (last : Int) (rv tv : Value) (ls ls' : List LReg) (W : World) : Prop :=
  W.heap[C]? = some (.cells #[rv, tv, .int .i64 last] 56 (0, 0)) ∧ W.ownsRow w.heap.size 39 2 rv ls.length (gcells ls) ∧ W.ownsRow w.heap.size 62 1 tv ls'.length (ls'.map LReg.sl) ∧
  (∀ r ∈ ls', W.ownsRow w.heap.size 29 2 r.sl r.words.length (wcells r.words)) ∧ (rfoot C rv tv ls').Nodup ∧ w.heap.size ≤ C ∧ Below w.heap.size w W
section
variable {w W : World} {C : Nat} {last : Int} {rv tv : Value} {ls ls' : List LReg}
theorem CpAt.lt (h : CpAt w C last rv tv ls ls' W) : ∀ b ∈ rfoot C rv tv ls', w.heap.size ≤ b ∧ b < W.heap.size := by
  obtain ⟨h1, h2, h3, h4, h5, h6, h7⟩ := h
  intro b hb
  simp only [rfoot, List.mem_cons, List.mem_append, Option.mem_toList, List.mem_map] at hb
  rcases hb with rfl | hb | hb | ⟨r, hr, rfl⟩
  · exact ⟨h6, lt_of_heap h1⟩
  · exact h2.lt b hb
  · exact h3.lt b hb
  · exact (h4 r hr).lt r.wb rfl
theorem cp_step (h : CpAt w C last rv tv ls ls' W) {base : Int} {ws : List (Int × Int)} {g cap g2 cap2 : Nat} {w1 w2 : World} {ob : Obj}
    (hn1 : w1.ownsRow w.heap.size 29 2 (.slice (some ⟨g, 0, none⟩) ws.length cap) ws.length (wcells ws)) (hg1 : W.grownBy w1 none) (hgg : g = W.heap.size)
    (hn2 : w2.ownsRow w.heap.size 62 1 (.slice (some ⟨g2, 0, none⟩) (ls'.length + 1) cap2) (ls'.length + 1) (ls'.map LReg.sl ++ [.slice (some ⟨g, 0, none⟩) ws.length cap]))
    (hg2 : (w1.alloc ob).grownBy w2 tv.ownBlock) (hat : tv.ownBlock = some g2 ∨ g2 = w1.heap.size + 1) :
    CpAt w C last rv (.slice (some ⟨g2, 0, none⟩) (ls'.length + 1) cap2) ls (ls' ++ [⟨base, g, cap, ws⟩]) (w2.setCell ⟨C, 1, none⟩ (.slice (some ⟨g2, 0, none⟩) (ls'.length + 1) cap2)) := by
  have hlt := h.lt
  obtain ⟨h1, h2, h3, h4, h5, h6, h7⟩ := h
  have hd0 := List.nodup_cons.1 h5
  have hd1 := List.nodup_append.1 hd0.2
  have hd2 := List.nodup_append.1 hd1.2.1
  have s1 := hg1.size
  have s2 := hg2.size
  simp only [World.size_alloc] at s2
  have gl := hn1.lt g rfl
  have hCl := lt_of_heap h1
  have hCt : tv.ownBlock ≠ some C := fun e => hd0.1 (List.mem_append.2 (.inr (List.mem_append.2 (.inl (by simp [e])))))
  have hCr : rv.ownBlock ≠ some C := fun e => hd0.1 (List.mem_append.2 (.inl (by simp [e])))
  have htl : ∀ x, tv.ownBlock = some x → x < W.heap.size := fun x e => (hlt x (by simp [rfoot, e])).2
  have hrt : ∀ x, rv.ownBlock = some x → tv.ownBlock ≠ some x := fun x e e2 => hd1.2.2 x (by simp [e]) x (List.mem_append.2 (.inl (by simp [e2]))) rfl
  have hwt : ∀ r ∈ ls', tv.ownBlock ≠ some r.wb := fun r hr e => hd2.2.2 r.wb (by simp [e]) r.wb (List.mem_map.2 ⟨r, hr, rfl⟩) rfl
  have hrw : ∀ r ∈ ls', rv.ownBlock ≠ some r.wb := fun r hr e => hd1.2.2 r.wb (by simp [e]) r.wb (List.mem_append.2 (.inr (List.mem_map.2 ⟨r, hr, rfl⟩))) rfl
  have hwC : ∀ r ∈ ls', r.wb ≠ C := fun r hr e => hd0.1 (List.mem_append.2 (.inr (List.mem_append.2 (.inr (List.mem_map.2 ⟨r, hr, e⟩)))))
  have hwl : ∀ r ∈ ls', r.wb < W.heap.size := fun r hr => ((h4 r hr).lt r.wb rfl).2
  have hg2C : g2 ≠ C := by
    rcases hat with e | e
    · rintro rfl; exact hCt e
    · omega
  have hh2 : w2.heap[C]? = some (.cells #[rv, tv, .int .i64 last] 56 (0, 0)) := (hg2.block C (by simp; omega) (fun e => hCt e.symm)).trans ((Below.heap_alloc _ _ _ (by omega)).trans ((hg1.block C hCl (by simp)).trans h1))
  have keep : ∀ (T1 z : Nat) (v : Value) (n : Nat) (xs : List Value), w1.ownsRow w.heap.size T1 z v n xs → (∀ x, v.ownBlock = some x → tv.ownBlock ≠ some x ∧ x ≠ C) →
      (w2.setCell ⟨C, 1, none⟩ (.slice (some ⟨g2, 0, none⟩) (ls'.length + 1) cap2)).ownsRow w.heap.size T1 z v n xs := by
    intro T1 z v n xs ho hx
    cases hv : v.ownBlock with
    | none => exact ownsRow_setCell_other ((ho.alloc ob).kept hg2 (.inl hv)) (by rw [hv]; simp) _
    | some x => exact ownsRow_setCell_other ((ho.alloc ob).kept hg2 (.inr (by rw [hv]; exact Ne.symm (hx x hv).1))) (by rw [hv]; simpa using (hx x hv).2) _
  have k1 : ∀ (T1 z : Nat) (v : Value) (n : Nat) (xs : List Value), W.ownsRow w.heap.size T1 z v n xs → w1.ownsRow w.heap.size T1 z v n xs := fun T1 z v n xs ho => ho.kept hg1 (by cases v.ownBlock <;> simp)
  refine ⟨?_, ?_, ?_, ?_, ?_, h6, ?_⟩
  · have := heap_setCell_same w2 C 1 _ _ (.slice (some ⟨g2, 0, none⟩) (ls'.length + 1) cap2) hh2
    simpa using this
  · exact keep _ _ _ _ _ (k1 _ _ _ _ _ h2) (fun x hx => ⟨hrt x hx, fun e => hCr (e ▸ hx)⟩)
  · rw [List.map_append, List.length_append]
    exact ownsRow_setCell_other hn2 (by simp [Value.ownBlock, hg2C]) _
  · intro r hr
    rcases List.mem_append.1 hr with hr | hr
    · refine keep _ _ _ _ _ (k1 _ _ _ _ _ (h4 r hr)) (fun x hx => ?_)
      simp only [LReg.sl, Value.ownBlock, Option.some.injEq] at hx
      subst hx
      exact ⟨hwt r hr, hwC r hr⟩
    · obtain rfl : r = _ := by simpa using hr
      refine keep _ _ _ _ _ hn1 (fun x hx => ?_)
      simp only [LReg.sl, Value.ownBlock, Option.some.injEq] at hx
      subst hx
      exact ⟨fun e => by have := htl _ e; omega, by omega⟩
  · have hgr : rv.ownBlock ≠ some g := fun e => by have := (hlt g (by simp [rfoot, e])).2; omega
    have hg2r : rv.ownBlock ≠ some g2 := fun e => by
      rcases hat with q | q
      · exact hrt g2 e q
      · have := (hlt g2 (by simp [rfoot, e])).2; omega
    have hg2g : g2 ≠ g := by
      rcases hat with q | q
      · have := htl g2 q; omega
      · omega
    have hg2w : ∀ r ∈ ls', g2 ≠ r.wb := fun r hr e => by
      rcases hat with q | q
      · exact hwt r hr (e ▸ q)
      · have := hwl r hr; omega
    simp only [rfoot, Value.ownBlock, Option.toList_some, List.map_append, List.map_cons, List.map_nil]
    refine List.nodup_cons.2 ⟨?_, List.nodup_append.2 ⟨hd1.1, List.nodup_append.2 ⟨by simp, List.nodup_append.2 ⟨hd2.2.1, by simp, ?_⟩, ?_⟩, ?_⟩⟩
    · intro q
      simp only [List.mem_append, List.mem_singleton, Option.mem_toList, List.mem_map] at q
      rcases q with q | q | ⟨r, hr, q⟩ | q
      · exact hCr q
      · exact hg2C q.symm
      · exact hwC r hr q
      · omega
    · intro x hx y hy e
      simp only [List.mem_singleton] at hy
      obtain ⟨r, hr, rfl⟩ := List.mem_map.1 hx
      have := hwl r hr; omega
    · intro x hx y hy e
      simp only [List.mem_singleton] at hx
      subst hx
      rcases List.mem_append.1 hy with q | q
      · obtain ⟨r, hr, rfl⟩ := List.mem_map.1 q
        exact hg2w r hr e
      · simp only [List.mem_singleton] at q; subst q; exact hg2g e
    · intro x hx y hy e
      subst e
      simp only [Option.mem_toList] at hx
      rcases List.mem_append.1 hy with q | q
      · simp only [List.mem_singleton] at q; subst q; exact hg2r hx
      · rcases List.mem_append.1 q with q | q
        · obtain ⟨r, hr, rfl⟩ := List.mem_map.1 q
          exact hrw r hr hx
        · simp only [List.mem_singleton] at q; subst q; exact hgr hx
  · refine Below.setCell (p := ⟨C, 1, none⟩) (Below.grown (Below.alloc (Below.grown h7 hg1 h7.size (by simp)) ?_ ob) hg2 ?_ ?_) h6 _
    · have := h7.size; omega
    · have := h7.size; simp; omega
    · intro x hx; exact (hlt x (by simp [rfoot, hx])).1
theorem cp_done (h : CpAt w C last rv tv ls ls' W) (hr : ls'.map LReg.reg = ls.map LReg.reg) (ok : RegsOk last ls) (hwd : Words ls) : RSpc W C ⟨ls.map LReg.reg, last⟩ (rfoot C rv tv ls') := by
  obtain ⟨h1, h2, h3, h4, h5, h6, h7⟩ := h
  have hl : ls'.length = ls.length := by have := congrArg List.length hr; simpa using this
  have hb : ∀ i (h : i < ls.length), ls'[i].base = ls[i].base ∧ ls'[i].words = ls[i].words := fun i hi => by
    have := congrArg (fun l => l[i]?) hr
    simp only [List.getElem?_map, List.getElem?_eq_getElem (show i < ls'.length by omega), List.getElem?_eq_getElem hi, Option.map_some, Option.some.injEq, LReg.reg, Reg.mk.injEq] at this
    exact this
  refine ⟨rv, tv, ls', ⟨h1, ?_, h3.mono (Nat.zero_le _), fun r hr => (h4 r hr).mono (Nat.zero_le _), h5⟩, ?_, ?_, hr.symm, rfl⟩
  · rw [hl, gcells_tells, hr, ← gcells_tells]
    exact h2.mono (Nat.zero_le _)
  · refine ⟨?_, ?_, ok.last0, ok.last1, ?_⟩
    · intro r hr'
      obtain ⟨i, hi, rfl⟩ := List.getElem_of_mem hr'
      have := ok.lo _ (List.getElem_mem (show i < ls.length by omega))
      rw [(hb i (by omega)).1, (hb i (by omega)).2]
      exact this
    · refine List.pairwise_iff_getElem.2 (fun i j hi hj hij => ?_)
      rw [(hb i (by omega)).1, (hb i (by omega)).2, (hb j (by omega)).1]
      exact List.pairwise_iff_getElem.1 ok.sep i j (by omega) (by omega) hij
    · have e : ls'.map (fun r => r.words.length) = ls.map (fun r => r.words.length) := by
        have := congrArg (List.map (fun r : Reg => r.words.length)) hr
        simpa [LReg.reg, Function.comp_def] using this
      rw [show (ls'.map (·.words.length)) = _ from e]
      exact ok.live
  · intro r hr' v hv
    obtain ⟨i, hi, rfl⟩ := List.getElem_of_mem hr'
    rw [(hb i (by omega)).2] at hv
    exact hwd _ (List.getElem_mem (show i < ls.length by omega)) v hv
end
end Go.Proofs.Ytkooogllajmkeaa
