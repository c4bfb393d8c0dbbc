/- The contract of Let: a region is let go. -/
import Derived.Test.YtkooogllajmkeaaTk
import Derived.Deep.RegionLaw
import Derived.RegionTactic
import Derived.BigRegion
namespace Go.Proofs.Ytkooogllajmkeaa
open Go.RowKit

theorem row_append {P : Program} {w : World} {base : Nat} {e : TypeId} {size g n cap : Nat} {xs : List Value} (h : w.ownsRow base e size (.slice (some ⟨g, 0, none⟩) n cap) n xs)
    (t ty : TypeId) (i : TypeInfo) (ht : P.underlying t = some (.slice e)) (hi : P.info? e = some i) (hz : i.size = size) (l : Nat)
    (ad : Addr) (m c : Nat) (news : List Value) (hl : news.length = m * size) (hnews : ∀ j u, news[j]? = some u → w.cell? (ad.add j) = some u) (h1 : ∀ u ∈ news, u.oneCell' = true) (hfit : l + m ≤ n) :
    ∃ w', (Builtin.append_ #[t, t] ty #[.slice (some ⟨g, 0, none⟩) l cap, .slice (some ad) m c]).run P w = .ok (.slice (some ⟨g, 0, none⟩) (l + m) cap) w' ∧
      w'.ownsRow base e size (.slice (some ⟨g, 0, none⟩) n cap) n (splice xs (l * size) news) ∧ w.grownBy w' (some g) := by
  obtain ⟨hx, q | ⟨g', cap', cur, hv, hb, hg, hn, hm, hs, htk⟩⟩ := h
  · simp at q
  · simp only [Value.slice.injEq, Option.some.injEq, Addr.mk.injEq, and_true, true_and] at hv
    obtain ⟨rfl, rfl⟩ := hv
    subst hz
    have hnc : n * i.size ≤ cap * i.size := Nat.mul_le_mul_right _ hn
    have hlm : (l + m) * i.size ≤ n * i.size := Nat.mul_le_mul_right _ hfit
    rw [Nat.add_mul] at hlm
    have hr := run_append_room (P := P) w t ty e i ht hi g l cap cur hg ad m c news hl hnews h1 (by omega) (by rw [hs, hl]; omega)
    refine ⟨_, hr, ⟨by rw [length_splice' _ _ _ (by omega)]; exact hx, .inr ⟨g, cap, _, rfl, hb, setRow_heap w g _ _ e _ hg, hn, hm, ?_, ?_⟩⟩, ⟨rfl, rfl, rfl, by simp [World.setRow], fun k _ hk => setRow_other w g k _ (fun q => hk (by rw [q]))⟩⟩
    · simp only [List.size_toArray, List.length_append, List.length_take, List.length_drop, Array.length_toList]; omega
    · subst htk
      simp only [splice, List.take_append, List.take_take, List.length_take, List.length_append, Array.length_toList, List.drop_take, hs]
      have hc : cur.toList.length = cap * i.size := by simp [hs]
      rw [Nat.min_eq_right (by omega), Nat.min_eq_left (by omega), Nat.min_eq_left (by omega), List.take_of_length_le (l := news) (by omega), List.append_assoc]

theorem step_append_in {P : Program} {w : World} {base : Nat} {e : TypeId} {size g n cap : Nat} {xs : List Value} {ops : Array Oper} {o : Oper} {a : Act} {K : Act → World → Prop} {Q : Exit → Act → World → Prop} {E : Prop} (hgd : o.guard = none) (s x : Operand) (t : TypeId)
    (ho : o.op = .call { callee := .builtin .append, args := #[s, x], argTypes := #[t, t] }) (i : TypeInfo) (ht : P.underlying t = some (.slice e)) (hi : P.info? e = some i) (hz : i.size = size)
    (h : w.ownsRow base e size (.slice (some ⟨g, 0, none⟩) n cap) n xs) (l : Nat) (hs : a.eval s = .slice (some ⟨g, 0, none⟩) l cap)
    (ad : Addr) (m c : Nat) (news : List Value) (hx : a.eval x = .slice (some ad) m c) (hl : news.length = m * size) (hnews : ∀ j u, news[j]? = some u → w.cell? (ad.add j) = some u) (h1 : ∀ u ∈ news, u.oneCell' = true) (hfit : l + m ≤ n)
    (hK : ∀ w', w'.ownsRow base e size (.slice (some ⟨g, 0, none⟩) n cap) n (splice xs (l * size) news) → w.grownBy w' (some g) → K (a.put o.dst (.slice (some ⟨g, 0, none⟩) (l + m) cap)) w') :
    if Region.wanted o (yielded ops a.tmps) = true then Oper.wp P o a w K Q else E := by
  have hw : Region.wanted o (yielded ops a.tmps) = true := by simp [Region.wanted, hgd]
  rw [if_pos hw]
  obtain ⟨w', hrun, r1, r2⟩ := row_append (P := P) h t o.type i ht hi hz l ad m c news hl hnews h1 hfit
  unfold Oper.wp
  simp [execOp, ho, resolve, invoke, builtin, hs, hx, hrun, Result.andThen]
  exact hK w' r1 r2

theorem zeroG (w : World) : (zeroValue 100).run Try.prog w = .ok (.agg #[.int .i64 0, .slice none 0 0]) w := by kernel_rfl

theorem zeroG1 : (Builtin.zeroCells (Value.agg #[Value.int .i64 0, .slice none 0 0]).cells 1).toList = [Value.int .i64 0, .slice none 0 0] := by simp [Builtin.zeroCells, Value.cells, Array.range, Array.toList_ofFn, List.ofFn_succ]
/-- what is left behind a region's going -/
def DelPost (B cap i r : Nat) (xs : List Value) (w : World) (e : Ending) (w' : World) : Prop :=
  w'.ownsRow 0 100 2 (.slice (some ⟨B, 0, none⟩) (i + r) cap) (i + r) (xs.take (i * 2) ++ xs.drop ((i + 1) * 2)) ∧ Kp [B] w w' ∧ e = .returned (.slice (some ⟨B, 0, none⟩) (i + r) cap)

theorem row_cut {w : World} {base : Nat} {e : TypeId} {size g n m cap : Nat} {xs : List Value} (h : w.ownsRow base e size (.slice (some ⟨g, 0, none⟩) n cap) n xs) (hm : m ≤ n) : w.ownsRow base e size (.slice (some ⟨g, 0, none⟩) m cap) m (xs.take (m * size)) := by
  obtain ⟨hx, q | ⟨g', cap', cur, hv, hb, hg, hn, hmx, hs, ht⟩⟩ := h
  · simp at q
  · simp only [Value.slice.injEq, Option.some.injEq, Addr.mk.injEq, and_true, true_and] at hv
    obtain ⟨rfl, rfl⟩ := hv
    have hle : m * size ≤ n * size := Nat.mul_le_mul_right _ hm
    refine ⟨by rw [List.length_take]; omega, .inr ⟨g, cap, cur, rfl, hb, hg, by omega, hmx, hs, ?_⟩⟩
    rw [← ht, List.take_take, Nat.min_eq_left hle]

theorem del_take {xs : List Value} {i r : Nat} (hx : xs.length = (i + 1 + r) * 2) (zs : List Value) : (splice (splice xs (i * 2) (xs.drop ((i + 1) * 2))) ((i + r) * 2) zs).take ((i + r) * 2) = xs.take (i * 2) ++ xs.drop ((i + 1) * 2) := by
  unfold splice
  have h1 : (xs.take (i * 2) ++ xs.drop ((i + 1) * 2)).length = (i + r) * 2 := by simp; omega
  have h2 : (xs.take (i * 2) ++ (xs.drop ((i + 1) * 2) ++ xs.drop (i * 2 + (xs.drop ((i + 1) * 2)).length))).take ((i + r) * 2) = xs.take (i * 2) ++ xs.drop ((i + 1) * 2) := by
    rw [← List.append_assoc, List.take_append_of_le_length (by omega), List.take_of_length_le (by omega)]
  rw [h2, List.take_append_of_le_length (by omega), List.take_of_length_le (by omega)]

set_option maxRecDepth 100000 in
set_option maxHeartbeats 2000000 in
theorem delReg_any {w : World} {B cap i r : Nat} {xs : List Value} (h : w.ownsRow 0 100 2 (.slice (some ⟨B, 0, none⟩) (i + 1 + r) cap) (i + 1 + r) xs) (_hn : i + 1 + r ≤ 4194304) (hone : ∀ u ∈ xs, u.oneCell' = true) :
    Calls Try.prog 45 #[.slice (some ⟨B, 0, none⟩) (i + 1 + r) cap, .int .i64 i, .int .i64 (i + 1)] w (DelPost B cap i r xs w) := by
  obtain ⟨i0, hi0, hz0, hz1, hz2⟩ := info_parts infoG
  have hcap : i + 1 + r ≤ cap := by
    rcases h.2 with ⟨q, _⟩ | ⟨_, _, _, q, _, _, hc, _⟩
    · simp at q
    · simp at q; omega
  have hne : ((i : Int) == (i : Int) + 1) = false := by simp; omega
  obtain ⟨A, hA, hnews⟩ : ∃ A : Addr, (if cap = i + 1 then some (⟨B, 0, none⟩ : Addr) else some ⟨B, (i + 1) * 2, none⟩) = some A ∧ Hid (∀ j u, (xs.drop ((i + 1) * 2))[j]? = some u → w.cell? (A.add j) = some u) := by
    by_cases hc : cap = i + 1
    · refine ⟨_, by rw [if_pos hc], fun j u hu => ?_⟩
      rw [List.drop_of_length_le (by rw [h.1]; omega)] at hu
      simp at hu
    · refine ⟨_, by rw [if_neg hc], fun j u hu => ?_⟩
      have hadd : (⟨B, (i + 1) * 2, none⟩ : Addr).add j = ⟨B, (i + 1) * 2 + j, none⟩ := by unfold Addr.add; split <;> simp_all
      rw [hadd]
      rw [List.getElem?_drop] at hu
      exact row_cell h hu
  have HL : Hid ((xs.drop ((i + 1) * 2)).length = r * 2) := by unfold Hid; rw [List.length_drop, h.1]; omega
  have HO1 : Hid (∀ u ∈ xs.drop ((i + 1) * 2), u.oneCell' = true) := fun u hu => hone u (List.mem_of_mem_drop hu)
  have HX := Hid.mk h.1
  have HH := Hid.mk h
  clear hone h
  have b1 : (i : Int) + 1 ≤ (i : Int) + 1 + r := by omega
  have b3 : (i : Int) + 1 ≤ cap := by omega
  have b0 : i ≤ cap := by omega
  have b4 : i + 1 ≤ i + 1 + r := by omega
  have b5 : i + 1 ≤ cap := by omega
  have b6 : (0 : Int) ≤ (i : Int) + 1 := by omega
  have b7 : i + r ≤ i + 1 + r := by omega
  have b8 : 1 ≤ i + 1 + r - (i + r) := by omega
  go_enter Try.func45, Try.ntmps45
  go_wp2
  go_region_law (refine step_append_in rfl (.tmp 22) (.tmp 25) 25 rfl i0 Try.underlying25 hi0 hz1 HH.out.drew i (by simp [Act.eval, Act.put]) A r (cap - (i + 1)) (xs.drop ((i + 1) * 2)) (by simp [Act.eval, Act.put]) HL.out hnews.out HO1.out b7 ?_; intro w2 hr2 hg2)
  go_wp2_with (with_reducible refine wpList_clear_row rfl (.tmp 31) 25 rfl Try.underlying25 (.agg #[.int .i64 0, .slice none 0 0]) zeroG ((i + r) * 2) (i + 1 + r - (i + r)) (cap - (i + r)) rfl b8 hr2 [.int .i64 0, .slice none 0 0] ?c0 ?c1 ?c2 ?_)
  case c0 => rw [show i + 1 + r - (i + r) = 1 by omega]; exact zeroG1
  case c1 => simp; omega
  case c2 => intro u hu; simp only [List.mem_cons, List.not_mem_nil, or_false] at hu; obtain rfl | rfl := hu <;> rfl
  intro w3 hr3 hg3
  go_wp2
  go_ret
  refine ⟨?_, ?_, rfl⟩
  · have := row_cut hr3 (m := i + r) (by omega)
    rwa [del_take HX.out] at this
  · exact ((((Kp.refl _ _).drew).grown hg2 (by intro q hq; simp at hq; exact .inl (by simp [hq])))).grown hg3 (by intro q hq; simp at hq; exact .inl (by simp [hq]))

/-- regions as cells are each of one cell -/
theorem rcells_one (ls : List LReg) : ∀ u ∈ rcells ls, u.oneCell' = true := by
  intro u hu
  simp only [rcells, List.mem_flatMap, LReg.cells, List.mem_cons, List.not_mem_nil, or_false] at hu
  obtain ⟨v, _, rfl | rfl⟩ := hu <;> rfl
theorem rcells_erase {ls : List LReg} {i : Nat} : rcells (ls.eraseIdx i) = (rcells ls).take (i * 2) ++ (rcells ls).drop ((i + 1) * 2) := by
  induction ls generalizing i with
  | nil => simp [rcells]
  | cons a l ih =>
    cases i with
    | zero => simp [rcells, LReg.cells]
    | succ i =>
      have := ih (i := i)
      simp only [rcells, List.eraseIdx_cons_succ, List.flatMap_cons] at this ⊢
      rw [this, show (i + 1) * 2 = i * 2 + 2 by omega, show (i + 1 + 1) * 2 = i * 2 + 2 + 2 by omega]
      simp only [LReg.cells, List.cons_append, List.nil_append, List.take_succ_cons, List.drop_succ_cons]

theorem SpAt.erase {w w' : World} {p B cap cap' : Nat} {last : Int} {ls : List LReg} {i : Nat} (h : SpAt w p last (.slice (some ⟨B, 0, none⟩) ls.length cap) ls) (hi : i < ls.length) (k : Kp [p, B] w w')
    (hhead : w'.heap[p]? = some (.cells #[.slice (some ⟨B, 0, none⟩) (ls.length - 1) cap', .int .i64 last] 27 (0, 0)))
    (hrow : w'.ownsRow 0 100 2 (.slice (some ⟨B, 0, none⟩) (ls.length - 1) cap') (ls.length - 1) (rcells (ls.eraseIdx i))) :
    SpAt w' p last (.slice (some ⟨B, 0, none⟩) (ls.length - 1) cap') (ls.eraseIdx i) := by
  have hnd := h.nodup
  have hsub : ((ls.eraseIdx i).map (·.wb)).Sublist (ls.map (·.wb)) := (List.eraseIdx_sublist ls i).map _
  refine ⟨hhead, by rw [List.length_eraseIdx_of_lt hi]; exact hrow, ?_, ?_⟩
  · intro r hr
    have hr' := List.mem_of_mem_eraseIdx hr
    refine k.row (h.words r hr') ?_
    intro g hg
    simp [Value.ownBlock] at hg
    subst hg
    have h1 : r.wb ∈ ls.map (·.wb) := List.mem_map.2 ⟨r, hr', rfl⟩
    intro q
    simp only [List.mem_cons, List.not_mem_nil, or_false] at q
    rcases q with q | q
    · exact (List.nodup_cons.1 hnd).1 (List.mem_append.2 (.inr (q ▸ h1)))
    · exact (List.nodup_append.1 (List.nodup_cons.1 hnd).2).2.2 B (by simp [Value.ownBlock]) _ h1 q.symm
  · unfold foot at hnd ⊢
    exact hnd.sublist (((List.Sublist.refl _).append hsub).cons_cons p)
theorem foot_erase {p B cap cap' n m i : Nat} {ls : List LReg} : ∀ b ∈ foot p (.slice (some ⟨B, 0, none⟩) n cap) (ls.eraseIdx i), b ∈ foot p (.slice (some ⟨B, 0, none⟩) m cap') ls := by
  intro b hb
  unfold foot at hb ⊢
  exact (((List.Sublist.refl _).append ((List.eraseIdx_sublist ls i).map _)).cons_cons p).subset hb
theorem sum_sub {a b : List Nat} (h : a.Sublist b) : a.sum ≤ b.sum := by
  induction h with
  | slnil => simp
  | cons x _ ih => simp only [List.sum_cons]; omega
  | cons_cons x _ ih => simp only [List.sum_cons]; omega
theorem hasB_uniq {last : Int} {ls : List LReg} (ok : RegsOk last ls) {i j : Nat} (hi : i < ls.length) (hj : j < ls.length) {a m m' : Int} (h1 : hasB ls[i].base ls[i].words.length a m = true) (h2 : hasB ls[j].base ls[j].words.length a m' = true) : i = j := by
  obtain ⟨a1, a2, _⟩ := hasB_iff.1 h1
  obtain ⟨b1, b2, _⟩ := hasB_iff.1 h2
  rcases Nat.lt_trichotomy i j with q | q | q
  · have := ok.mono i j q hj; omega
  · exact q
  · have := ok.mono j i q hi; omega
theorem RegsOk.erase {last : Int} {ls : List LReg} (h : RegsOk last ls) (i : Nat) : RegsOk last (ls.eraseIdx i) := by
  have hs := List.eraseIdx_sublist ls i
  refine ⟨fun r hr => h.lo r (hs.subset hr), h.sep.sublist hs, h.last0, h.last1, Nat.le_trans ?_ h.live⟩
  have h2 := hs.map (fun r : LReg => r.words.length)
  exact sum_sub h2
def LetPost (p : Nat) (last : Int) (sl : Value) (ls : List LReg) (a : Int) (w : World) (e : Ending) (w' : World) : Prop :=
  (∃ (i : Nat) (hi : i < ls.length) (sl' : Value), ls[i].base = a ∧ SpAt w' p last sl' (ls.eraseIdx i) ∧ Kp (foot p sl ls) w w' ∧ (∀ b ∈ foot p sl' (ls.eraseIdx i), b ∈ foot p sl ls) ∧ e = .returned (.int .i64 0)) ∨
  ((∀ (i : Nat) (hi : i < ls.length), ls[i].base ≠ a) ∧ Below w.heap.size w w' ∧ e = .returned (.int .i64 211))
set_option maxRecDepth 100000 in
set_option maxHeartbeats 1000000 in
theorem let_any {w : World} {p : Nat} {last : Int} {sl : Value} {ls : List LReg} (h : SpAt w p last sl ls) (ok : RegsOk last ls) (a : Int) :
    Calls Try.prog 13 #[.pointer (some ⟨p, 0, none⟩), .int .i64 a] w (LetPost p last sl ls a w) := by
  have HF := Hid.mk (find_any h ok a 1)
  have hhas : ∀ (i : Nat) (hi : i < ls.length), hasB ls[i].base ls[i].words.length ls[i].base 1 = true := fun i hi => hasB_iff.2 (by have := ok.lo _ (List.getElem_mem hi); omega)
  go_enter Try.func13, Try.ntmps13
  go_wp2_with fail
  refine HF.out.mono ?_
  clear HF
  rintro e w1 ⟨hb, ⟨i, hi, hh, _, rfl⟩ | ⟨hno, rfl⟩⟩
  · have h1 := h.below hb
    rcases h1.shape with ⟨rfl, rfl⟩ | ⟨B, cap, rfl, hcap⟩
    · exact absurd hi (by simp)
    have hx := h1.base hi
    have hy := h1.wslice hi
    have hz := h1.cell0
    have hn := ok.count
    by_cases hba : ls[i].base = a
    · subst hba
      clear hh hhas
      have hne : (ls[i].base != ls[i].base) = false := by simp
      obtain ⟨r, hr⟩ : ∃ r, ls.length = i + 1 + r := ⟨ls.length - (i + 1), by omega⟩
      have HD := Hid.mk (delReg_any (i := i) (r := r) (cap := cap) (by rw [← hr]; exact h1.row) (by omega) (rcells_one ls))
      rw [← hr] at HD
      have HR := Hid.mk hr
      clear hr
      go_wp2_with fail
      refine HD.out.mono ?_
      clear HD
      rintro e w2 ⟨hrow2, hk2, rfl⟩
      have hpB : p ∉ [B] := by
        have := (List.nodup_cons.1 h1.nodup).1
        intro q
        simp only [List.mem_singleton] at q
        exact this (List.mem_append.2 (.inl (by simp [Value.ownBlock, q])))
      have hhd := hk2.at h1.head hpB
      have d0 : w2.cell? ⟨p, 0, none⟩ = some (.slice (some ⟨B, 0, none⟩) ls.length cap) := by rw [cell_of_row w2 p 0 _ _ _ hhd]; rfl
      have f0 := frozen_of_row w2 p 0 _ _ hhd
      have hir : i + r = ls.length - 1 := by have := HR.out; omega
      rw [hir] at hrow2 ⊢
      rw [← rcells_erase] at hrow2
      have HROW := Hid.mk hrow2
      clear hrow2 hir
      go_wp2
      go_ret
      refine .inl ⟨i, hi, _, rfl, h1.erase (cap' := cap) hi ?_ ?_ ?_, ?_, foot_erase, rfl⟩
      · exact (hk2.mono (by simp)).setCell (.inl (by simp)) _
      · rw [heap_setCell_same w2 p 0 _ _ _ hhd]; rfl
      · exact ownsRow_setCell_other HROW.out (by simp only [Value.ownBlock, ne_eq, Option.some.injEq]; intro q; exact hpB (by simp [q])) _
      · refine (Kp.of_below hb _).trans (((hk2.mono (gs := [B, p]) (by simp)).setCell (.inl (by simp)) _)) ?_
        intro x hx
        refine .inl ?_
        simp only [List.mem_cons, List.not_mem_nil, or_false] at hx
        rcases hx with rfl | rfl
        · simp [foot, Value.ownBlock]
        · simp [foot]
    · have hne : (ls[i].base != a) = true := by simp [hba]
      have HN : Hid (∀ (j : Nat) (hj : j < ls.length), ls[j].base ≠ a) := by
        rintro j hj rfl
        obtain rfl := hasB_uniq ok hi hj hh (hhas j hj)
        exact hba rfl
      clear hba hh hhas
      go_wp2
      go_ret
      exact .inr ⟨HN.out, hb, rfl⟩
  · have HN : Hid (∀ (j : Nat) (hj : j < ls.length), ls[j].base ≠ a) := by
      rintro j hj rfl
      have := hno j hj (by omega)
      rw [hhas j hj] at this
      cases this
    clear hno hhas
    go_wp2
    go_ret
    exact .inr ⟨HN.out, hb, rfl⟩
end Go.Proofs.Ytkooogllajmkeaa
