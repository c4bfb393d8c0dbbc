/- Parts Lt Sp Sc Sa Al Op Gr Pl Fu Ra Nv Km Ct Rb Rc Rd Re Rf Rt Ru Rv Tw Da Br Rw Rx, put together. -/
import Derived.Test.YtpfnnmcokbolhaaMe2
import Derived.Deep.RegionLaw
import Derived.RegionTactic
import Derived.BigRegion
import Derived.Laws.StructEq
import Derived.Deep.QuietTactic
import Derived.BigQuiet
import Derived.LoopTactic
import Derived.Outline
import Derived.Deep.RegionHeld3
import Derived.Deep.AppendLies
import Derived.Deep.DeepCutAuto
import Derived.Deep.Slices
import Derived.OpenShut
import Derived.ProofKit
import Derived.LoopN
import Derived.Deep.CutBlock
import Derived.Maps.OwnSet
import Derived.Maps.AppendAt
import Derived.Deep.Onto
import Derived.Deep.DrawnRows
import Derived.OrdersIn
import Derived.OrdersHeld
import Derived.Deep.RegionHeld
/- The contract of Let: a region is let go. -/
namespace Go.Proofs.Ytpfnnmcokbolhaa
open Go.RowKit

theorem row_append {P : Program} {w : World} {base : Nat} {e : TypeId} {size g n cap : Nat} {xs : List Value} (h : w.ownsRow base e size (.slice (some ⟨g, 0, none⟩) n cap) n xs)
    (t ty : TypeId) (i : TypeInfo) (ht : P.underlying t = some (.slice e)) (hi : P.info? e = some i) (hz : i.size = size) (l : Nat)
    (ad : Addr) (m c : Nat) (news : List Value) (hl : news.length = m * size) (hnews : ∀ j u, news[j]? = some u → w.cell? (ad.add j) = some u) (h1 : ∀ u ∈ news, u.oneCell' = true) (hfit : l + m ≤ n) :
    ∃ w', (Builtin.append_ #[t, t] ty #[.slice (some ⟨g, 0, none⟩) l cap, .slice (some ad) m c]).run P w = .ok (.slice (some ⟨g, 0, none⟩) (l + m) cap) w' ∧
      w'.ownsRow base e size (.slice (some ⟨g, 0, none⟩) n cap) n (splice xs (l * size) news) ∧ w.grownBy w' (some g) := by
  obtain ⟨hx, q | ⟨g', cap', cur, hv, hb, hg, hn, hm, hs, htk⟩⟩ := h
  · simp at q
  · simp only [Value.slice.injEq, Option.some.injEq, Addr.mk.injEq, and_true, true_and] at hv
    obtain ⟨rfl, rfl⟩ := hv
    subst hz
    have hnc : n * i.size ≤ cap * i.size := Nat.mul_le_mul_right _ hn
    have hlm : (l + m) * i.size ≤ n * i.size := Nat.mul_le_mul_right _ hfit
    rw [Nat.add_mul] at hlm
    have hr := run_append_room (P := P) w t ty e i ht hi g l cap cur hg ad m c news hl hnews h1 (by omega) (by rw [hs, hl]; omega)
    refine ⟨_, hr, ⟨by rw [length_splice' _ _ _ (by omega)]; exact hx, .inr ⟨g, cap, _, rfl, hb, setRow_heap w g _ _ e _ hg, hn, hm, ?_, ?_⟩⟩, ⟨rfl, rfl, rfl, by simp [World.setRow], fun k _ hk => setRow_other w g k _ (fun q => hk (by rw [q]))⟩⟩
    · simp only [List.size_toArray, List.length_append, List.length_take, List.length_drop, Array.length_toList]; omega
    · subst htk
      simp only [splice, List.take_append, List.take_take, List.length_take, List.length_append, Array.length_toList, List.drop_take, hs]
      have hc : cur.toList.length = cap * i.size := by simp [hs]
      rw [Nat.min_eq_right (by omega), Nat.min_eq_left (by omega), Nat.min_eq_left (by omega), List.take_of_length_le (l := news) (by omega), List.append_assoc]

theorem step_append_in {P : Program} {w : World} {base : Nat} {e : TypeId} {size g n cap : Nat} {xs : List Value} {ops : Array Oper} {o : Oper} {a : Act} {K : Act → World → Prop} {Q : Exit → Act → World → Prop} {E : Prop} (hgd : o.guard = none) (s x : Operand) (t : TypeId)
    (ho : o.op = .call { callee := .builtin .append, args := #[s, x], argTypes := #[t, t] }) (i : TypeInfo) (ht : P.underlying t = some (.slice e)) (hi : P.info? e = some i) (hz : i.size = size)
    (h : w.ownsRow base e size (.slice (some ⟨g, 0, none⟩) n cap) n xs) (l : Nat) (hs : a.eval s = .slice (some ⟨g, 0, none⟩) l cap)
    (ad : Addr) (m c : Nat) (news : List Value) (hx : a.eval x = .slice (some ad) m c) (hl : news.length = m * size) (hnews : ∀ j u, news[j]? = some u → w.cell? (ad.add j) = some u) (h1 : ∀ u ∈ news, u.oneCell' = true) (hfit : l + m ≤ n)
    (hK : ∀ w', w'.ownsRow base e size (.slice (some ⟨g, 0, none⟩) n cap) n (splice xs (l * size) news) → w.grownBy w' (some g) → K (a.put o.dst (.slice (some ⟨g, 0, none⟩) (l + m) cap)) w') :
    if Region.wanted o (yielded ops a.tmps) = true then Oper.wp P o a w K Q else E := by
  have hw : Region.wanted o (yielded ops a.tmps) = true := by simp [Region.wanted, hgd]
  rw [if_pos hw]
  obtain ⟨w', hrun, r1, r2⟩ := row_append (P := P) h t o.type i ht hi hz l ad m c news hl hnews h1 hfit
  unfold Oper.wp
  simp [execOp, ho, resolve, invoke, builtin, hs, hx, hrun, Result.andThen]
  exact hK w' r1 r2

theorem zeroG (w : World) : (zeroValue 147).run Try.prog w = .ok (.agg #[.int .i64 0, .slice none 0 0]) w := by kernel_rfl

theorem zeroG1 : (Builtin.zeroCells (Value.agg #[Value.int .i64 0, .slice none 0 0]).cells 1).toList = [Value.int .i64 0, .slice none 0 0] := by simp [Builtin.zeroCells, Value.cells, Array.range, Array.toList_ofFn, List.ofFn_succ]
/-- what is left behind a region's going -/
def DelPost (B cap i r : Nat) (xs : List Value) (w : World) (e : Ending) (w' : World) : Prop :=
  w'.ownsRow 0 147 2 (.slice (some ⟨B, 0, none⟩) (i + r) cap) (i + r) (xs.take (i * 2) ++ xs.drop ((i + 1) * 2)) ∧ Kp [B] w w' ∧ e = .returned (.slice (some ⟨B, 0, none⟩) (i + r) cap)

theorem row_cut {w : World} {base : Nat} {e : TypeId} {size g n m cap : Nat} {xs : List Value} (h : w.ownsRow base e size (.slice (some ⟨g, 0, none⟩) n cap) n xs) (hm : m ≤ n) : w.ownsRow base e size (.slice (some ⟨g, 0, none⟩) m cap) m (xs.take (m * size)) := by
  obtain ⟨hx, q | ⟨g', cap', cur, hv, hb, hg, hn, hmx, hs, ht⟩⟩ := h
  · simp at q
  · simp only [Value.slice.injEq, Option.some.injEq, Addr.mk.injEq, and_true, true_and] at hv
    obtain ⟨rfl, rfl⟩ := hv
    have hle : m * size ≤ n * size := Nat.mul_le_mul_right _ hm
    refine ⟨by rw [List.length_take]; omega, .inr ⟨g, cap, cur, rfl, hb, hg, by omega, hmx, hs, ?_⟩⟩
    rw [← ht, List.take_take, Nat.min_eq_left hle]

theorem del_take {xs : List Value} {i r : Nat} (hx : xs.length = (i + 1 + r) * 2) (zs : List Value) : (splice (splice xs (i * 2) (xs.drop ((i + 1) * 2))) ((i + r) * 2) zs).take ((i + r) * 2) = xs.take (i * 2) ++ xs.drop ((i + 1) * 2) := by
  unfold splice
  have h1 : (xs.take (i * 2) ++ xs.drop ((i + 1) * 2)).length = (i + r) * 2 := by simp; omega
  have h2 : (xs.take (i * 2) ++ (xs.drop ((i + 1) * 2) ++ xs.drop (i * 2 + (xs.drop ((i + 1) * 2)).length))).take ((i + r) * 2) = xs.take (i * 2) ++ xs.drop ((i + 1) * 2) := by
    rw [← List.append_assoc, List.take_append_of_le_length (by omega), List.take_of_length_le (by omega)]
  rw [h2, List.take_append_of_le_length (by omega), List.take_of_length_le (by omega)]

set_option maxRecDepth 100000 in
set_option maxHeartbeats 2000000 in
theorem delReg_any {w : World} {B cap i r : Nat} {xs : List Value} (h : w.ownsRow 0 147 2 (.slice (some ⟨B, 0, none⟩) (i + 1 + r) cap) (i + 1 + r) xs) (_hn : i + 1 + r ≤ 4194304) (hone : ∀ u ∈ xs, u.oneCell' = true) :
    Calls Try.prog 102 #[.slice (some ⟨B, 0, none⟩) (i + 1 + r) cap, .int .i64 i, .int .i64 (i + 1)] w (DelPost B cap i r xs w) := by
  obtain ⟨i0, hi0, hz0, hz1, hz2⟩ := info_parts infoG
  have hcap : i + 1 + r ≤ cap := by
    rcases h.2 with ⟨q, _⟩ | ⟨_, _, _, q, _, _, hc, _⟩
    · simp at q
    · simp at q; omega
  have hne : ((i : Int) == (i : Int) + 1) = false := by simp; omega
  obtain ⟨A, hA, hnews⟩ : ∃ A : Addr, (if cap = i + 1 then some (⟨B, 0, none⟩ : Addr) else some ⟨B, (i + 1) * 2, none⟩) = some A ∧ Hid (∀ j u, (xs.drop ((i + 1) * 2))[j]? = some u → w.cell? (A.add j) = some u) := by
    by_cases hc : cap = i + 1
    · refine ⟨_, by rw [if_pos hc], fun j u hu => ?_⟩
      rw [List.drop_of_length_le (by rw [h.1]; omega)] at hu
      simp at hu
    · refine ⟨_, by rw [if_neg hc], fun j u hu => ?_⟩
      have hadd : (⟨B, (i + 1) * 2, none⟩ : Addr).add j = ⟨B, (i + 1) * 2 + j, none⟩ := by unfold Addr.add; split <;> simp_all
      rw [hadd]
      rw [List.getElem?_drop] at hu
      exact row_cell h hu
  have HL : Hid ((xs.drop ((i + 1) * 2)).length = r * 2) := by unfold Hid; rw [List.length_drop, h.1]; omega
  have HO1 : Hid (∀ u ∈ xs.drop ((i + 1) * 2), u.oneCell' = true) := fun u hu => hone u (List.mem_of_mem_drop hu)
  have HX := Hid.mk h.1
  have HH := Hid.mk h
  clear hone h
  have b1 : (i : Int) + 1 ≤ (i : Int) + 1 + r := by omega
  have b3 : (i : Int) + 1 ≤ cap := by omega
  have b0 : i ≤ cap := by omega
  have b4 : i + 1 ≤ i + 1 + r := by omega
  have b5 : i + 1 ≤ cap := by omega
  have b6 : (0 : Int) ≤ (i : Int) + 1 := by omega
  have b7 : i + r ≤ i + 1 + r := by omega
  have b8 : 1 ≤ i + 1 + r - (i + r) := by omega
  go_enter Try.func102, Try.ntmps102
  go_wp2
  go_region_law (refine step_append_in rfl (.tmp 22) (.tmp 25) 48 rfl i0 Try.underlying48 hi0 hz1 HH.out.drew i (by simp [Act.eval, Act.put]) A r (cap - (i + 1)) (xs.drop ((i + 1) * 2)) (by simp [Act.eval, Act.put]) HL.out hnews.out HO1.out b7 ?_; intro w2 hr2 hg2)
  go_wp2_with (with_reducible refine wpList_clear_row rfl (.tmp 31) 48 rfl Try.underlying48 (.agg #[.int .i64 0, .slice none 0 0]) zeroG ((i + r) * 2) (i + 1 + r - (i + r)) (cap - (i + r)) rfl b8 hr2 [.int .i64 0, .slice none 0 0] ?c0 ?c1 ?c2 ?_)
  case c0 => rw [show i + 1 + r - (i + r) = 1 by omega]; exact zeroG1
  case c1 => simp; omega
  case c2 => intro u hu; simp only [List.mem_cons, List.not_mem_nil, or_false] at hu; obtain rfl | rfl := hu <;> rfl
  intro w3 hr3 hg3
  go_wp2
  go_ret
  refine ⟨?_, ?_, rfl⟩
  · have := row_cut hr3 (m := i + r) (by omega)
    rwa [del_take HX.out] at this
  · exact ((((Kp.refl _ _).drew).grown hg2 (by intro q hq; simp at hq; exact .inl (by simp [hq])))).grown hg3 (by intro q hq; simp at hq; exact .inl (by simp [hq]))

/-- regions as cells are each of one cell -/
theorem rcells_one (ls : List LReg) : ∀ u ∈ rcells ls, u.oneCell' = true := by
  intro u hu
  simp only [rcells, List.mem_flatMap, LReg.cells, List.mem_cons, List.not_mem_nil, or_false] at hu
  obtain ⟨v, _, rfl | rfl⟩ := hu <;> rfl
theorem rcells_erase {ls : List LReg} {i : Nat} : rcells (ls.eraseIdx i) = (rcells ls).take (i * 2) ++ (rcells ls).drop ((i + 1) * 2) := by
  induction ls generalizing i with
  | nil => simp [rcells]
  | cons a l ih =>
    cases i with
    | zero => simp [rcells, LReg.cells]
    | succ i =>
      have := ih (i := i)
      simp only [rcells, List.eraseIdx_cons_succ, List.flatMap_cons] at this ⊢
      rw [this, show (i + 1) * 2 = i * 2 + 2 by omega, show (i + 1 + 1) * 2 = i * 2 + 2 + 2 by omega]
      simp only [LReg.cells, List.cons_append, List.nil_append, List.take_succ_cons, List.drop_succ_cons]

theorem SpAt.erase {w w' : World} {p B cap cap' : Nat} {last : Int} {ls : List LReg} {i : Nat} (h : SpAt w p last (.slice (some ⟨B, 0, none⟩) ls.length cap) ls) (hi : i < ls.length) (k : Kp [p, B] w w')
    (hhead : w'.heap[p]? = some (.cells #[.slice (some ⟨B, 0, none⟩) (ls.length - 1) cap', .int .i64 last] 50 (0, 0)))
    (hrow : w'.ownsRow 0 147 2 (.slice (some ⟨B, 0, none⟩) (ls.length - 1) cap') (ls.length - 1) (rcells (ls.eraseIdx i))) :
    SpAt w' p last (.slice (some ⟨B, 0, none⟩) (ls.length - 1) cap') (ls.eraseIdx i) := by
  have hnd := h.nodup
  have hsub : ((ls.eraseIdx i).map (·.wb)).Sublist (ls.map (·.wb)) := (List.eraseIdx_sublist ls i).map _
  refine ⟨hhead, by rw [List.length_eraseIdx_of_lt hi]; exact hrow, ?_, ?_⟩
  · intro r hr
    have hr' := List.mem_of_mem_eraseIdx hr
    refine k.row (h.words r hr') ?_
    intro g hg
    simp [Value.ownBlock] at hg
    subst hg
    have h1 : r.wb ∈ ls.map (·.wb) := List.mem_map.2 ⟨r, hr', rfl⟩
    intro q
    simp only [List.mem_cons, List.not_mem_nil, or_false] at q
    rcases q with q | q
    · exact (List.nodup_cons.1 hnd).1 (List.mem_append.2 (.inr (q ▸ h1)))
    · exact (List.nodup_append.1 (List.nodup_cons.1 hnd).2).2.2 B (by simp [Value.ownBlock]) _ h1 q.symm
  · unfold foot at hnd ⊢
    exact hnd.sublist (((List.Sublist.refl _).append hsub).cons_cons p)
theorem foot_erase {p B cap cap' n m i : Nat} {ls : List LReg} : ∀ b ∈ foot p (.slice (some ⟨B, 0, none⟩) n cap) (ls.eraseIdx i), b ∈ foot p (.slice (some ⟨B, 0, none⟩) m cap') ls := by
  intro b hb
  unfold foot at hb ⊢
  exact (((List.Sublist.refl _).append ((List.eraseIdx_sublist ls i).map _)).cons_cons p).subset hb
theorem sum_sub {a b : List Nat} (h : a.Sublist b) : a.sum ≤ b.sum := by
  induction h with
  | slnil => simp
  | cons x _ ih => simp only [List.sum_cons]; omega
  | cons_cons x _ ih => simp only [List.sum_cons]; omega
theorem hasB_uniq {last : Int} {ls : List LReg} (ok : RegsOk last ls) {i j : Nat} (hi : i < ls.length) (hj : j < ls.length) {a m m' : Int} (h1 : hasB ls[i].base ls[i].words.length a m = true) (h2 : hasB ls[j].base ls[j].words.length a m' = true) : i = j := by
  obtain ⟨a1, a2, _⟩ := hasB_iff.1 h1
  obtain ⟨b1, b2, _⟩ := hasB_iff.1 h2
  rcases Nat.lt_trichotomy i j with q | q | q
  · have := ok.mono i j q hj; omega
  · exact q
  · have := ok.mono j i q hi; omega
theorem RegsOk.erase {last : Int} {ls : List LReg} (h : RegsOk last ls) (i : Nat) : RegsOk last (ls.eraseIdx i) := by
  have hs := List.eraseIdx_sublist ls i
  refine ⟨fun r hr => h.lo r (hs.subset hr), h.sep.sublist hs, h.last0, h.last1, Nat.le_trans ?_ h.live⟩
  have h2 := hs.map (fun r : LReg => r.words.length)
  exact sum_sub h2
def LetPost (p : Nat) (last : Int) (sl : Value) (ls : List LReg) (a : Int) (w : World) (e : Ending) (w' : World) : Prop :=
  (∃ (i : Nat) (hi : i < ls.length) (sl' : Value), ls[i].base = a ∧ SpAt w' p last sl' (ls.eraseIdx i) ∧ Kp (foot p sl ls) w w' ∧ (∀ b ∈ foot p sl' (ls.eraseIdx i), b ∈ foot p sl ls) ∧ e = .returned (.int .i64 0)) ∨
  ((∀ (i : Nat) (hi : i < ls.length), ls[i].base ≠ a) ∧ Below w.heap.size w w' ∧ e = .returned (.int .i64 211))
set_option maxRecDepth 100000 in
set_option maxHeartbeats 1000000 in
theorem let_any {w : World} {p : Nat} {last : Int} {sl : Value} {ls : List LReg} (h : SpAt w p last sl ls) (ok : RegsOk last ls) (a : Int) :
    Calls Try.prog 89 #[.pointer (some ⟨p, 0, none⟩), .int .i64 a] w (LetPost p last sl ls a w) := by
  have HF := Hid.mk (find_any h ok a 1)
  have hhas : ∀ (i : Nat) (hi : i < ls.length), hasB ls[i].base ls[i].words.length ls[i].base 1 = true := fun i hi => hasB_iff.2 (by have := ok.lo _ (List.getElem_mem hi); omega)
  go_enter Try.func89, Try.ntmps89
  go_wp2_with fail
  refine HF.out.mono ?_
  clear HF
  rintro e w1 ⟨hb, ⟨i, hi, hh, _, rfl⟩ | ⟨hno, rfl⟩⟩
  · have h1 := h.below hb
    rcases h1.shape with ⟨rfl, rfl⟩ | ⟨B, cap, rfl, hcap⟩
    · exact absurd hi (by simp)
    have hx := h1.base hi
    have hy := h1.wslice hi
    have hz := h1.cell0
    have hn := ok.count
    by_cases hba : ls[i].base = a
    · subst hba
      clear hh hhas
      have hne : (ls[i].base != ls[i].base) = false := by simp
      obtain ⟨r, hr⟩ : ∃ r, ls.length = i + 1 + r := ⟨ls.length - (i + 1), by omega⟩
      have HD := Hid.mk (delReg_any (i := i) (r := r) (cap := cap) (by rw [← hr]; exact h1.row) (by omega) (rcells_one ls))
      rw [← hr] at HD
      have HR := Hid.mk hr
      clear hr
      go_wp2_with fail
      refine HD.out.mono ?_
      clear HD
      rintro e w2 ⟨hrow2, hk2, rfl⟩
      have hpB : p ∉ [B] := by
        have := (List.nodup_cons.1 h1.nodup).1
        intro q
        simp only [List.mem_singleton] at q
        exact this (List.mem_append.2 (.inl (by simp [Value.ownBlock, q])))
      have hhd := hk2.at h1.head hpB
      have d0 : w2.cell? ⟨p, 0, none⟩ = some (.slice (some ⟨B, 0, none⟩) ls.length cap) := by rw [cell_of_row w2 p 0 _ _ _ hhd]; rfl
      have f0 := frozen_of_row w2 p 0 _ _ hhd
      have hir : i + r = ls.length - 1 := by have := HR.out; omega
      rw [hir] at hrow2 ⊢
      rw [← rcells_erase] at hrow2
      have HROW := Hid.mk hrow2
      clear hrow2 hir
      go_wp2
      go_ret
      refine .inl ⟨i, hi, _, rfl, h1.erase (cap' := cap) hi ?_ ?_ ?_, ?_, foot_erase, rfl⟩
      · exact (hk2.mono (by simp)).setCell (.inl (by simp)) _
      · rw [heap_setCell_same w2 p 0 _ _ _ hhd]; rfl
      · exact ownsRow_setCell_other HROW.out (by simp only [Value.ownBlock, ne_eq, Option.some.injEq]; intro q; exact hpB (by simp [q])) _
      · refine (Kp.of_below hb _).trans (((hk2.mono (gs := [B, p]) (by simp)).setCell (.inl (by simp)) _)) ?_
        intro x hx
        refine .inl ?_
        simp only [List.mem_cons, List.not_mem_nil, or_false] at hx
        rcases hx with rfl | rfl
        · simp [foot, Value.ownBlock]
        · simp [foot]
    · have hne : (ls[i].base != a) = true := by simp [hba]
      have HN : Hid (∀ (j : Nat) (hj : j < ls.length), ls[j].base ≠ a) := by
        rintro j hj rfl
        obtain rfl := hasB_uniq ok hi hj hh (hhas j hj)
        exact hba rfl
      clear hba hh hhas
      go_wp2
      go_ret
      exact .inr ⟨HN.out, hb, rfl⟩
  · have HN : Hid (∀ (j : Nat) (hj : j < ls.length), ls[j].base ≠ a) := by
      rintro j hj rfl
      have := hno j hj (by omega)
      rw [hhas j hj] at this
      cases this
    clear hno hhas
    go_wp2
    go_ret
    exact .inr ⟨HN.out, hb, rfl⟩
end Go.Proofs.Ytpfnnmcokbolhaa
/- Spaces as plain data: regions with their words, and the last address; what each method answers and leaves; and the methods' contracts over these. -/
namespace Go.Proofs.Ytpfnnmcokbolhaa
open Go.RowKit

structure Sp where
  regs : List Reg
  last : Int

/-- the region that has m addresses from a on, and the place in it -/
def locate : List Reg → Int → Int → Option (Nat × Nat)
  | [], _, _ => none
  | r :: rs, a, m => if hasB r.base r.words.length a m then some (0, (a - r.base).toNat) else (locate rs a m).map fun x => (x.1 + 1, x.2)

theorem locate_none {a m : Int} : ∀ {rs : List Reg}, (∀ r ∈ rs, hasB r.base r.words.length a m = false) → locate rs a m = none
  | [], _ => rfl
  | r :: rs, h => by simp [locate, h r (by simp), locate_none (rs := rs) (fun x hx => h x (by simp [hx]))]
theorem locate_some {a m : Int} : ∀ {rs : List Reg} {i : Nat} (hi : i < rs.length), hasB rs[i].base rs[i].words.length a m = true → (∀ j (hj : j < rs.length), j < i → hasB rs[j].base rs[j].words.length a m = false) → locate rs a m = some (i, (a - rs[i].base).toNat)
  | r :: rs, 0, _, h, _ => by simp at h; simp [locate, h]
  | r :: rs, i + 1, hi, h, hno => by
    have h0 : hasB r.base r.words.length a m = false := hno 0 (by simp) (by omega)
    have ih := locate_some (rs := rs) (i := i) (by simpa using hi) (by simpa using h) (fun j hj hji => hno (j + 1) (by simpa using hj) (by omega))
    simp [locate, h0, ih]

def wordAt (rs : List Reg) (i j : Nat) : Int × Int := ((rs[i]?).bind (fun r => r.words[j]?)).getD (0, 0)
def wordsAt (rs : List Reg) (i : Nat) : List (Int × Int) := ((rs[i]?).map (fun r => r.words)).getD []
def setAt (rs : List Reg) (i : Nat) (ws : List (Int × Int)) : List Reg := rs.modify i (fun r => { r with words := ws })
def total (rs : List Reg) : Nat := (rs.map (fun r => r.words.length)).sum

namespace Sp
def take (S : Sp) (m : Int) : (Int × Int) × Sp :=
  if m < 1 ∨ 1048576 < m ∨ 4194304 < total S.regs + m then ((0, 211), S)
  else ((nextBase S.last, 0), ⟨S.regs ++ [⟨nextBase S.last, List.replicate m.toNat (0, 0)⟩], nextBase S.last + m - 1⟩)
def let_ (S : Sp) (a : Int) : Int × Sp :=
  match S.regs.findIdx? (fun r => r.base == a) with
  | some i => (0, { S with regs := S.regs.eraseIdx i })
  | none => (211, S)
def of (S : Sp) (a : Int) : (Int × Int) × Bool :=
  match locate S.regs a 1 with
  | some (i, _) => ((((S.regs[i]?).map (fun r => r.base)).getD 0, (wordsAt S.regs i).length), true)
  | none => ((0, 0), false)
def get (S : Sp) (a : Int) : (Int × Int) × Int :=
  match locate S.regs a 1 with
  | some (i, j) => if wordAt S.regs i j = (0, 0) then ((0, 0), 212) else (wordAt S.regs i j, 0)
  | none => ((0, 0), 210)
def put (S : Sp) (a : Int) (v : Int × Int) : Int × Sp :=
  match locate S.regs a 1 with
  | some (i, j) => if okV v.1 v.2 then (0, { S with regs := setAt S.regs i ((wordsAt S.regs i).set j v) }) else (21, S)
  | none => (210, S)
def drop (S : Sp) (a m : Int) : Int × Sp :=
  if m = 0 then (0, S) else if m < 0 then (210, S) else
  match locate S.regs a m with
  | some (i, j) => (0, { S with regs := setAt S.regs i (over (wordsAt S.regs i) j (List.replicate m.toNat (0, 0))) })
  | none => (210, S)
/-- the values, or none, and the error -/
def run (S : Sp) (a m : Int) : Option (List (Int × Int)) × Int :=
  if m = 0 then (none, 0) else if m < 0 then (none, 210) else
  match locate S.regs a m with
  | some (i, j) => if (0, 0) ∈ seg (wordsAt S.regs i) j m.toNat then (none, 212) else (some (seg (wordsAt S.regs i) j m.toNat), 0)
  | none => (none, 210)
end Sp

/-- block p holds the space S; fs are the blocks that it owns -/
def Spc (w : World) (p : Nat) (S : Sp) (fs : List Nat) : Prop :=
  ∃ sl ls, SpAt w p S.last sl ls ∧ RegsOk S.last ls ∧ S.regs = ls.map LReg.reg ∧ fs = foot p sl ls
/-- what a call that writes leaves: another space in the same block; nothing else has turned; what it owns is its own or new -/
def Stp (w : World) (p : Nat) (fs : List Nat) (S : Sp) (w' : World) : Prop := ∃ fs', Spc w' p S fs' ∧ Kp fs w w' ∧ ∀ b ∈ fs', b ∈ fs ∨ w.heap.size ≤ b

theorem Spc.kp {w w' : World} {p : Nat} {S : Sp} {fs gs : List Nat} (h : Spc w p S fs) (k : Kp gs w w') (hd : ∀ b ∈ fs, b ∉ gs) : Spc w' p S fs := by
  obtain ⟨sl, ls, h1, h2, h3, rfl⟩ := h
  exact ⟨sl, ls, h1.kp k hd, h2, h3, rfl⟩
theorem Spc.below {w w' : World} {p : Nat} {S : Sp} {fs : List Nat} (h : Spc w p S fs) (k : Below w.heap.size w w') : Spc w' p S fs := h.kp (Kp.of_below k []) (by simp)
theorem Spc.lt {w : World} {p : Nat} {S : Sp} {fs : List Nat} (h : Spc w p S fs) : ∀ b ∈ fs, b < w.heap.size := by
  obtain ⟨sl, ls, h1, _, _, rfl⟩ := h
  exact h1.lt
theorem Spc.mem {w : World} {p : Nat} {S : Sp} {fs : List Nat} (h : Spc w p S fs) : p ∈ fs := by
  obtain ⟨sl, ls, _, _, _, rfl⟩ := h
  simp [foot]
theorem Stp.of_below {w w' : World} {p : Nat} {S : Sp} {fs : List Nat} (h : Spc w p S fs) (k : Below w.heap.size w w') : Stp w p fs S w' := ⟨fs, h.below k, Kp.of_below k _, fun _ hb => .inl hb⟩

section
variable {ls : List LReg}
theorem wordsAt_map {i : Nat} (hi : i < ls.length) : wordsAt (ls.map LReg.reg) i = ls[i].words := by simp [wordsAt, hi, LReg.reg]
theorem wordAt_map {i j : Nat} (hi : i < ls.length) (hj : j < ls[i].words.length) : wordAt (ls.map LReg.reg) i j = ls[i].words[j] := by simp [wordAt, hi, LReg.reg, hj]
theorem setAt_map {i : Nat} {ws : List (Int × Int)} : setAt (ls.map LReg.reg) i ws = (setWords ls i ws).map LReg.reg := by
  apply List.ext_getElem?
  intro k
  simp only [setAt, setWords, List.getElem?_map, List.getElem?_modify]
  rcases Nat.lt_or_ge k ls.length with q | q
  · simp only [q, List.getElem?_eq_getElem, Option.map_some]
    by_cases e : i = k <;> simp [e, LReg.reg]
  · simp [List.getElem?_eq_none q]
theorem total_map : total (ls.map LReg.reg) = tot ls := by simp [total, tot, LReg.reg, Function.comp_def]
theorem loc_some {last : Int} (ok : RegsOk last ls) {i : Nat} (hi : i < ls.length) {a m : Int} (h : hasB ls[i].base ls[i].words.length a m = true) : locate (ls.map LReg.reg) a m = some (i, (a - ls[i].base).toNat) := by
  have := locate_some (rs := ls.map LReg.reg) (i := i) (a := a) (m := m) (by simpa using hi) (by simpa [LReg.reg] using h) (fun j hj hji => by
    have hj' : j < ls.length := by simpa using hj
    cases e : hasB ls[j].base ls[j].words.length a m with
    | false => simpa [LReg.reg] using e
    | true => have := hasB_uniq ok hj' hi e h; omega)
  simpa [LReg.reg] using this
theorem loc_none {a m : Int} (h : ∀ (i : Nat) (hi : i < ls.length), hasB ls[i].base ls[i].words.length a m = false) : locate (ls.map LReg.reg) a m = none := by
  refine locate_none fun r hr => ?_
  obtain ⟨x, hx, rfl⟩ := List.mem_map.1 hr
  obtain ⟨i, hi, rfl⟩ := List.getElem_of_mem hx
  exact h i hi
theorem loc_at {last : Int} (ok : RegsOk last ls) {i j : Nat} (hi : i < ls.length) {m : Int} (hj : j < ls[i].words.length) (hm : m ≤ ls[i].words.length - j) : locate (ls.map LReg.reg) (ls[i].base + j) m = some (i, j) := by
  rw [loc_some ok hi (hasB_iff.2 ⟨by omega, by omega, by omega⟩)]
  simp; omega
end
end Go.Proofs.Ytpfnnmcokbolhaa
/- The contracts of a space's methods, over spaces as plain data. Condition of Take: the last address is no greater than 2^60. -/
namespace Go.Proofs.Ytpfnnmcokbolhaa
open Go.RowKit

section
variable {w : World} {p : Nat} {S : Sp} {fs : List Nat}

theorem get_spc (h : Spc w p S fs) (a : Int) : Calls Try.prog 53 #[.pointer (some ⟨p, 0, none⟩), .int .i64 a] w fun e w' =>
    Below w.heap.size w w' ∧ e = .returned (.tuple #[.agg #[.int .i64 (S.get a).1.1, .int .i64 (S.get a).1.2], .int .i64 (S.get a).2]) := by
  obtain ⟨sl, ls, h1, ok, hr, rfl⟩ := h
  refine (get_any h1 ok a).mono ?_
  rintro e w' ⟨hb, ⟨i, j, hi, hj, rfl, ⟨hz, rfl⟩ | ⟨hz, rfl⟩⟩ | ⟨hno, rfl⟩⟩
  · refine ⟨hb, ?_⟩
    have : S.get (ls[i].base + j) = ((0, 0), 212) := by
      unfold Sp.get
      rw [hr, loc_at ok hi hj (by omega)]
      simp [wordAt_map hi hj, hz]
    rw [this]
  · refine ⟨hb, ?_⟩
    have : S.get (ls[i].base + j) = (ls[i].words[j], 0) := by
      unfold Sp.get
      rw [hr, loc_at ok hi hj (by omega)]
      simp only [wordAt_map hi hj]
      rw [if_neg hz]
    rw [this]
  · refine ⟨hb, ?_⟩
    have : S.get a = ((0, 0), 210) := by unfold Sp.get; rw [hr, loc_none hno]
    rw [this]

theorem put_spc (h : Spc w p S fs) (a t n : Int) : Calls Try.prog 47 #[.pointer (some ⟨p, 0, none⟩), .int .i64 a, .agg #[.int .i64 t, .int .i64 n]] w fun e w' =>
    Stp w p fs (S.put a (t, n)).2 w' ∧ e = .returned (.int .i64 (S.put a (t, n)).1) := by
  have h0 := h
  obtain ⟨sl, ls, h1, ok, hr, rfl⟩ := h
  refine (put_any h1 ok a t n).mono ?_
  rintro e w' (⟨i, j, hi, hj, rfl, ⟨hz, hb, rfl⟩ | ⟨hz, hk, hs, rfl⟩⟩ | ⟨hno, hb, rfl⟩)
  · have : S.put (ls[i].base + j) (t, n) = (21, S) := by
      unfold Sp.put
      rw [hr, loc_at ok hi hj (by omega)]
      simp [hz]
    rw [this]
    exact ⟨Stp.of_below h0 hb, rfl⟩
  · have : S.put (ls[i].base + j) (t, n) = (0, { S with regs := (setWords ls i (ls[i].words.set j (t, n))).map LReg.reg }) := by
      unfold Sp.put
      rw [hr, loc_at ok hi hj (by omega)]
      simp [hz, setAt_map, wordsAt_map hi]
    rw [this]
    exact ⟨⟨_, ⟨sl, _, hs, ok.replace hi _ (by simp), rfl, rfl⟩, hk.mono (by simp [foot]; exact .inr (.inr ⟨_, List.getElem_mem hi, rfl⟩)), by rw [foot_setWords]; exact fun _ hb => .inl hb⟩, rfl⟩
  · have : S.put a (t, n) = (210, S) := by unfold Sp.put; rw [hr, loc_none hno]
    rw [this]
    exact ⟨Stp.of_below h0 hb, rfl⟩

theorem drop_spc (h : Spc w p S fs) (a m : Int) : Calls Try.prog 50 #[.pointer (some ⟨p, 0, none⟩), .int .i64 a, .int .i64 m] w fun e w' =>
    Stp w p fs (S.drop a m).2 w' ∧ e = .returned (.int .i64 (S.drop a m).1) := by
  have h0 := h
  obtain ⟨sl, ls, h1, ok, hr, rfl⟩ := h
  refine (drop_any h1 ok a m).mono ?_
  rintro e w' (⟨rfl, hb, rfl⟩ | ⟨i, j, k, hi, rfl, rfl, hk, hjk, hkp, hs, rfl⟩ | ⟨hm, hno, hb, rfl⟩)
  · have : S.drop a 0 = (0, S) := by simp [Sp.drop]
    rw [this]
    exact ⟨Stp.of_below h0 hb, rfl⟩
  · have : S.drop (ls[i].base + j) k = (0, { S with regs := (setWords ls i (over ls[i].words j (List.replicate k (0, 0)))).map LReg.reg }) := by
      unfold Sp.drop
      rw [if_neg (by omega), if_neg (by omega), hr, loc_at ok hi (by omega) (by omega)]
      simp [setAt_map, wordsAt_map hi]
    rw [this]
    exact ⟨⟨_, ⟨sl, _, hs, ok.replace hi _ (over_len (by simp; omega)), rfl, rfl⟩, hkp.mono (by simp [foot]; exact .inr (.inr ⟨_, List.getElem_mem hi, rfl⟩)), by rw [foot_setWords]; exact fun _ hb => .inl hb⟩, rfl⟩
  · have : S.drop a m = (210, S) := by
      unfold Sp.drop
      rw [if_neg hm]
      by_cases hm0 : m < 0
      · rw [if_pos hm0]
      · rw [if_neg hm0, hr, loc_none (fun i hi => hno i hi (by omega))]
    rw [this]
    exact ⟨Stp.of_below h0 hb, rfl⟩

/-- what Run hands back: no row, or a row of its own, of capacity c -/
def RunOut (w : World) (r : Option (List (Int × Int)) × Int) (e : Ending) (w' : World) : Prop :=
  match r.1 with
  | none => e = .returned (.tuple #[.slice none 0 0, .int .i64 r.2])
  | some l => ∃ g c, w'.ownsRow w.heap.size 34 2 (.slice (some ⟨g, 0, none⟩) l.length c) l.length (wcells l) ∧ e = .returned (.tuple #[.slice (some ⟨g, 0, none⟩) l.length c, .int .i64 r.2])
theorem run_spc (h : Spc w p S fs) (a m : Int) : Calls Try.prog 48 #[.pointer (some ⟨p, 0, none⟩), .int .i64 a, .int .i64 m] w fun e w' =>
    Below w.heap.size w w' ∧ RunOut w (S.run a m) e w' := by
  obtain ⟨sl, ls, h1, ok, hr, rfl⟩ := h
  refine (run_any h1 ok a m).mono ?_
  rintro e w' ⟨hb, ⟨rfl, rfl⟩ | ⟨i, j, k, hi, rfl, rfl, hk, hjk, ⟨hz, rfl⟩ | ⟨hz, g, c, hrow, rfl⟩⟩ | ⟨hm, hno, rfl⟩⟩
  · have : S.run a 0 = (none, 0) := by simp [Sp.run]
    rw [this]; exact ⟨hb, rfl⟩
  · have : S.run (ls[i].base + j) k = (none, 212) := by
      unfold Sp.run
      rw [if_neg (by omega), if_neg (by omega), hr, loc_at ok hi (by omega) (by omega)]
      simp [wordsAt_map hi, hz]
    rw [this]; exact ⟨hb, rfl⟩
  · have : S.run (ls[i].base + j) k = (some (seg ls[i].words j k), 0) := by
      unfold Sp.run
      rw [if_neg (by omega), if_neg (by omega), hr, loc_at ok hi (by omega) (by omega)]
      simp [wordsAt_map hi, hz]
    rw [this]; exact ⟨hb, g, c, by rw [seg_len hjk]; exact hrow, by rw [seg_len hjk]⟩
  · have : S.run a m = (none, 210) := by
      unfold Sp.run
      rw [if_neg hm]
      by_cases hm0 : m < 0
      · rw [if_pos hm0]
      · rw [if_neg hm0, hr, loc_none (fun i hi => hno i hi (by omega))]
    rw [this]; exact ⟨hb, rfl⟩

theorem map_erase {α β : Type} (f : α → β) : ∀ (l : List α) (i : Nat), (l.map f).eraseIdx i = (l.eraseIdx i).map f
  | [], _ => by simp
  | _ :: _, 0 => by simp
  | _ :: l, i + 1 => by simp [map_erase f l i]
theorem findIdx_map (ls : List LReg) (a : Int) (i : Nat) (hi : i < ls.length) (h : ls[i].base = a) (hno : ∀ j (hj : j < ls.length), j < i → ls[j].base ≠ a) : (ls.map LReg.reg).findIdx? (fun r => r.base == a) = some i := by
  rw [List.findIdx?_eq_some_iff_getElem]
  refine ⟨by simpa using hi, by simpa [LReg.reg] using h, fun j hj => ?_⟩
  simpa [LReg.reg] using hno j (by omega) hj

theorem let_spc (h : Spc w p S fs) (a : Int) : Calls Try.prog 89 #[.pointer (some ⟨p, 0, none⟩), .int .i64 a] w fun e w' =>
    Stp w p fs (S.let_ a).2 w' ∧ e = .returned (.int .i64 (S.let_ a).1) := by
  have h0 := h
  obtain ⟨sl, ls, h1, ok, hr, rfl⟩ := h
  refine (let_any h1 ok a).mono ?_
  rintro e w' (⟨i, hi, sl', rfl, hs, hkp, hft, rfl⟩ | ⟨hno, hb, rfl⟩)
  · have : S.let_ ls[i].base = (0, { S with regs := (ls.eraseIdx i).map LReg.reg }) := by
      unfold Sp.let_
      rw [hr, findIdx_map ls _ i hi rfl (fun j hj hji => by have := ok.mono j i hji hi; have := ok.lo _ (List.getElem_mem hj); omega)]
      simp [map_erase]
    rw [this]
    exact ⟨⟨_, ⟨sl', _, hs, ok.erase i, rfl, rfl⟩, hkp, fun b hb => .inl (hft b hb)⟩, rfl⟩
  · have : S.let_ a = (211, S) := by
      unfold Sp.let_
      have : S.regs.findIdx? (fun r => r.base == a) = none := by
        rw [hr, List.findIdx?_eq_none_iff]
        intro r hr
        obtain ⟨x, hx, rfl⟩ := List.mem_map.1 hr
        obtain ⟨i, hi, rfl⟩ := List.getElem_of_mem hx
        simpa [LReg.reg] using hno i hi
      rw [this]
    rw [this]
    exact ⟨Stp.of_below h0 hb, rfl⟩

theorem regs_snoc {last : Int} {ls : List LReg} (ok : RegsOk last ls) (k Wn : Nat) (h1 : 1 ≤ k) (h2 : k ≤ 1048576) (h3 : tot ls + k ≤ 4194304) (hl : last ≤ 1152921504606846976) :
    RegsOk (nextBase last + k - 1) (ls ++ [⟨nextBase last, Wn, k, List.replicate k (0, 0)⟩]) := by
  have l0 := ok.last0
  have hnb : last + 1 ≤ nextBase last ∧ nextBase last ≤ last + 2 ∧ (ls ≠ [] → last + 2 ≤ nextBase last) := by
    unfold nextBase
    split
    · rename_i q
      refine ⟨by omega, by omega, fun hne => ?_⟩
      obtain ⟨a, l, rfl⟩ := List.exists_cons_of_ne_nil hne
      have := ok.lo a (by simp); omega
    · omega
  refine ⟨?_, ?_, by omega, by omega, ?_⟩
  · intro r hr
    rcases List.mem_append.1 hr with hr | hr
    · have := ok.lo r hr; omega
    · obtain rfl : r = _ := by simpa using hr
      simp only [List.length_replicate]; omega
  · refine List.pairwise_append.2 ⟨ok.sep, by simp, ?_⟩
    intro a ha b hb
    obtain rfl : b = _ := by simpa using hb
    have := ok.lo a ha
    have := hnb.2.2 (List.ne_nil_of_mem ha)
    simp only; omega
  · simp only [List.map_append, List.map_cons, List.map_nil, List.sum_append, List.length_replicate, List.sum_cons, List.sum_nil]
    unfold tot at h3; omega

theorem take_spc (h : Spc w p S fs) (m : Int) (hl : S.last ≤ 1152921504606846976) : Calls Try.prog 62 #[.pointer (some ⟨p, 0, none⟩), .int .i64 m] w fun e w' =>
    Stp w p fs (S.take m).2 w' ∧ e = .returned (.tuple #[.int .i64 (S.take m).1.1, .int .i64 (S.take m).1.2]) := by
  have h0 := h
  obtain ⟨sl, ls, h1, ok, hr, rfl⟩ := h
  by_cases hm : m < 1 ∨ 1048576 < m ∨ 4194304 < total S.regs + m
  · have : S.take m = ((0, 211), S) := by unfold Sp.take; rw [if_pos hm]
    rw [this]
    rw [hr, total_map] at hm
    refine (take_err h1 ok m hm).mono ?_
    rintro e w' ⟨rfl, hb⟩
    exact ⟨Stp.of_below h0 hb, rfl⟩
  · have he : S.take m = ((nextBase S.last, 0), ⟨S.regs ++ [⟨nextBase S.last, List.replicate m.toNat (0, 0)⟩], nextBase S.last + m - 1⟩) := by unfold Sp.take; rw [if_neg hm]
    rw [he]
    rw [hr, total_map] at hm
    obtain ⟨k, rfl⟩ := Int.eq_ofNat_of_zero_le (show 0 ≤ m by omega)
    refine (take_ok h1 ok k (by omega) (by omega) (by omega) hl).mono ?_
    rintro e w' ⟨sl', Wn, hs, hkp, hft, rfl⟩
    refine ⟨⟨_, ⟨sl', _, hs, regs_snoc ok k Wn (by omega) (by omega) (by omega) hl, ?_, rfl⟩, hkp, hft⟩, rfl⟩
    simp [hr, LReg.reg]

/-- regions, told as bases and how many words -/
def tells (rs : List Reg) : List (Int × Int) := rs.map fun r => (r.base, (r.words.length : Int))
end
end Go.Proofs.Ytpfnnmcokbolhaa
/- Slices of pairs as they are read, and the contracts of the two functions Same. -/
namespace Go.Proofs.Ytpfnnmcokbolhaa
open Go.RowKit

/-- a slice of structs of two numbers reads as xs -/
def Rd (w : World) (v : Value) (xs : List (Int × Int)) : Prop :=
  (v = .slice none 0 0 ∧ xs = []) ∨ ∃ b o c, v = .slice (some ⟨b, o, none⟩) xs.length c ∧ b < w.heap.size ∧
    ∀ k (hk : k < xs.length), w.cell? ⟨b, o + k * 2, none⟩ = some (.int .i64 xs[k].1) ∧ w.cell? ⟨b, o + k * 2 + 1, none⟩ = some (.int .i64 xs[k].2)
theorem Rd.below {w w' : World} {v : Value} {xs : List (Int × Int)} (h : Rd w v xs) (k : Below w.heap.size w w') : Rd w' v xs := by
  rcases h with h | ⟨b, o, c, e, hb, hc⟩
  · exact .inl h
  · exact .inr ⟨b, o, c, e, Nat.lt_of_lt_of_le hb k.size, fun i hi => ⟨(k.cell (p := ⟨b, _, none⟩) hb).trans (hc i hi).1, (k.cell (p := ⟨b, _, none⟩) hb).trans (hc i hi).2⟩⟩
theorem Rd.of_row {w : World} {base T n : Nat} {v : Value} {xs : List (Int × Int)} (h : w.ownsRow base T 2 v n (wcells xs)) (hn : n = xs.length) : Rd w v xs := by
  subst hn
  rcases h.2 with ⟨rfl, h0⟩ | ⟨g, cap, cur, rfl, _, hg, _⟩
  · exact .inl ⟨rfl, List.eq_nil_of_length_eq_zero h0⟩
  · refine .inr ⟨g, 0, cap, rfl, lt_of_heap hg, fun k hk => ?_⟩
    rw [Nat.zero_add]
    exact ⟨row_cell h (wcells_fst hk), row_cell h (wcells_snd hk)⟩
theorem Rd.shape {w : World} {v : Value} {xs : List (Int × Int)} (h : Rd w v xs) : ∃ ao c, v = .slice ao xs.length c := by
  rcases h with ⟨rfl, rfl⟩ | ⟨b, o, c, rfl, _⟩
  · exact ⟨none, 0, rfl⟩
  · exact ⟨_, _, rfl⟩
theorem Rd.some {w : World} {v : Value} {xs : List (Int × Int)} (h : Rd w v xs) (hx : 0 < xs.length) : ∃ b o c, v = .slice (some ⟨b, o, none⟩) xs.length c ∧ b < w.heap.size ∧
    ∀ k (hk : k < xs.length), w.cell? ⟨b, o + k * 2, none⟩ = some (.int .i64 xs[k].1) ∧ w.cell? ⟨b, o + k * 2 + 1, none⟩ = some (.int .i64 xs[k].2) := by
  rcases h with ⟨rfl, rfl⟩ | h
  · simp at hx
  · exact h
end Go.Proofs.Ytpfnnmcokbolhaa
namespace Go.Proofs.Ytpfnnmcokbolhaa
open Go.RowKit
set_option pp.deepTerms true
/-- a space that nobody made -/
theorem Spc.zero (w : World) : Spc (w.alloc (.cells #[.slice none 0 0, .int .i64 0] 50)) w.heap.size ⟨[], 0⟩ [w.heap.size] := by
  refine ⟨.slice none 0 0, [], ⟨heap_alloc_new w _, World.ownsRow_nil _ _ _ _, by simp, by simp [foot, Value.ownBlock]⟩, ⟨by simp, by simp, by simp, by simp, by simp⟩, rfl, by simp [foot, Value.ownBlock]⟩

namespace Al
def a0 : Sp := ⟨[], 0⟩
def a1 : Sp := ⟨[⟨1, [(0, 0), (0, 0), (0, 0)]⟩], 3⟩
def a2 : Sp := ⟨[⟨1, [(0, 0), (0, 0), (0, 0)]⟩, ⟨5, [(0, 0)]⟩], 5⟩
def a3 : Sp := ⟨[⟨1, [(0, 0), (0, 0), (1, 7)]⟩, ⟨5, [(0, 0)]⟩], 5⟩
def a4 : Sp := ⟨[⟨5, [(0, 0)]⟩], 5⟩
def a5 : Sp := ⟨[⟨5, [(0, 0)]⟩, ⟨7, [(0, 0), (0, 0)]⟩], 8⟩
theorem t0 : a0.take 3 = ((1, 0), a1) := by rfl
theorem t1 : a1.take 1 = ((5, 0), a2) := by rfl
theorem t2 : a2.put 3 (1, 7) = (0, a3) := by rfl
theorem t3 : a3.get 3 = ((1, 7), 0) := by rfl
theorem t4 : a3.get 2 = ((0, 0), 212) := by rfl
theorem t5 : a3.get 4 = ((0, 0), 210) := by rfl
theorem t6 : a3.let_ 1 = (0, a4) := by rfl
end Al

/-- a space of the call's own, in block p, made since w; E: other blocks of the call's own, with what they hold -/
def Loc (w : World) (p : Nat) (S : Sp) (E : List (Nat × Obj)) (W : World) : Prop := ∃ fs, Spc W p S fs ∧ (∀ b ∈ fs, w.heap.size ≤ b) ∧ Below w.heap.size w W ∧ ∀ x ∈ E, x.1 ∉ fs ∧ W.heap[x.1]? = some x.2

theorem Kp.to_below {w W W' : World} {fs : List Nat} (k : Kp fs W W') (hb : Below w.heap.size w W) (hf : ∀ b ∈ fs, w.heap.size ≤ b) : Below w.heap.size w W' :=
  hb.trans ⟨k.os, k.tape, k.output, k.size, fun i hi => k.block i (Nat.lt_of_lt_of_le hi hb.size) (fun q => by have := hf i q; omega)⟩
theorem Loc.stp {w W W' : World} {p : Nat} {S' : Sp} {E : List (Nat × Obj)} {fs : List Nat} (hf : ∀ b ∈ fs, w.heap.size ≤ b) (hb : Below w.heap.size w W) (hE : ∀ x ∈ E, x.1 ∉ fs ∧ W.heap[x.1]? = some x.2) (hs : Stp W p fs S' W') : Loc w p S' E W' := by
  obtain ⟨fs', h1, h2, h3⟩ := hs
  refine ⟨fs', h1, fun b hb' => (h3 b hb').elim (hf b) (fun q => Nat.le_trans hb.size q), h2.to_below hb hf, fun x hx => ⟨fun q => ?_, h2.at (hE x hx).2 (hE x hx).1⟩⟩
  rcases h3 _ q with q | q
  · exact (hE x hx).1 q
  · have := lt_of_heap (hE x hx).2; omega
theorem Loc.keep {w W W' : World} {p : Nat} {S : Sp} {E : List (Nat × Obj)} (h : Loc w p S E W) (k : Below W.heap.size W W') : Loc w p S E W' := by
  obtain ⟨fs, h1, h2, h3, h4⟩ := h
  exact ⟨fs, h1.below k, h2, h3.trans (k.mono h3.size), fun x hx => ⟨(h4 x hx).1, below_at k (h4 x hx).2 (lt_of_heap (h4 x hx).2)⟩⟩
theorem Loc.size {w W : World} {p : Nat} {S : Sp} {E : List (Nat × Obj)} (h : Loc w p S E W) : Below w.heap.size w W := let ⟨_, _, _, q, _⟩ := h; q
theorem Loc.zero (w : World) : Loc w w.heap.size ⟨[], 0⟩ [] (w.alloc (.cells #[.slice none 0 0, .int .i64 0] 50)) := ⟨_, Spc.zero w, by simp, (Below.refl _ _).alloc (Nat.le_refl _) _, by simp⟩
/-- a new block of the call's own -/
theorem Loc.alloc {w W : World} {p : Nat} {S : Sp} {E : List (Nat × Obj)} (h : Loc w p S E W) (o : Obj) : Loc w p S ((W.heap.size, o) :: E) (W.alloc o) := by
  have hk := h.keep ((Below.refl W.heap.size W).alloc (Nat.le_refl _) o)
  obtain ⟨fs, h1, h2, h3, h4⟩ := hk
  obtain ⟨fs0, q1, q2, q3, q4⟩ := h
  refine ⟨fs0, q1.below ((Below.refl W.heap.size W).alloc (Nat.le_refl _) o), q2, h3, fun x hx => ?_⟩
  rcases List.mem_cons.1 hx with rfl | hx
  · exact ⟨fun q => by have := q1.lt _ q; omega, heap_alloc_new W o⟩
  · exact ⟨(q4 x hx).1, (h4 x hx).2⟩
theorem Loc.box {w W : World} {p : Nat} {S : Sp} {E : List (Nat × Obj)} (h : Loc w p S E W) {b j : Nat} {cs : Array Value} {T : TypeId} {v : Value} (hm : (b, Obj.cells cs T (0, 0)) ∈ E) (hv : cs[j]? = some v) : W.cell? ⟨b, j, none⟩ = some v := by
  obtain ⟨fs, h1, h2, h3, h4⟩ := h
  rw [cell_of_row W b j _ _ _ (h4 _ hm).2, hv]
section
variable {w W : World} {p : Nat} {S S' : Sp} {E : List (Nat × Obj)}
end

end Go.Proofs.Ytpfnnmcokbolhaa
/- The laws' operations: a slice of structs of six numbers, as it comes in. -/
namespace Go.Proofs.Ytpfnnmcokbolhaa
open Go.ChangeShapes Go.WideShapes Go.RowKit Go.Deep
/-- one operation -/
structure Opr where
  k : Int
  n : Int
  a : Int
  b : Int
  t : Int
  v : Int
def In64 (x : Int) : Prop := -9223372036854775808 ≤ x ∧ x ≤ 9223372036854775807
def OprOk (o : Opr) : Prop := In64 o.k ∧ In64 o.n ∧ In64 o.a ∧ In64 o.b ∧ In64 o.t ∧ In64 o.v
def Opr0 : Opr := ⟨0, 0, 0, 0, 0, 0⟩
instance : Inhabited Opr := ⟨Opr0⟩
def OprAt (w : World) (b o : Nat) (x : Opr) : Prop :=
  w.cell? ⟨b, o, none⟩ = some (.int .i64 x.k) ∧ w.cell? ⟨b, o + 1, none⟩ = some (.int .i64 x.n) ∧ w.cell? ⟨b, o + 2, none⟩ = some (.int .i64 x.a) ∧
    w.cell? ⟨b, o + 3, none⟩ = some (.int .i64 x.b) ∧ w.cell? ⟨b, o + 4, none⟩ = some (.int .i64 x.t) ∧ w.cell? ⟨b, o + 5, none⟩ = some (.int .i64 x.v)
/-- a slice of operations reads as os -/
def OpsAt (w : World) (v : Value) (os : List Opr) : Prop :=
  (∃ ao c, v = .slice ao os.length c) ∧ os.length ≤ maxLen ∧ (∀ x ∈ os, OprOk x) ∧ (0 < os.length → ∃ b o c, v = .slice (some ⟨b, o, none⟩) os.length c ∧ b < w.heap.size ∧
    ∀ i (hi : i < os.length), OprAt w b (o + i * 6) os[i])
theorem OprAt.below {w w' : World} {b o : Nat} {x : Opr} (h : OprAt w b o x) (k : Below w.heap.size w w') (hb : b < w.heap.size) : OprAt w' b o x := by
  obtain ⟨h0, h1, h2, h3, h4, h5⟩ := h
  exact ⟨(k.cell (p := ⟨b, _, none⟩) hb).trans h0, (k.cell (p := ⟨b, _, none⟩) hb).trans h1, (k.cell (p := ⟨b, _, none⟩) hb).trans h2, (k.cell (p := ⟨b, _, none⟩) hb).trans h3, (k.cell (p := ⟨b, _, none⟩) hb).trans h4, (k.cell (p := ⟨b, _, none⟩) hb).trans h5⟩
theorem OpsAt.below {w w' : World} {v : Value} {os : List Opr} (h : OpsAt w v os) (k : Below w.heap.size w w') : OpsAt w' v os := by
  obtain ⟨h1, h0, h2, h3⟩ := h
  refine ⟨h1, h0, h2, fun hp => ?_⟩
  obtain ⟨b, o, c, e, hb, hc⟩ := h3 hp
  exact ⟨b, o, c, e, Nat.lt_of_lt_of_le hb k.size, fun i hi => (hc i hi).below k hb⟩
theorem cell_lt {w : World} {a : Addr} {v : Value} (h : w.cell? a = some v) : a.block < w.heap.size := by
  unfold World.cell? at h
  rcases Nat.lt_or_ge a.block w.heap.size with h' | h'
  · exact h'
  · rw [Array.getElem?_eq_none h'] at h
    cases h
end Go.Proofs.Ytpfnnmcokbolhaa
/- Great: no operation asks for too much. -/
namespace Go.Proofs.Ytpfnnmcokbolhaa
open Go.RowKit
def Bad (x : Opr) : Prop := x.k = 0 ∧ 200 < x.n ∧ x.n ≤ 1048576
instance (x : Opr) : Decidable (Bad x) := by unfold Bad; infer_instance
end Go.Proofs.Ytpfnnmcokbolhaa
/- What the laws ask of a space, in plain words. -/
namespace Go.Proofs.Ytpfnnmcokbolhaa
open Go.RowKit

def Spok (S : Sp) : Prop := ∃ ls : List LReg, S.regs = ls.map LReg.reg ∧ RegsOk S.last ls
theorem Spc.ok {w : World} {p : Nat} {S : Sp} {fs : List Nat} (h : Spc w p S fs) : Spok S := let ⟨_, ls, _, ok, hr, _⟩ := h; ⟨ls, hr, ok⟩
theorem Loc.ok {w W : World} {p : Nat} {S : Sp} {E : List (Nat × Obj)} (h : Loc w p S E W) : Spok S := let ⟨_, h1, _⟩ := h; h1.ok
theorem Spok.last0 {S : Sp} (h : Spok S) : 0 ≤ S.last := let ⟨_, _, ok⟩ := h; ok.last0
theorem Spok.last1 {S : Sp} (h : Spok S) : S.last ≤ 2305843009213693952 := let ⟨_, _, ok⟩ := h; ok.last1
theorem tells_get {rs : List Reg} {i : Nat} (hi : i < (tells rs).length) : ∃ h : i < rs.length, (tells rs)[i] = (rs[i].base, (rs[i].words.length : Int)) := ⟨by simpa [tells] using hi, by simp [tells]⟩

theorem tells_at {S : Sp} (h : Spok S) {i : Nat} (hi : i < (tells S.regs).length) :
    1 ≤ (tells S.regs)[i].1 ∧ 1 ≤ (tells S.regs)[i].2 ∧ (tells S.regs)[i].1 + (tells S.regs)[i].2 ≤ S.last + 1 ∧
    S.of (tells S.regs)[i].1 = ((tells S.regs)[i], true) ∧ S.of ((tells S.regs)[i].1 + (tells S.regs)[i].2 - 1) = ((tells S.regs)[i], true) := by
  obtain ⟨hr, e⟩ := tells_get hi
  obtain ⟨ls, hl, ok⟩ := h
  have hil : i < ls.length := by rw [hl] at hr; simpa using hr
  have er : S.regs[i] = ls[i].reg := by simp [hl]
  rw [e, er]
  obtain ⟨l1, l2, l3, l4⟩ := ok.lo ls[i] (List.getElem_mem hil)
  have q0 := loc_at ok hil (j := 0) (m := 1) (by omega) (by omega)
  have q1 := loc_at ok hil (j := ls[i].words.length - 1) (m := 1) (by omega) (by omega)
  have ea : ls[i].base + ((ls[i].words.length - 1 : Nat) : Int) = ls[i].base + (ls[i].words.length : Int) - 1 := by omega
  rw [ea] at q1
  simp only [Int.natCast_zero, Int.add_zero] at q0
  refine ⟨l1, by simp only [LReg.reg]; omega, by simpa [LReg.reg] using l4, ?_, ?_⟩
  · unfold Sp.of
    rw [hl]
    simp only [LReg.reg] at q0 ⊢
    rw [q0]
    simp [hil, wordsAt, LReg.reg]
  · unfold Sp.of
    rw [hl]
    simp only [LReg.reg] at q1 ⊢
    rw [q1]
    simp [hil, wordsAt, LReg.reg]
/-- what a Take that answers is -/
theorem take_cases (S : Sp) (m : Int) : (S.take m = ((0, 211), S)) ∨ (1 ≤ m ∧ m ≤ 1048576 ∧ S.take m = ((nextBase S.last, 0), (S.take m).2) ∧ (S.take m).2.last = nextBase S.last + m - 1) := by
  by_cases h : m < 1 ∨ 1048576 < m ∨ 4194304 < (total S.regs : Int) + m
  · exact .inl (by unfold Sp.take; rw [if_pos h])
  · have e : S.take m = ((nextBase S.last, 0), ⟨S.regs ++ [⟨nextBase S.last, List.replicate m.toNat (0, 0)⟩], nextBase S.last + m - 1⟩) := by unfold Sp.take; rw [if_neg h]
    exact .inr ⟨by omega, by omega, by rw [e], by rw [e]⟩
theorem let_last (S : Sp) (a : Int) : (S.let_ a).2.last = S.last := by unfold Sp.let_; split <;> rfl
end Go.Proofs.Ytpfnnmcokbolhaa
/- The full words of a space: what each method leaves of them. -/
namespace Go.Proofs.Ytpfnnmcokbolhaa
open Go.RowKit

/-- the word at an address, if it is not empty -/
def full (S : Sp) (a : Int) : Option (Int × Int) :=
  match locate S.regs a 1 with
  | some (i, j) => if wordAt S.regs i j = (0, 0) then none else some (wordAt S.regs i j)
  | none => none
/-! what the methods leave -/
end Go.Proofs.Ytpfnnmcokbolhaa
/- How the document's space lies in memory, and its functions that only read. -/
namespace Go.Proofs.Ytpfnnmcokbolhaa
open Go.RowKit

def LReg.sl (r : LReg) : Value := .slice (some ⟨r.wb, 0, none⟩) r.words.length r.cap
section
variable {w : World} {p : Nat} {last : Int} {rv wv : Value} {ls : List LReg}
end
end Go.Proofs.Ytpfnnmcokbolhaa
namespace Go.Proofs.Ytpfnnmcokbolhaa
open Go.RowKit
set_option pp.deepTerms true
theorem Loc.new {w W : World} (h : Below w.heap.size w W) : Loc w W.heap.size ⟨[], 0⟩ [] (W.alloc (.cells #[.slice none 0 0, .int .i64 0] 50)) := by
  have hb : Below w.heap.size w (W.alloc (.cells #[.slice none 0 0, .int .i64 0] 50)) := h.alloc h.size _
  exact ⟨_, Spc.zero W, by intro b hb; simp at hb; subst hb; exact h.size, hb, by simp⟩
section
variable {w W : World} {p : Nat} {S : Sp} {E : List (Nat × Obj)}
end
end Go.Proofs.Ytpfnnmcokbolhaa
/- A map of pairs that a law makes, beside a space of its own; and what it holds, in plain words. -/
namespace Go.Proofs.Ytpfnnmcokbolhaa
open Go.RowKit Go.Maps Go.MapKept Go.ChangeShapes Go.WideShapes Go.WideElems

def pd (v : Int × Int) : DataW Unit := .agg [.lit (.int .i64 v.1), .lit (.int .i64 v.2)]
/-- how a pair in the map reads -/
def pairElem : Value → Option (DataW Unit × List MemPlace)
  | .agg cs => match cs.toList with
    | [.int .i64 t, .int .i64 n] => some (pd (t, n), [])
    | _ => none
  | _ => none
/-- the datum holds f: at each key in range what f says; all keys are numbers -/
def keyB : Lit → Bool
  | .int .i64 a => decide (-9223372036854775808 ≤ a) && decide (a ≤ 9223372036854775807)
  | _ => false
def MapIs (D : DataW Unit) (f : Int → Option (Int × Int)) : Prop :=
  (∃ es, D = .map es ∧ es.any (fun p => !keyB p.1) = false) ∧ ∀ a, has D (.int .i64 a) = (f a).isSome ∧ D.atKey (.int .i64 a) (pd (0, 0)) = pd ((f a).getD (0, 0))
theorem mapIs_ext {D : DataW Unit} {f g : Int → Option (Int × Int)} (h : MapIs D f) (e : ∀ a, g a = f a) : MapIs D g := ⟨h.1, fun a => by rw [e]; exact h.2 a⟩
/-- what the object in a map's block is good for -/
def MObj (o : Obj) (n : Nat) (D : DataW Unit) : Prop := ∃ es clock, o = .map es clock ∧ Fit Try.prog 2 pairElem es clock ∧ es.size ≤ n ∧ D = .map ((es.toList.map (rg Try.prog 2 pairElem)).foldr DataW.insert [])
abbrev Owns (W : World) (m n : Nat) (D : DataW Unit) : Prop := W.ownsMap Try.prog 2 pairElem m n D
theorem MObj.owns {o : Obj} {n : Nat} {D : DataW Unit} (h : MObj o n D) {W : World} {m : Nat} (hm : W.heap[m]? = some o) : Owns W m n D := by
  obtain ⟨es, clock, rfl, F, hs, hD⟩ := h
  exact ⟨es, clock, hm, F, hs, hD⟩
theorem MObj.mono {o : Obj} {n n' : Nat} {D : DataW Unit} (h : MObj o n D) (hn : n ≤ n') : MObj o n' D := let ⟨es, clock, a, F, hs, hD⟩ := h; ⟨es, clock, a, F, Nat.le_trans hs hn, hD⟩
theorem Loc.weak {w W : World} {p : Nat} {S : Sp} {E E' : List (Nat × Obj)} (h : Loc w p S E W) (hs : ∀ x ∈ E', x ∈ E) : Loc w p S E' W := let ⟨fs, h1, h2, h3, h4⟩ := h; ⟨fs, h1, h2, h3, fun x hx => h4 x (hs x hx)⟩
end Go.Proofs.Ytpfnnmcokbolhaa
/- As many keys as there are full words. -/
namespace Go.Proofs.Ytpfnnmcokbolhaa
open Go.RowKit Go.Maps

end Go.Proofs.Ytpfnnmcokbolhaa
/- The document's Live, Of, Has, Get. -/
namespace Go.Proofs.Ytpfnnmcokbolhaa
open Go.RowKit
section
variable {w : World} {p : Nat} {last : Int} {rv wv : Value} {ls : List LReg}
/-- a word is empty, or has a type -/
def Words (ls : List LReg) : Prop := ∀ r ∈ ls, ∀ v ∈ r.words, v = (0, 0) ∨ v.1 ≠ 0
end
end Go.Proofs.Ytpfnnmcokbolhaa
/- The document's Put, and Check. -/
namespace Go.Proofs.Ytpfnnmcokbolhaa
open Go.RowKit
section
variable {w w' : World} {p : Nat} {last : Int} {rv wv : Value} {ls : List LReg}
end
end Go.Proofs.Ytpfnnmcokbolhaa
/- The document's Drop. -/
namespace Go.Proofs.Ytpfnnmcokbolhaa
open Go.RowKit
theorem kp_cell {fs : List Nat} {w W : World} (k : Kp fs w W) {b j : Nat} (hb : b < w.heap.size) (hn : b ∉ fs) : W.cell? ⟨b, j, none⟩ = w.cell? ⟨b, j, none⟩ := World.cell?_of_block (k.block b hb hn)
section
variable {w w' : World} {p : Nat} {last : Int} {rv wv : Value} {ls : List LReg}
end
end Go.Proofs.Ytpfnnmcokbolhaa
/- The document's Run. -/
namespace Go.Proofs.Ytpfnnmcokbolhaa
open Go.RowKit
section
variable {w w' : World} {p : Nat} {last : Int} {rv wv : Value} {ls : List LReg}
end
end Go.Proofs.Ytpfnnmcokbolhaa
/- The document's Move. -/
namespace Go.Proofs.Ytpfnnmcokbolhaa
open Go.RowKit
section
variable {w w' : World} {p : Nat} {last : Int} {rv wv : Value} {ls : List LReg}
end
end Go.Proofs.Ytpfnnmcokbolhaa
/- The document's Take. -/
namespace Go.Proofs.Ytpfnnmcokbolhaa
open Go.RowKit
section
variable {w w' : World} {p : Nat} {last : Int} {rv wv : Value} {ls : List LReg}
end
end Go.Proofs.Ytpfnnmcokbolhaa
/- The document's Let: the plain part. -/
namespace Go.Proofs.Ytpfnnmcokbolhaa
open Go.RowKit
section
variable {w : World} {p : Nat} {last : Int} {rv wv : Value} {ls : List LReg}
end
end Go.Proofs.Ytpfnnmcokbolhaa
/- The document's Let. -/
namespace Go.Proofs.Ytpfnnmcokbolhaa
open Go.RowKit
set_option pp.deepTerms true
section
variable {w : World} {p : Nat} {last : Int} {rv wv : Value} {ls : List LReg}
theorem own_shape {w : World} {base e size n : Nat} {v : Value} {xs : List Value} (h : w.ownsRow base e size v n xs) : ∃ ao c, v = .slice ao n c := by
  rcases h.2 with ⟨rfl, rfl⟩ | ⟨g, cap, cur, rfl, _⟩
  · exact ⟨_, _, rfl⟩
  · exact ⟨_, _, rfl⟩
end
end Go.Proofs.Ytpfnnmcokbolhaa
/- Two spaces alike: the program's and the document's, both of the call's own; the methods' contracts over both. -/
namespace Go.Proofs.Ytpfnnmcokbolhaa
open Go.RowKit
section
variable {w W W' : World} {p pr : Nat} {S S' R R' : Sp} {E : List (Nat × Obj)} {fs gs : List Nat}
end
end Go.Proofs.Ytpfnnmcokbolhaa
/- A play's step (layer 21), kinds 1, 2, 4, 5: both calls, one answer. -/
namespace Go.Proofs.Ytpfnnmcokbolhaa
open Go.RowKit
set_option pp.deepTerms true
attribute [local go_sem ↓] Go.wp_at_zero Go.wp_at_succ
theorem undrew {W W' : World} (h : Below W.drew.heap.size W.drew W') : Below W.heap.size W W' := ⟨h.os, h.tape, h.output, h.size, h.block⟩
section
variable {w W : World} {q B p pr : Nat} {S R : Sp} {k n a b t v : Int}
end
end Go.Proofs.Ytpfnnmcokbolhaa
/- A region that draws its order in the body of a loop over an iterator: what is shown of it by the unfenced laws holds in the round, too. -/
namespace Go.Proofs.Ytpfnnmcokbolhaa
open Go.RowKit
section
variable {l n : Nat} {P : Program} {Q : Exit → Act → World → Prop} {ops : Array Oper} {md : Region.Mode}
theorem rowsIn_round {row : String} {args : Array Value} {w : World} {R : Value → World → Prop} (h : Rows P row args w R) : RowsIn (Fence.wide.inRound l) n P row args w R :=
  fun c cs _ => let ⟨v, w', r, s⟩ := h c cs; ⟨v, w', r, stepsIn_wide.2 s⟩
theorem callsIn_round {f : FuncId} {args : Array Value} {w : World} {R : Ending → World → Prop} (h : Calls P f args w R) : CallsIn (Fence.wide.inRound l) n P f args w R :=
  ⟨trivial, fun cs _ => let ⟨e, w', fr, r, s, x⟩ := h cs; ⟨e, w', fr, r, comesIn_wide.2 s, x⟩⟩
theorem oper_round {o : Oper} {a : Act} {w : World} {K K' : Act → World → Prop} (hd : ∀ c, o.op ≠ .defer c) (hK : ∀ a w, K a w → K' a w) (h : o.wp P a w K Q) : o.wpIn (Fence.wide.inRound l) n P a w K' Q := by
  unfold Oper.wp at h
  unfold Oper.wpIn
  refine ⟨fun _ _ => trivial, ?_⟩
  rw [Oper.semAt_eq _ _ _ hd]
  generalize (execOp a.eval o).run P w = r at h
  cases r with
  | ok x w' =>
    cases x <;> simp only [Oper.upon, Oper.uponIn] at h ⊢
    case enter f args => exact ⟨(fun q => by cases q), callsIn_round (h.mono (fun e w'' he => by cases e <;> first | exact hK _ _ he | exact he))⟩
    case row row args => exact ⟨(fun q => by cases q), rowsIn_round (h.mono (fun _ _ he => hK _ _ he))⟩
    all_goals exact hK _ _ h
  | halt x w' => cases x <;> simp only [Oper.upon, Oper.uponIn] at h ⊢ <;> exact h
theorem any_round (hL : ¬ LetsOut Q) (hd : ∀ (i : Nat) (o : Oper) c, ops[i]? = some o → o.op ≠ .defer c) : ∀ (fuel : Nat) (listed : Array Bool) (a : Act) (w : World), wpAny P md ops Q fuel listed a w → wpAnyIn (Fence.wide.inRound l) n P md ops Q fuel listed a w
  | 0, _, _, _, h => h
  | fuel + 1, listed, a, w, h => by
    refine ⟨h.1, fun i hi => ?_⟩
    have h2 := h.2 i hi
    unfold wpOp at h2
    unfold wpOpIn
    cases ho : ops[i]? with
    | none => rw [ho] at h2; exact any_round hL hd fuel _ _ _ h2
    | some o =>
      rw [ho] at h2
      simp only at h2 ⊢
      by_cases hw : Region.wanted o (yielded ops a.tmps) = true
      · rw [if_pos hw] at h2 ⊢
        rcases h2 with h2 | h2
        · exact oper_round (hd i o · ho) (fun a w q => any_round hL hd fuel _ a w q) h2
        · exact absurd h2.2 hL
      · rw [if_neg hw] at h2 ⊢
        exact ⟨fun _ _ => trivial, any_round hL hd fuel _ _ _ h2⟩
theorem no_defer (h : ops.all (fun o => match o.op with | .defer _ => false | _ => true) = true) (i : Nat) (o : Oper) (c : _) (ho : ops[i]? = some o) : o.op ≠ .defer c := by
  intro e
  obtain ⟨hi, rfl⟩ := Array.getElem?_eq_some_iff.1 ho
  have := Array.all_eq_true.1 h i hi
  rw [e] at this
  cases this
theorem region_round {id : Nat} {S : World → Prop} {a : Act} {w : World} (hm : P.follows .mixedOrders = true) (hL : ¬ LetsOut Q) (hd : ∀ (i : Nat) (o : Oper) c, ops[i]? = some o → o.op ≠ .defer c) (hS : S w.drew)
    (h : S w.drew → wpAnyH P .any ops Q S ops.size (Array.replicate ops.size false) a w.drew) : (Code.region id ops true).wpIn (Fence.wide.inRound l) n P Q a w :=
  wpIn_region_any hm (any_round hL hd _ _ _ _ (wpAny_of_held _ _ _ _ (h hS)))
end
end Go.Proofs.Ytpfnnmcokbolhaa
/- The document's Copy. -/
namespace Go.Proofs.Ytpfnnmcokbolhaa
open Go.RowKit
set_option pp.deepTerms true
section
variable {w W : World} {C : Nat} {last : Int} {rv tv : Value} {ls ls' : List LReg}
end
end Go.Proofs.Ytpfnnmcokbolhaa
/- The document's Copy: the walk. -/
namespace Go.Proofs.Ytpfnnmcokbolhaa
open Go.RowKit
set_option pp.deepTerms true
attribute [local go_sem ↓] Go.wp_at_zero Go.wp_at_succ
section
variable {w : World} {p : Nat}
theorem grown_cell {w w1 : World} {row : Option Nat} (hg : w.grownBy w1 row) {a : Addr} {v : Value} (h : w.cell? a = some v) (hne : some a.block ≠ row) : w1.cell? a = some v := (World.cell?_of_block (hg.block _ (cell_lt h) hne)).trans h
theorem alloc_cell {w : World} {o : Obj} {a : Addr} {v : Value} (h : w.cell? a = some v) : (w.alloc o).cell? a = some v := (cell_alloc (cell_lt h)).trans h
theorem wc_one {l : List (Int × Int)} : ∀ u ∈ wcells l, u.oneCell' = true := by
  intro u hu
  simp only [wcells, wcell, List.mem_flatMap, List.mem_cons, List.not_mem_nil, or_false] at hu
  obtain ⟨r, _, rfl | rfl⟩ := hu <;> rfl
end
end Go.Proofs.Ytpfnnmcokbolhaa
