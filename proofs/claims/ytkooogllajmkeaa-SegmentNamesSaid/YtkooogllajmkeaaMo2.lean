/- Parts Bl Pt Dp Mv Ea Lv Rg, put together. -/
import Derived.Test.YtkooogllajmkeaaMo1
import Derived.Laws.CopyOwn
import Derived.RangeFuncNested
import Derived.RangeFuncBound
import Derived.RangeFuncCalls
import Derived.RangeFuncLeaves
import Derived.Shelf.Abstract
import Derived.OwnWalkIn
import Derived.TacticsInMore
import Derived.LoopNIn
import Derived.LoopIn
import Derived.WalkMore
import Derived.Maps.AppendAt
/- Laws of clear and copy at a row of elements of whatever size. -/
namespace Go.Proofs.Ytkooogllajmkeaa
open Go.RowKit

section
variable {P : Program} {w : World} {base : Nat} {e : TypeId} {size g n cap : Nat} {xs : List Value}

theorem length_splice' {α : Type} (L : List α) (off : Nat) (cs : List α) (h : off + cs.length ≤ L.length) : (splice L off cs).length = L.length := by simp [splice]; omega

theorem row_store (h : w.ownsRow base e size (.slice (some ⟨g, 0, none⟩) n cap) n xs) (o : Nat) (vs : List Value) (hfit : o + vs.length ≤ n * size) (h1 : ∀ v ∈ vs, v.oneCell' = true) :
    ∃ w', (storeCells ⟨g, o, none⟩ vs 0).run P w = .ok () w' ∧ w'.ownsRow base e size (.slice (some ⟨g, 0, none⟩) n cap) n (splice xs o vs) ∧ w.grownBy w' (some g) := by
  obtain ⟨hl, q | ⟨g', cap', cur, hv, hb, hg, hn, hm, hs, ht⟩⟩ := h
  · simp at q
  · simp only [Value.slice.injEq, Option.some.injEq, Addr.mk.injEq, and_true, true_and] at hv
    obtain ⟨rfl, rfl⟩ := hv
    have hnc : n * size ≤ cap * size := Nat.mul_le_mul_right _ hn
    have hst := run_storeCells_at P g o e vs 0 cur w hg (by rw [hs]; simp; omega) h1
    simp only [Nat.add_zero] at hst
    refine ⟨_, hst, ⟨by rw [length_splice' _ _ _ (by omega)]; exact hl, .inr ⟨g, cap, _, rfl, hb, setRow_heap w g _ _ e _ hg, hn, hm, ?_, ?_⟩⟩, ⟨rfl, rfl, rfl, by simp [World.setRow], fun k _ hk => setRow_other w g k _ (fun q => hk (by rw [q]))⟩⟩
    · simp only [List.size_toArray, List.length_append, List.length_take, List.length_drop, Array.length_toList]; omega
    · subst ht
      simp only [splice, List.take_append, List.take_take, List.length_take, List.length_append, Array.length_toList, List.drop_take, hs]
      have hc : cur.toList.length = cap * size := by simp [hs]
      rw [Nat.min_eq_right (by omega), Nat.min_eq_left (by omega), Nat.min_eq_left (by omega), List.take_of_length_le (l := vs) (by omega), List.append_assoc]

theorem wpList_clear_row {ops : Array Oper} {rest : List Oper} {o : Oper} {a : Act} {Q : Exit → Act → World → Prop} (hgd : o.guard = none) (s : Operand) (t : TypeId)
    (ho : o.op = .call { callee := .builtin .clear, args := #[s], argTypes := #[t] }) (ht : P.underlying t = some (.slice e)) (z : Value) (hv : ∀ w, (zeroValue e).run P w = .ok z w)
    (off k c : Nat) (hs : a.eval s = .slice (some ⟨g, off, none⟩) k c) (h1 : 1 ≤ k) (hown : w.ownsRow base e size (.slice (some ⟨g, 0, none⟩) n cap) n xs)
    (zs : List Value) (hzs : (Builtin.zeroCells z.cells k).toList = zs) (hfit : off + zs.length ≤ n * size) (hone : ∀ v ∈ zs, v.oneCell' = true)
    (h : ∀ w', w'.ownsRow base e size (.slice (some ⟨g, 0, none⟩) n cap) n (splice xs off zs) → w.grownBy w' (some g) → wpList P ops Q rest (a.put o.dst (.tuple #[])) w') : wpList P ops Q (o :: rest) a w := by
  refine wpList_plain hgd fun K hK => ?_
  obtain ⟨w', hst, hr, hg⟩ := row_store (P := P) hown off zs hfit hone
  obtain ⟨k, rfl⟩ : ∃ m, k = m + 1 := ⟨k - 1, by omega⟩
  have hrun : (Builtin.clear_ #[t] o.type #[.slice (some ⟨g, off, none⟩) (k + 1) c]).run P w = .ok (.tuple #[]) w' := by
    simp [Builtin.clear_, run_underlying ht, hv, hzs, hst]
  unfold Oper.wp
  simp [execOp, ho, resolve, invoke, builtin, hs, hrun, Result.andThen]
  exact hK _ _ (h w' hr hg)

theorem wpList_copy_row {ops : Array Oper} {rest : List Oper} {o : Oper} {a : Act} {Q : Exit → Act → World → Prop} (hgd : o.guard = none) (d s : Operand) (dT sT : TypeId)
    (ho : o.op = .call { callee := .builtin .copy, args := #[d, s], argTypes := #[dT, sT] }) (hu : P.underlying dT = some (.slice e)) (hsz : (P.info? e).map (·.size) = some size)
    (off dLen dCap : Nat) (ad : Addr) (sLen sCap : Nat) (hd : a.eval d = .slice (some ⟨g, off, none⟩) dLen dCap) (hs : a.eval s = .slice (some ad) sLen sCap)
    (hown : w.ownsRow base e size (.slice (some ⟨g, 0, none⟩) n cap) n xs) (cs : List Value) (hn : cs.length = Nat.min sLen dLen * size)
    (hsrc : ∀ j v, cs[j]? = some v → w.cell? (ad.add j) = some v) (hfit : off + cs.length ≤ n * size) (h1 : ∀ v ∈ cs, v.oneCell' = true)
    (h : ∀ w', w'.ownsRow base e size (.slice (some ⟨g, 0, none⟩) n cap) n (splice xs off cs) → w.grownBy w' (some g) → wpList P ops Q rest (a.put o.dst (goInt (Nat.min sLen dLen))) w') : wpList P ops Q (o :: rest) a w := by
  refine wpList_plain hgd fun K hK => ?_
  obtain ⟨w', hst, hr, hg⟩ := row_store (P := P) hown off cs hfit h1
  have hf := run_firstCells_some (P := P) w size (Nat.min sLen dLen) ad sLen sCap cs hn hsrc
  have hrun : (Builtin.copy_ #[dT, sT] o.type #[.slice (some ⟨g, off, none⟩) dLen dCap, .slice (some ad) sLen sCap]).run P w = .ok (goInt (Nat.min sLen dLen)) w' := by
    cases hq : P.info? e with
    | none => simp [hq] at hsz
    | some i =>
      have hi : i.size = size := by simpa [hq] using hsz
      simp [Builtin.copy_, run_underlying hu, Builtin.lenOf, sizeOf, typeInfo, hq, hi, hf, hst]
  unfold Oper.wp
  simp [execOp, ho, resolve, invoke, builtin, hd, hs, hrun, Result.andThen]
  exact hK _ _ (h w' hr hg)
end
end Go.Proofs.Ytkooogllajmkeaa
/- The contract of Put: a value is put into a word. -/
namespace Go.Proofs.Ytkooogllajmkeaa
open Go.RowKit

/-- region i has other words -/
def setWords (ls : List LReg) (i : Nat) (ws : List (Int × Int)) : List LReg := ls.modify i (fun r => { r with words := ws })
theorem setWords_get {ls : List LReg} {i : Nat} {ws : List (Int × Int)} (k : Nat) : (setWords ls i ws)[k]? = (ls[k]?).map (fun r => if i = k then { r with words := ws } else r) := by
  simp only [setWords, List.getElem?_modify]
  split <;> simp_all
theorem setWords_len {ls : List LReg} {i : Nat} {ws : List (Int × Int)} : (setWords ls i ws).length = ls.length := by simp [setWords]
theorem setWords_map {β : Type} {ls : List LReg} {i : Nat} {ws : List (Int × Int)} (f : LReg → β) (hf : ∀ (hi : i < ls.length), f { ls[i] with words := ws } = f ls[i]) : (setWords ls i ws).map f = ls.map f := by
  apply List.ext_getElem?
  intro k
  rw [List.getElem?_map, List.getElem?_map, setWords_get]
  rcases Nat.lt_or_ge k ls.length with hk | hk
  · simp only [hk, List.getElem?_eq_getElem, Option.map_some]
    split
    · rename_i q; subst q; rw [hf hk]
    · rfl
  · simp [List.getElem?_eq_none hk]
theorem flatMap_map' {α β γ : Type} (f : α → β) (g : β → List γ) (l : List α) : (l.map f).flatMap g = l.flatMap (fun a => g (f a)) := by
  induction l with
  | nil => rfl
  | cons a l ih => simp [ih]
theorem rcells_eq {l1 l2 : List LReg} (h : l1.map LReg.cells = l2.map LReg.cells) : rcells l1 = rcells l2 := by
  have : ∀ l : List LReg, rcells l = (l.map LReg.cells).flatMap id := fun l => by rw [flatMap_map']; rfl
  rw [this, this, h]
theorem setWords_mem {ls : List LReg} {i : Nat} {ws : List (Int × Int)} {r : LReg} (h : r ∈ setWords ls i ws) : (∃ hi : i < ls.length, r = { ls[i] with words := ws }) ∨ (r ∈ ls ∧ ∃ k, k ≠ i ∧ ls[k]? = some r) := by
  obtain ⟨k, hk⟩ := List.getElem?_of_mem h
  rw [setWords_get] at hk
  rcases Nat.lt_or_ge k ls.length with q | q
  · simp only [q, List.getElem?_eq_getElem, Option.map_some, Option.some.injEq] at hk
    split at hk
    · rename_i e; subst e; exact .inl ⟨q, hk.symm⟩
    · rename_i e; subst hk; exact .inr ⟨List.getElem_mem q, k, fun q' => e q'.symm, by simp [q]⟩
  · simp [List.getElem?_eq_none q] at hk

theorem wb_ne {p : Nat} {sl : Value} {ls : List LReg} (h : (foot p sl ls).Nodup) {i k : Nat} (hi : i < ls.length) (hk : k < ls.length) (hne : k ≠ i) : ls[k].wb ≠ ls[i].wb := by
  have h2 : (ls.map (·.wb)).Nodup := by
    have := (List.nodup_cons.1 h).2
    exact (List.nodup_append.1 this).2.1
  intro e
  rcases Nat.lt_or_gt_of_ne hne with q | q
  · exact List.pairwise_iff_getElem.1 h2 k i (by simpa using hk) (by simpa using hi) q (by simpa using e)
  · exact List.pairwise_iff_getElem.1 h2 i k (by simpa using hi) (by simpa using hk) q (by simpa using e.symm)

theorem SpAt.replace {w w' : World} {p : Nat} {last : Int} {sl : Value} {ls : List LReg} (h : SpAt w p last sl ls) {i : Nat} (hi : i < ls.length) (k : Kp [ls[i].wb] w w') (ws : List (Int × Int)) (hl : ws.length = ls[i].words.length)
    (hrow : w'.ownsRow 0 29 2 (.slice (some ⟨ls[i].wb, 0, none⟩) ls[i].words.length ls[i].cap) ls[i].words.length (wcells ws)) : SpAt w' p last sl (setWords ls i ws) := by
  have hnd := h.nodup
  have hin : ls[i].wb ∈ ls.map (·.wb) := List.mem_map.2 ⟨_, List.getElem_mem hi, rfl⟩
  have hp : p ≠ ls[i].wb := by
    rintro e
    exact (List.nodup_cons.1 hnd).1 (List.mem_append.2 (.inr (e ▸ hin)))
  have hB : ∀ g, sl.ownBlock = some g → g ∉ [ls[i].wb] := by
    intro g hg e
    have hdis := (List.nodup_append.1 (List.nodup_cons.1 hnd).2).2.2
    simp only [List.mem_singleton] at e
    exact hdis g (by simp [hg]) _ hin e
  refine ⟨k.at h.head (by simpa using hp), ?_, ?_, ?_⟩
  · rw [setWords_len, rcells_eq (setWords_map _ (fun _ => by simp [LReg.cells, hl]))]
    exact k.row h.row hB
  · intro r hr
    rcases setWords_mem hr with ⟨_, rfl⟩ | ⟨hr, q, hq, hqr⟩
    · simpa [hl] using hrow
    · refine k.row (h.words r hr) ?_
      intro g hg
      simp [Value.ownBlock] at hg
      subst hg
      obtain ⟨hql, rfl⟩ := List.getElem?_eq_some_iff.1 hqr
      simpa using wb_ne hnd hi hql hq
  · unfold foot
    rw [setWords_map (fun r => r.wb) (fun _ => rfl)]
    exact hnd
theorem foot_setWords {p : Nat} {sl : Value} {ls : List LReg} {i : Nat} {ws : List (Int × Int)} : foot p sl (setWords ls i ws) = foot p sl ls := by
  unfold foot
  rw [setWords_map (fun r => r.wb) (fun _ => rfl)]
theorem RegsOk.replace {last : Int} {ls : List LReg} (h : RegsOk last ls) {i : Nat} (hi : i < ls.length) (ws : List (Int × Int)) (hl : ws.length = ls[i].words.length) : RegsOk last (setWords ls i ws) := by
  have e : (setWords ls i ws).map (fun r => (r.base, r.words.length)) = ls.map (fun r => (r.base, r.words.length)) := setWords_map _ (fun _ => by simp [hl])
  refine ⟨?_, ?_, h.last0, h.last1, ?_⟩
  · intro r hr
    rcases setWords_mem hr with ⟨_, rfl⟩ | ⟨hr, _⟩
    · have := h.lo _ (List.getElem_mem hi)
      simpa [hl] using this
    · exact h.lo r hr
  · have hs := h.sep
    have : ∀ l : List LReg, l.Pairwise (fun a b => a.base + (a.words.length : Int) < b.base) ↔ (l.map (fun r => (r.base, r.words.length))).Pairwise (fun a b => a.1 + (a.2 : Int) < b.1) := fun l => by rw [List.pairwise_map]
    rw [this] at hs ⊢
    rw [e]; exact hs
  · rw [setWords_map (fun r => r.words.length) (fun _ => by simp [hl])]
    exact h.live

def PutPost (p : Nat) (last : Int) (sl : Value) (ls : List LReg) (a t n : Int) (w : World) (e : Ending) (w' : World) : Prop :=
  (∃ (i j : Nat) (hi : i < ls.length) (_ : j < ls[i].words.length), a = ls[i].base + j ∧
      ((okV t n = false ∧ Below w.heap.size w w' ∧ e = .returned (.int .i64 21)) ∨
       (okV t n = true ∧ Kp [ls[i].wb] w w' ∧ SpAt w' p last sl (setWords ls i (ls[i].words.set j (t, n))) ∧ e = .returned (.int .i64 0)))) ∨
   ((∀ (i : Nat) (hi : i < ls.length), hasB ls[i].base ls[i].words.length a 1 = false) ∧ Below w.heap.size w w' ∧ e = .returned (.int .i64 210))

theorem wcells_set : ∀ (l : List (Int × Int)) (j : Nat) (v : Int × Int), wcells (l.set j v) = ((wcells l).set (j * 2) (.int .i64 v.1)).set (j * 2 + 1) (.int .i64 v.2)
  | [], j, v => by simp [wcells]
  | x :: l, 0, v => by simp [wcells, wcell]
  | x :: l, j + 1, v => by
    have := wcells_set l j v
    simp only [wcells, List.set_cons_succ, List.flatMap_cons, wcell] at this ⊢
    rw [this]
    simp [show (j + 1) * 2 = j * 2 + 2 by omega]

theorem SpAt.wrow {w : World} {p : Nat} {last : Int} {sl : Value} {ls : List LReg} (h : SpAt w p last sl ls) {i : Nat} (hi : i < ls.length) : w.ownsRow 0 29 2 (.slice (some ⟨ls[i].wb, 0, none⟩) ls[i].words.length ls[i].cap) ls[i].words.length (wcells ls[i].words) := h.words _ (List.getElem_mem hi)

set_option maxRecDepth 100000 in
theorem put_any {w : World} {p : Nat} {last : Int} {sl : Value} {ls : List LReg} (h : SpAt w p last sl ls) (ok : RegsOk last ls) (a t n : Int) :
    Calls Try.prog 17 #[.pointer (some ⟨p, 0, none⟩), .int .i64 a, .agg #[.int .i64 t, .int .i64 n]] w (PutPost p last sl ls a t n w) := by
  have hb0 : Below w.heap.size w (w.alloc (.cells #[.int .i64 t, .int .i64 n] 29)) := (Below.refl _ _).alloc (Nat.le_refl _) _
  have HF := Hid.mk (some_any (h.below hb0) ok a 1)
  go_enter Try.func17, Try.ntmps17
  go_wp2_with fail
  refine HF.out.mono ?_
  clear HF
  rintro e w1 ⟨hb, ⟨q, _⟩ | ⟨i, j, k, hi, rfl, hk1, hk, hjk, rfl⟩ | ⟨hm, hno, rfl⟩⟩
  · exact absurd q (by omega)
  all_goals
    obtain ⟨c0, c1, f0, hsz⟩ := box2 hb
    have hbb := hb0.trans (hb.mono hb0.size)
  · obtain rfl : k = 1 := by omega
    have hj : j < ls[i].words.length := by omega
    clear hk1
    go_wp2_with fail
    refine (check_any t n _).mono ?_
    rintro e w2 ⟨rfl, hb2⟩
    have hb3 := hbb.trans (hb2.mono hbb.size)
    have h3 := h.below hb3
    cases hok : okV t n
    · rw [chk_no hok]
      have HO := Hid.mk hok
      clear hok
      go_wp2
      go_ret
      exact .inl ⟨i, j, hi, hj, rfl, .inl ⟨HO.out, hb3, rfl⟩⟩
    · rw [chk_ok hok]
      have HO := Hid.mk hok
      clear hok
      have d0 := (hb2.cell (p := ⟨w.heap.size, 0, none⟩) hsz).trans c0
      have d1 := (hb2.cell (p := ⟨w.heap.size, 1, none⟩) hsz).trans c1
      have x0 := h3.type hi hj
      have x1 := h3.num hi hj
      have g0 := row_free (h3.wrow hi)
      go_wp2
      go_ret
      refine .inl ⟨i, j, hi, hj, rfl, .inr ⟨HO.out, ?_, ?_, rfl⟩⟩
      · exact ((Kp.of_below hb3 _).setCell (.inl (by simp)) _).setCell (.inl (by simp)) _
      · refine h3.replace hi (((Kp.refl _ _).setCell (.inl (by simp)) _).setCell (.inl (by simp)) _) _ (by simp) ?_
        rw [wcells_set]
        exact (((h3.wrow hi).stored (j * 2) _).1.stored (j * 2 + 1) _).1
  · go_wp2
    go_ret
    exact .inr ⟨fun i hi => hno i hi (by omega), hbb, rfl⟩
end Go.Proofs.Ytkooogllajmkeaa
/- The contract of Drop: words are emptied. -/
namespace Go.Proofs.Ytkooogllajmkeaa
open Go.RowKit

theorem zeroV (w : World) : (zeroValue 29).run Try.prog w = .ok (.agg #[.int .i64 0, .int .i64 0]) w := by kernel_rfl
/-- words laid over others, from the j-th on -/
def over (l : List (Int × Int)) (j : Nat) (vs : List (Int × Int)) : List (Int × Int) := l.take j ++ (vs ++ l.drop (j + vs.length))
theorem over_len {l vs : List (Int × Int)} {j : Nat} (h : j + vs.length ≤ l.length) : (over l j vs).length = l.length := by simp [over]; omega
theorem wcells_app (a b : List (Int × Int)) : wcells (a ++ b) = wcells a ++ wcells b := by simp [wcells]
theorem wcells_take (l : List (Int × Int)) (j : Nat) : wcells (l.take j) = (wcells l).take (j * 2) := by
  induction l generalizing j with
  | nil => simp [wcells]
  | cons a l ih =>
    cases j with
    | zero => simp [wcells]
    | succ j => have := ih j; simp only [wcells, List.take_succ_cons, List.flatMap_cons, wcell, show (j + 1) * 2 = j * 2 + 2 by omega] at this ⊢; rw [this]; simp
theorem wcells_drop (l : List (Int × Int)) (j : Nat) : wcells (l.drop j) = (wcells l).drop (j * 2) := by
  induction l generalizing j with
  | nil => simp [wcells]
  | cons a l ih =>
    cases j with
    | zero => simp [wcells]
    | succ j => have := ih j; simp only [wcells, List.drop_succ_cons, List.flatMap_cons, wcell, show (j + 1) * 2 = j * 2 + 2 by omega] at this ⊢; rw [this]; simp
theorem wcells_over (l : List (Int × Int)) (j : Nat) (vs : List (Int × Int)) : wcells (over l j vs) = splice (wcells l) (j * 2) (wcells vs) := by
  unfold over splice
  rw [wcells_app, wcells_app, wcells_take, wcells_drop, wcells_len, Nat.add_mul]
theorem zeros_cells (k : Nat) : (Builtin.zeroCells #[Value.int .i64 0, .int .i64 0] k).toList = wcells (List.replicate k (0, 0)) := by
  apply List.ext_getElem?
  intro i
  rcases Nat.lt_or_ge i (k * 2) with h | h
  · have h1 : i < (Builtin.zeroCells #[Value.int .i64 0, .int .i64 0] k).toList.length := by simp [Builtin.zeroCells]; omega
    have h2 : i / 2 < (List.replicate k ((0 : Int), (0 : Int))).length := by simp; omega
    rcases Nat.mod_two_eq_zero_or_one i with e | e
    · have := wcells_fst h2
      rw [show i / 2 * 2 = i by omega] at this
      rw [this]
      simp [Builtin.zeroCells, h, e]
    · have := wcells_snd h2
      rw [show i / 2 * 2 + 1 = i by omega] at this
      rw [this]
      simp [Builtin.zeroCells, h, e]
  · rw [List.getElem?_eq_none (by simp [Builtin.zeroCells]; omega), List.getElem?_eq_none (by rw [wcells_len]; simp; omega)]


theorem wpList_clear_nil {P : Program} {w : World} {e : TypeId} {ops : Array Oper} {rest : List Oper} {o : Oper} {a : Act} {Q : Exit → Act → World → Prop} (hgd : o.guard = none) (s : Operand) (t : TypeId)
    (ho : o.op = .call { callee := .builtin .clear, args := #[s], argTypes := #[t] }) (ht : P.underlying t = some (.slice e)) (k c : Nat) (hs : a.eval s = .slice none k c)
    (h : wpList P ops Q rest (a.put o.dst (.tuple #[])) w) : wpList P ops Q (o :: rest) a w := by
  refine wpList_plain hgd fun K hK => ?_
  have hrun : (Builtin.clear_ #[t] o.type #[.slice none k c]).run P w = .ok (.tuple #[]) w := by
    simp [Builtin.clear_, run_underlying ht]
  unfold Oper.wp
  simp [execOp, ho, resolve, invoke, builtin, hs, hrun, Result.andThen]
  exact hK _ _ h
/-- what Drop and Move come to -/
def DropPost (p : Nat) (last : Int) (sl : Value) (ls : List LReg) (a m : Int) (w : World) (e : Ending) (w' : World) : Prop :=
  (m = 0 ∧ Below w.heap.size w w' ∧ e = .returned (.int .i64 0)) ∨
  (∃ (i j k : Nat) (hi : i < ls.length), a = ls[i].base + j ∧ m = k ∧ 1 ≤ k ∧ j + k ≤ ls[i].words.length ∧ Kp [ls[i].wb] w w' ∧ SpAt w' p last sl (setWords ls i (over ls[i].words j (List.replicate k (0, 0)))) ∧ e = .returned (.int .i64 0)) ∨
  (m ≠ 0 ∧ (∀ (i : Nat) (hi : i < ls.length), 0 ≤ m → hasB ls[i].base ls[i].words.length a m = false) ∧ Below w.heap.size w w' ∧ e = .returned (.int .i64 210))

set_option maxRecDepth 100000 in
theorem drop_any {w : World} {p : Nat} {last : Int} {sl : Value} {ls : List LReg} (h : SpAt w p last sl ls) (ok : RegsOk last ls) (a m : Int) :
    Calls Try.prog 18 #[.pointer (some ⟨p, 0, none⟩), .int .i64 a, .int .i64 m] w (DropPost p last sl ls a m w) := by
  have HF := Hid.mk (some_any h ok a m)
  go_enter Try.func18, Try.ntmps18
  go_wp2_with fail
  refine HF.out.mono ?_
  clear HF
  rintro e w1 ⟨hb, ⟨rfl, rfl⟩ | ⟨i, j, k, hi, rfl, rfl, hk, hjk, rfl⟩ | ⟨hm, hno, rfl⟩⟩
  · go_wp2_with (with_reducible refine wpList_clear_nil rfl (.tmp 16) 62 rfl Try.underlying62 0 0 rfl ?_)
    go_ret
    exact .inl ⟨rfl, hb, rfl⟩
  · have h1 := h.below hb
    have hr := h1.wrow hi
    go_wp2_with (with_reducible refine wpList_clear_row rfl (.tmp 16) 62 rfl Try.underlying62 (.agg #[.int .i64 0, .int .i64 0]) zeroV (j * 2) k (ls[i].cap - j) rfl hk hr (wcells (List.replicate k (0, 0))) ?c0 ?c1 (mem_one _) ?_)
    case c0 => exact zeros_cells k
    case c1 => rw [wcells_len]; simp; omega
    intro w2 hr2 hg2
    go_wp2
    go_ret
    refine .inr (.inl ⟨i, j, k, hi, rfl, rfl, hk, hjk, ?_, ?_, rfl⟩)
    · exact (Kp.of_below hb _).grown hg2 (by intro q hq; simp at hq; exact .inl (by simp [hq]))
    · refine h1.replace hi ((Kp.refl _ _).grown hg2 (by intro q hq; simp at hq; exact .inl (by simp [hq]))) _ (over_len (by simp; omega)) ?_
      rw [wcells_over]; exact hr2
  · go_wp2_with (with_reducible refine wpList_clear_nil rfl (.tmp 16) 62 rfl Try.underlying62 0 0 rfl ?_)
    go_ret
    exact .inr (.inr ⟨hm, hno, hb, rfl⟩)
end Go.Proofs.Ytkooogllajmkeaa
/- The contract of Move: words go over. -/
namespace Go.Proofs.Ytkooogllajmkeaa
open Go.RowKit
theorem wpList_copy_nil {P : Program} {w : World} {e : TypeId} {i : TypeInfo} {ops : Array Oper} {rest : List Oper} {o : Oper} {a : Act} {Q : Exit → Act → World → Prop} (hgd : o.guard = none) (d s : Operand) (dT sT : TypeId)
    (ho : o.op = .call { callee := .builtin .copy, args := #[d, s], argTypes := #[dT, sT] }) (hu : P.underlying dT = some (.slice e)) (hi : P.info? e = some i)
    (dp : Option Addr) (dLen dCap : Nat) (hd : a.eval d = .slice dp dLen dCap) (hs : a.eval s = .slice none 0 0)
    (h : wpList P ops Q rest (a.put o.dst (goInt 0)) w) : wpList P ops Q (o :: rest) a w := by
  refine wpList_plain hgd fun K hK => ?_
  have hrun : (Builtin.copy_ #[dT, sT] o.type #[.slice dp dLen dCap, .slice none 0 0]).run P w = .ok (goInt 0) w := by
    cases dp <;> simp [Builtin.copy_, run_underlying hu, Builtin.lenOf, sizeOf, typeInfo, hi, Builtin.firstCells, storeCells]
  unfold Oper.wp
  simp [execOp, ho, resolve, invoke, builtin, hd, hs, hrun, Result.andThen]
  exact hK _ _ h

def MovePost (p : Nat) (last : Int) (sl : Value) (ls : List LReg) (b a m : Int) (w : World) (e : Ending) (w' : World) : Prop :=
  (m = 0 ∧ Below w.heap.size w w' ∧ e = .returned (.int .i64 0)) ∨
  (∃ (i j i2 j2 k : Nat) (hi : i < ls.length) (hi2 : i2 < ls.length), b = ls[i].base + j ∧ a = ls[i2].base + j2 ∧ m = k ∧ 1 ≤ k ∧ j + k ≤ ls[i].words.length ∧ j2 + k ≤ ls[i2].words.length ∧
      Kp [ls[i].wb] w w' ∧ SpAt w' p last sl (setWords ls i (over ls[i].words j (seg ls[i2].words j2 k))) ∧ e = .returned (.int .i64 0)) ∨
  (m ≠ 0 ∧ ((∀ (i : Nat) (hi : i < ls.length), 0 ≤ m → hasB ls[i].base ls[i].words.length b m = false) ∨ (∀ (i : Nat) (hi : i < ls.length), 0 ≤ m → hasB ls[i].base ls[i].words.length a m = false)) ∧
      Below w.heap.size w w' ∧ e = .returned (.int .i64 210))

set_option maxRecDepth 100000 in
theorem move_any {w : World} {p : Nat} {last : Int} {sl : Value} {ls : List LReg} (h : SpAt w p last sl ls) (ok : RegsOk last ls) (b a m : Int) :
    Calls Try.prog 23 #[.pointer (some ⟨p, 0, none⟩), .int .i64 b, .int .i64 a, .int .i64 m] w (MovePost p last sl ls b a m w) := by
  obtain ⟨i0, hi0, hz0, hz1, hz2⟩ := info_parts infoV
  have HF := Hid.mk (some_any h ok b m)
  go_enter Try.func23, Try.ntmps23
  go_wp2_with fail
  refine HF.out.mono ?_
  clear HF
  rintro e w1 ⟨hb, ⟨rfl, rfl⟩ | ⟨i, j, k, hi, rfl, rfl, hk, hjk, rfl⟩ | ⟨hm, hno, rfl⟩⟩
  · have HF := Hid.mk (some_any (h.below hb) ok a 0)
    go_wp2_with fail
    refine HF.out.mono ?_
    clear HF
    rintro e w2 ⟨hb2, ⟨_, rfl⟩ | ⟨_, _, k, _, _, q, hk, _⟩ | ⟨hm, _⟩⟩
    · go_wp2_with (with_reducible refine wpList_copy_nil rfl (.tmp 32) (.tmp 33) 62 62 rfl Try.underlying62 hi0 none 0 0 rfl rfl ?_)
      go_ret
      exact .inl ⟨rfl, hb.trans (hb2.mono hb.size), rfl⟩
    · omega
    · exact absurd rfl hm
  · have h1 := h.below hb
    have HF := Hid.mk (some_any h1 ok a k)
    go_wp2_with fail
    refine HF.out.mono ?_
    clear HF
    rintro e w2 ⟨hb2, ⟨q, _⟩ | ⟨i2, j2, k2, hi2, rfl, hkk, hk2, hjk2, rfl⟩ | ⟨hm, hno, rfl⟩⟩
    · omega
    · obtain rfl : k = k2 := by omega
      clear hkk hk2
      have hbb := hb.trans (hb2.mono hb.size)
      have h2 := h1.below hb2
      have hr := h2.wrow hi
      have hC := Hid.mk (seg_cells h2 hi2 hjk2)
      go_wp2_with (with_reducible refine wpList_copy_row rfl (.tmp 32) (.tmp 33) 62 62 rfl Try.underlying62 ?c9 (j * 2) k (ls[i].cap - j) ⟨ls[i2].wb, j2 * 2, none⟩ k (ls[i2].cap - j2) rfl rfl hr (wcells (seg ls[i2].words j2 k)) ?c0 hC.out ?c1 (mem_one _) ?_)
      case c9 => rw [hi0]; simp [hz1]
      case c0 => rw [wcells_len, seg_len hjk2]; simp
      case c1 => rw [wcells_len, seg_len hjk2]; omega
      intro w3 hr3 hg3
      go_wp2
      go_ret
      refine .inr (.inl ⟨i, j, i2, j2, k, hi, hi2, rfl, rfl, rfl, hk, hjk, hjk2, ?_, ?_, rfl⟩)
      · exact (Kp.of_below hbb _).grown hg3 (by intro q hq; simp at hq; exact .inl (by simp [hq]))
      · refine h2.replace hi ((Kp.refl _ _).grown hg3 (by intro q hq; simp at hq; exact .inl (by simp [hq]))) _ (over_len (by rw [seg_len hjk2]; omega)) ?_
        rw [wcells_over]; exact hr3
    · go_wp2_with (with_reducible refine wpList_copy_nil rfl (.tmp 32) (.tmp 33) 62 62 rfl Try.underlying62 hi0 _ _ _ rfl rfl ?_)
      go_ret
      exact .inr (.inr ⟨hm, .inr hno, hb.trans (hb2.mono hb.size), rfl⟩)
  · go_wp2
    go_ret
    exact .inr (.inr ⟨hm, .inl hno, hb, rfl⟩)
end Go.Proofs.Ytkooogllajmkeaa
/- The iterator of a space's regions: its contract for whatever loop. -/
namespace Go.Proofs.Ytkooogllajmkeaa
open Go.RowKit Go.Shelf
attribute [local go_sem] Oper.semAt_some

abbrev In (ls : List LReg) : Type := { r : LReg // r ∈ ls }
def renc {ls : List LReg} (r : In ls) : Array Value := #[.agg #[.int .i64 r.1.base, .slice (some ⟨r.1.wb, 0, none⟩) r.1.words.length r.1.cap]]
theorem take_attach {ls : List LReg} {k : Nat} (hlt : k < ls.length) : ls.attach.take (k + 1) = ls.attach.take k ++ [⟨ls[k], List.getElem_mem hlt⟩] := by
  rw [List.take_succ_eq_append_getElem (by simpa using hlt)]; simp

set_option maxRecDepth 100000 in
set_option maxHeartbeats 1000000 in
theorem each_in (n : Nat) (p : Option Addr) (w : World) :
    CallsIn Fence.wide n Try.prog 46 #[.pointer p] w fun e w' => e = .returned (.func (.func 79) #[] #[.pointer (some ⟨w.heap.size, 0, none⟩)]) ∧ w' = w.alloc (.cells #[.pointer p] 52) := by
  refine callsIn_of_wp Try.func46 rfl trivial ?_ rfl
  simp only [Try.ntmps46, List.size_toArray, List.length_cons, List.length_nil, Nat.reduceAdd, Nat.reduceSub, Array.replicate_succ, Array.replicate_zero, List.push_toArray, List.append_toArray, List.nil_append, List.cons_append]
  gi_wp2
  go_ret
  exact ⟨rfl, rfl⟩

set_option maxRecDepth 100000 in
set_option maxHeartbeats 2000000 in
theorem each1_in (n : Nat) (hn : 1 ≤ n) (l Bn n₀ p B cap : Nat) (last : Int) (ls : List LReg) (hcnt : ls.length ≤ 4194304) (J Jx : List (In ls) → World → Prop) (B0 : Nat) (hJ : AbidesFrom B0 J)
    (hY : ∀ pre x W, J pre W → pre.length < ls.length → YieldAt Fence.wide (n - 1) Try.prog l (renc x) W fun e W' =>
      (e = .returned (.bool true) ∧ J (pre ++ [x]) W' ∧ Below n₀ W W') ∨ (e = .returned (.bool false) ∧ Jx (pre ++ [x]) W'))
    (W : World) (hBn : W.cell? ⟨Bn, 0, none⟩ = some (.pointer (some ⟨p, 0, none⟩))) (h : SpAt W p last (.slice (some ⟨B, 0, none⟩) ls.length cap) ls) (hf : ∀ b ∈ foot p (.slice (some ⟨B, 0, none⟩) ls.length cap) ls, b < n₀) (hn0 : n₀ ≤ W.heap.size) (h0 : J [] W) :
    CallsIn Fence.wide n Try.prog 79 #[.func (.yield l) #[] #[], .pointer (some ⟨Bn, 0, none⟩)] W fun e W' => (∃ v, e = .returned v) ∧
      ((∃ ys, ys = ls.attach ∧ J ys W') ∨ (∃ pre, pre <+: ls.attach ∧ Jx pre W')) := by
  have hc0 := h.cell0
  refine callsIn_of_wp Try.func79 rfl trivial ?_ rfl
  simp only [Try.ntmps79, List.size_toArray, List.length_cons, List.length_nil, Nat.reduceAdd, Nat.reduceSub, Array.replicate_succ, Array.replicate_zero, List.push_toArray, List.append_toArray, List.nil_append, List.cons_append]
  gi_wp2
  gi_loopw [12] (fun i wr => ∃ k : Nat, k ≤ ls.length ∧ i = .int .i64 k ∧ J (ls.attach.take k) wr ∧ Below n₀ W wr)
    (fun i _ => ls.length - (intOf i).toNat)
  case atStart => exact ⟨0, Nat.zero_le _, rfl, by simpa using h0, Below.refl _ _⟩
  case round =>
    obtain ⟨k, hk, rfl, hJs, hnx⟩ := hrel
    by_cases hlt : k < ls.length
    · have hB : B < n₀ := hf B (by simp [foot, Value.ownBlock])
      have hx := (hnx.cell (p := ⟨B, k * 2, none⟩) hB).trans (h.base hlt)
      have hy := (hnx.cell (p := ⟨B, k * 2 + 1, none⟩) hB).trans (h.wslice hlt)
      have hJ1 : ∀ o : Obj, J (ls.attach.take k) (wr.alloc o) := fun o => hJ _ _ _ none hJs (World.grownBy_alloc wr o none) (fun r e => by cases e)
      have HY := Hid.mk (hY _ ⟨ls[k], List.getElem_mem hlt⟩ _ (hJ1 (.cells #[.int .i64 ls[k].base, .slice (some ⟨ls[k].wb, 0, none⟩) ls[k].words.length ls[k].cap] 100)) (by rw [List.length_take, List.length_attach]; omega))
      clear hJ1
      obtain ⟨fn, tmps, assign, body, hyy, hR⟩ := HY.out
      unfold renc at hyy
      gi_wp2
      refine hR.mono ?_
      have hsz := hnx.size
      rintro e W3 (⟨rfl, hJ3, hk3⟩ | ⟨rfl, hJx3⟩)
      · gi_wp2
        go_roundw
        case rel => exact ⟨k + 1, by omega, by simp, by rw [take_attach hlt]; exact hJ3, (hnx.alloc (by omega) _).trans hk3⟩
        case measure => simp [intOf]; omega
      · gi_wp2
        refine bodyPost_ret (results_none rfl _ _ _) rfl ?_
        exact ⟨⟨_, rfl⟩, .inr ⟨_, by rw [← take_attach hlt]; exact List.take_prefix _ _, hJx3⟩⟩
    · obtain rfl : k = ls.length := by omega
      gi_wp2
      go_end0
      exact ⟨⟨_, rfl⟩, .inl ⟨_, rfl, by have q := hJs; rw [List.take_of_length_le (by simp)] at q; exact q⟩⟩

set_option maxRecDepth 100000 in
set_option maxHeartbeats 1000000 in
theorem each1_nil_in (n : Nat) (l Bn p : Nat) (J : List (In []) → World → Prop) (W : World) (hBn : W.cell? ⟨Bn, 0, none⟩ = some (.pointer (some ⟨p, 0, none⟩))) (hp : W.cell? ⟨p, 0, none⟩ = some (.slice none 0 0)) (h0 : J [] W) :
    CallsIn Fence.wide n Try.prog 79 #[.func (.yield l) #[] #[], .pointer (some ⟨Bn, 0, none⟩)] W fun e W' => (∃ v, e = .returned v) ∧ J [] W' := by
  refine callsIn_of_wp Try.func79 rfl trivial ?_ rfl
  simp only [Try.ntmps79, List.size_toArray, List.length_cons, List.length_nil, Nat.reduceAdd, Nat.reduceSub, Array.replicate_succ, Array.replicate_zero, List.push_toArray, List.append_toArray, List.nil_append, List.cons_append]
  gi_wp2
  gi_loopw [12] (fun i wr => i = .int .i64 0 ∧ J [] wr) (fun _ _ => 0)
  case atStart => exact ⟨rfl, h0⟩
  case round =>
    obtain ⟨rfl, hJs⟩ := hrel
    gi_wp2
    go_end0
    exact ⟨⟨_, rfl⟩, hJs⟩
theorem each1_none_in (n : Nat) (l Bn : Nat) (J : List (In []) → World → Prop) (W : World) (hBn : W.cell? ⟨Bn, 0, none⟩ = some (.pointer none)) (h0 : J [] W) :
    CallsIn Fence.wide n Try.prog 79 #[.func (.yield l) #[] #[], .pointer (some ⟨Bn, 0, none⟩)] W fun e W' => (∃ v, e = .returned v) ∧ J [] W' := by
  refine callsIn_of_wp Try.func79 rfl trivial ?_ rfl
  simp only [Try.ntmps79, List.size_toArray, List.length_cons, List.length_nil, Nat.reduceAdd, Nat.reduceSub, Array.replicate_succ, Array.replicate_zero, List.push_toArray, List.append_toArray, List.nil_append, List.cons_append]
  gi_wp2
  refine bodyPost_ret (results_none rfl _ _ _) rfl ?_
  exact ⟨⟨_, rfl⟩, h0⟩

/-- what each hands back tells all regions, in their order -/
theorem each_stops (n : Nat) (hn : 1 ≤ n) (Bn p n₀ : Nat) (last : Int) (sl : Value) (ls : List LReg) (hcnt : ls.length ≤ 4194304) (w : World) (hBs : Bn < w.heap.size) (hn₀ : n₀ ≤ w.heap.size)
    (hc : w.cell? ⟨Bn, 0, none⟩ = some (.pointer (some ⟨p, 0, none⟩))) (h : SpAt w p last sl ls) (hf : ∀ b ∈ foot p sl ls, b < n₀) :
    SeqStopsK Fence.wide n Try.prog 79 #[.pointer (some ⟨Bn, 0, none⟩)] (renc (ls := ls)) (Below n₀) (fun ys => ys = ls.attach) (fun pre => pre <+: ls.attach) ls.length w := fun l J Jx W hW hJ _ hY h0 => by
  have hc' := (hW.cell (p := ⟨Bn, 0, none⟩) hBs).trans hc
  have h' := h.below hW
  rcases h'.shape with ⟨rfl, rfl⟩ | ⟨B, cap, rfl, _⟩
  · exact (each1_nil_in n l Bn p J W hc' h'.cell0 h0).mono fun e W' ⟨he, hj⟩ => ⟨he, .inl ⟨_, rfl, hj⟩⟩
  · exact each1_in n hn l Bn n₀ p B cap last ls hcnt J Jx _ hJ hY W hc' h' hf (Nat.le_trans hn₀ hW.size) h0
theorem each_none_stops (n : Nat) (Bn n₀ : Nat) (w : World) (hBs : Bn < w.heap.size) (hc : w.cell? ⟨Bn, 0, none⟩ = some (.pointer none)) :
    SeqStopsK Fence.wide n Try.prog 79 #[.pointer (some ⟨Bn, 0, none⟩)] (renc (ls := [])) (Below n₀) (fun ys => ys = []) (fun pre => pre <+: []) 0 w := fun l J Jx W hW _ _ _ h0 => by
  have hc' := (hW.cell (p := ⟨Bn, 0, none⟩) hBs).trans hc
  exact (each1_none_in n l Bn J W hc' h0).mono fun e W' ⟨he, hj⟩ => ⟨he, .inl ⟨_, rfl, hj⟩⟩
end Go.Proofs.Ytkooogllajmkeaa
/- The contract of Live: how many words there are. -/
namespace Go.Proofs.Ytkooogllajmkeaa
open Go.RowKit Go.Shelf
attribute [local go_sem] Oper.semAt_some

def tot (ls : List LReg) : Nat := (ls.map (·.words.length)).sum
def totIn {ls : List LReg} (pre : List (In ls)) : Nat := (pre.map (·.1.words.length)).sum
theorem totIn_snoc {ls : List LReg} (pre : List (In ls)) (x : In ls) : totIn (pre ++ [x]) = totIn pre + x.1.words.length := by simp [totIn]
theorem totIn_all (ls : List LReg) : totIn ls.attach = tot ls := by
  have : ls.attach.map (fun x : In ls => x.1.words.length) = ls.map (·.words.length) := by
    rw [show (fun x : In ls => x.1.words.length) = (fun r : LReg => r.words.length) ∘ Subtype.val from rfl, ← List.map_map, List.attach_map_subtype_val]
  rw [totIn, this, tot]
theorem totIn_le {ls : List LReg} (h : ∀ r ∈ ls, r.words.length ≤ 1048576) (pre : List (In ls)) : totIn pre ≤ pre.length * 1048576 := by
  induction pre with
  | nil => simp [totIn]
  | cons a l ih => have := h a.1 a.2; simp only [totIn, List.map_cons, List.sum_cons, List.length_cons] at ih ⊢; omega
theorem totIn_prefix {ls : List LReg} {pre : List (In ls)} (h : pre <+: ls.attach) : totIn pre ≤ tot ls := by
  obtain ⟨r, hr⟩ := h
  rw [← totIn_all, ← hr]
  simp [totIn]

def Full {ls : List LReg} (pre : List (In ls)) : Prop := 4194304 ≤ totIn pre
theorem wpIn_scope' {n : Nat} {P : Program} {c : Code} {Q : Exit → Act → World → Prop} {a : Act} {w : World} (h : c.wpIn Fence.wide n P (Exit.noGoto Q) a w) : (Code.scope c).wpIn Fence.wide n P Q a w := wpIn_wide.2 (wp_scope_straight (wpIn_wide.1 h))
theorem wpIn_label' {n : Nat} {P : Program} {l : Nat} {Q : Exit → Act → World → Prop} {a : Act} {w : World} (h : Q .normal a w) : (Code.label l).wpIn Fence.wide n P Q a w := wpIn_wide.2 (wp_label h)
set_option maxRecDepth 100000 in
set_option maxHeartbeats 2000000 in
theorem live_in {w : World} {p : Nat} {last : Int} {sl : Value} {ls : List LReg} (h : SpAt w p last sl ls) (ok : RegsOk last ls) (n : Nat) (hn : 5 ≤ n) :
    CallsIn Fence.wide n Try.prog 16 #[.pointer (some ⟨p, 0, none⟩)] w fun e w' => e = .returned (.int .i64 (tot ls)) ∧ Below w.heap.size w w' := by
  have hfn : ∀ k, Fence.wide.fn k := fun _ => trivial
  have hn1 : 1 ≤ n := by omega
  refine callsIn_of_wp_marks Try.func16 rfl trivial ?_ rfl
  simp only [Try.ntmps16, List.size_toArray, List.length_cons, List.length_nil, Nat.reduceAdd, Nat.reduceSub, Array.replicate_succ, Array.replicate_zero, List.push_toArray, List.append_toArray, List.nil_append, List.cons_append]
  gi_wp2
  refine wpIn_scope' ?_
  gi_wp2
  refine wpIn_label' ?_
  gi_wp2_with (gi_at_call 46; refine (each_in (n - 1) _ _).mono ?_; rintro e w' ⟨rfl, rfl⟩)
  have bN := (Boxed.new w 3 (.int .i64 0)).alloc (.cells #[.pointer (some ⟨p, 0, none⟩)] 52)
  have bE := Boxed.new (w.alloc (.cells #[.int .i64 0] 3)) 52 (.pointer (some ⟨p, 0, none⟩))
  simp only [World.size_alloc] at bE
  have hB0 : Below w.heap.size w ((w.alloc (.cells #[.int .i64 0] 3)).alloc (.cells #[.pointer (some ⟨p, 0, none⟩)] 52)) := ((Below.refl _ w).alloc (Nat.le_refl _) _).alloc (by simp) _
  have hsz : ((w.alloc (.cells #[.int .i64 0] 3)).alloc (.cells #[.pointer (some ⟨p, 0, none⟩)] 52)).heap.size = w.heap.size + 2 := by simp
  obtain ⟨W0, hW0⟩ : ∃ W0, (w.alloc (.cells #[.int .i64 0] 3)).alloc (.cells #[.pointer (some ⟨p, 0, none⟩)] 52) = W0 := ⟨_, rfl⟩
  rw [hW0] at bN bE hB0 hsz ⊢
  clear hW0
  have hw63 : ∀ r ∈ ls, r.words.length ≤ 1048576 := fun r hr => (ok.lo r hr).2.2.1
  refine wpIn_rangeFunc_ownH (F := Fence.wide) rfl (by omega) (gf := 79) (lb := #[.pointer (some ⟨w.heap.size + 1, 0, none⟩)]) rfl trivial (enters_of Try.func79 (by kernel_rfl) rfl)
    (each_stops (n - 1) (by omega) (w.heap.size + 1) p w.heap.size last sl ls ok.count W0 (by omega) (by omega) bE.cell (h.below hB0) h.lt) belowK_t (belowK_b (by omega)) (Below.refl _ _) (fun _ => rfl)
    (fun pre W => Boxed W w.heap.size 3 (.int .i64 (totIn pre)) ∧ Below w.heap.size w W)
    (fun c pre W => (c = .exit 0 ∧ Full pre) ∧ Boxed W w.heap.size 3 (.int .i64 (totIn pre)) ∧ Below w.heap.size w W)
    (OwnFrom.and (Own.from (boxed_own _ _ _) _) (ownFrom_below (Nat.le_refl _) (by omega)))
    (fun c => OwnFrom.and (ownFrom_pure _ _) (OwnFrom.and (Own.from (boxed_own _ _ _) _) (ownFrom_below (Nat.le_refl _) (by omega))))
    ⟨bN, hB0⟩
    (fun x a' W => ∃ Bx, w.heap.size < Bx ∧ W.heap[Bx]? = some (.cells #[.int .i64 x.1.base, .slice (some ⟨x.1.wb, 0, none⟩) x.1.words.length x.1.cap] 100 (0, 0)) ∧ a' = { tmps := #[.pointer (some ⟨p, 0, none⟩), undef, .int .i64 0, .pointer (some ⟨w.heap.size, 0, none⟩), .pointer (some ⟨Bx, 0, none⟩), .pointer (some ⟨p, 0, none⟩), .func (.func 79) #[] #[.pointer (some ⟨w.heap.size + 1, 0, none⟩)], .agg #[.int .i64 x.1.base, .slice (some ⟨x.1.wb, 0, none⟩) x.1.words.length x.1.cap], undef, undef, undef, undef, undef, undef, undef, undef], defers := [] })
    (fun x a' _ X Y row hs hg hr => by obtain ⟨Bx, h1, h2, h3⟩ := hs; exact ⟨Bx, h1, (hg.block Bx (lt_of_heap h2) (fun e => by obtain ⟨_, o, ho, hc⟩ := hr Bx e.symm; rw [h2] at ho; cases ho; simp [Obj.isCells] at hc)).trans h2, h3⟩)
    ?assign ?body ?done ?stop
  case assign =>
    rintro l pre x W K ⟨bN1, hB1⟩ hK
    unfold renc
    gi_wp2
    exact hK _ _ ((KeepsOthers.alloc _ _).from _) ((Below.refl _ W).alloc hB1.size _) ⟨bN1.alloc _, hB1.alloc hB1.size _⟩ ⟨W.heap.size, bN1.lt, heap_alloc_new W _, rfl⟩
  case body =>
    have hn2 : 1 ≤ n - 1 - 1 := by omega
    rintro l pre x a' W hl ⟨r, hr⟩ ⟨bN1, hB1⟩ ⟨Bx, hBx, bX, rfl⟩ hlt
    have cN := bN1.cell
    have fN := bN1.frozen
    have cX1 : W.cell? ⟨Bx, 1, none⟩ = some (.slice (some ⟨x.1.wb, 0, none⟩) x.1.words.length x.1.cap) := by rw [cell_of_row W Bx 1 _ _ _ bX]; rfl
    have hle : totIn pre ≤ 4398046511104 := by have := totIn_le hw63 pre; have := ok.count; omega
    have hx := hw63 x.1 x.2
    clear hw63
    obtain ⟨T, hT⟩ : ∃ T : Nat, T = totIn pre + x.1.words.length := ⟨_, rfl⟩
    have e1 : IntKind.i64.wrap ((totIn pre : Int) + (x.1.words.length : Int)) = (T : Int) := by rw [IntKind.wrap_i64]; omega
    by_cases hge : 4194304 ≤ T
    · have hge' : (4194304 : Int) ≤ (T : Int) := by omega
      have HG : Hid (Full (pre ++ [x])) := by unfold Hid Full; rw [totIn_snoc, ← hT]; exact hge
      have HT := Hid.mk hT
      clear hT hx hle hge
      gi_wp2
      exact ⟨(KeepsOthers.setCell _ _ _).from _, ⟨rfl, HG.out⟩, by rw [totIn_snoc, ← HT.out]; exact bN1.set _, hB1.setCell (p := ⟨w.heap.size, 0, none⟩) (Nat.le_refl _) _⟩
    · have hge' : decide ((4194304 : Int) ≤ (T : Int)) = false := by simp; omega
      have HT := Hid.mk hT
      clear hT hx hle hge
      gi_wp2
      exact ⟨(KeepsOthers.setCell _ _ _).from _, (Below.refl _ W).setCell (p := ⟨w.heap.size, 0, none⟩) (Nat.le_refl _) _, by rw [totIn_snoc, ← HT.out]; exact bN1.set _, hB1.setCell (p := ⟨w.heap.size, 0, none⟩) (Nat.le_refl _) _⟩
  case done =>
    rintro D zs W hD rfl ⟨bN1, hB1⟩ hK
    have cN := bN1.cell
    gi_wp2
    rw [Exit.noGoto_ret]
    refine ⟨by simp, .inl ⟨_, _, rfl, run_takeDeferred hK, ?_⟩⟩
    exact ⟨_, results_tmp rfl _ _ _, by rw [totIn_all]; rfl, hB1.trans (belowK_b (w := w) (Nat.le_refl _) W D _ _ (by omega) hK rfl rfl)⟩
  case stop =>
    rintro D c pre W hD hpre ⟨⟨rfl, hge⟩, bN1, hB1⟩ hK
    have cN := bN1.cell
    have HE : Hid (totIn pre = tot ls) := by
      have h1 := totIn_prefix hpre
      have h2 := ok.live
      unfold Full at hge
      unfold Hid
      unfold tot at *
      omega
    gi_wp2
    rw [Exit.noGoto_ret]
    refine ⟨by simp, .inl ⟨_, _, rfl, run_takeDeferred hK, ?_⟩⟩
    exact ⟨_, results_tmp rfl _ _ _, by rw [← HE.out]; rfl, hB1.trans (belowK_b (w := w) (Nat.le_refl _) W D _ _ (by omega) hK rfl rfl)⟩
theorem live_any {w : World} {p : Nat} {last : Int} {sl : Value} {ls : List LReg} (h : SpAt w p last sl ls) (ok : RegsOk last ls) :
    Calls Try.prog 16 #[.pointer (some ⟨p, 0, none⟩)] w fun e w' => e = .returned (.int .i64 (tot ls)) ∧ Below w.heap.size w w' := callsIn_wide.1 (live_in h ok 10 (by decide))
end Go.Proofs.Ytkooogllajmkeaa
/- The contract of Regions: all regions, in their order. -/
namespace Go.Proofs.Ytkooogllajmkeaa
open Go.RowKit Go.Shelf
attribute [local go_sem] Oper.semAt_some
/-- regions as cells: a base and how many words -/
def gcell (r : LReg) : List Value := [.int .i64 r.base, .int .i64 r.words.length]
def gcells (ls : List LReg) : List Value := ls.flatMap gcell
theorem gcells_len (ls : List LReg) : (gcells ls).length = ls.length * 2 := flat2_len _ (fun _ => rfl) ls
def vals {ls : List LReg} (pre : List (In ls)) : List LReg := pre.map (·.1)
theorem vals_snoc {ls : List LReg} (pre : List (In ls)) (x : In ls) : vals (pre ++ [x]) = vals pre ++ [x.1] := by simp [vals]
theorem vals_all (ls : List LReg) : vals ls.attach = ls := by simp [vals]
theorem gcells_snoc (ls : List LReg) (x : LReg) : gcells (ls ++ [x]) = gcells ls ++ gcell x := by simp [gcells]
theorem infoR : (Try.prog.info? 39).map (fun i => (i.zero, i.size, i.bytes)) = some (some (.agg #[.int .i64 0, .int .i64 0]), 2, 16) := by kernel_rfl
theorem two_new (w : World) (a b : Value) (T : TypeId) : ∀ j u, [a, b][j]? = some u → (w.alloc (.cells #[a, b] T)).cell? ((⟨w.heap.size, 0, none⟩ : Addr).add j) = some u := by
  intro j u hu
  match j, hu with
  | 0, hu => simpa [Addr.add] using hu
  | 1, hu => simpa [Addr.add] using hu

def RegionsPost (ls : List LReg) (w : World) (e : Ending) (w' : World) : Prop :=
  Below w.heap.size w w' ∧ ∃ v, e = .returned v ∧ w'.ownsRow w.heap.size 39 2 v ls.length (gcells ls) ∧ (v = .slice none 0 0 ↔ ls = [])

set_option maxRecDepth 100000 in
set_option maxHeartbeats 2000000 in
theorem regions_in {w : World} {p : Nat} {last : Int} {sl : Value} {ls : List LReg} (h : SpAt w p last sl ls) (ok : RegsOk last ls) (n : Nat) (hn : 5 ≤ n) :
    CallsIn Fence.wide n Try.prog 14 #[.pointer (some ⟨p, 0, none⟩)] w (RegionsPost ls w) := by
  have hfn : ∀ k, Fence.wide.fn k := fun _ => trivial
  have hn1 : 1 ≤ n := by omega
  obtain ⟨i0, hi, hz0, hz1, hz2⟩ := info_parts infoR
  refine callsIn_of_wp_marks Try.func14 rfl trivial ?_ rfl
  simp only [Try.ntmps14, List.size_toArray, List.length_cons, List.length_nil, Nat.reduceAdd, Nat.reduceSub, Array.replicate_succ, Array.replicate_zero, List.push_toArray, List.append_toArray, List.nil_append, List.cons_append]
  gi_wp2_with (gi_at_call 46; refine (each_in (n - 1) _ _).mono ?_; rintro e w' ⟨rfl, rfl⟩)
  have bN := (Boxed.new w 36 (.slice none 0 0)).alloc (.cells #[.pointer (some ⟨p, 0, none⟩)] 52)
  have bE := Boxed.new (w.alloc (.cells #[.slice none 0 0] 36)) 52 (.pointer (some ⟨p, 0, none⟩))
  simp only [World.size_alloc] at bE
  have hB0 : Below w.heap.size w ((w.alloc (.cells #[.slice none 0 0] 36)).alloc (.cells #[.pointer (some ⟨p, 0, none⟩)] 52)) := ((Below.refl _ w).alloc (Nat.le_refl _) _).alloc (by simp) _
  have hsz : ((w.alloc (.cells #[.slice none 0 0] 36)).alloc (.cells #[.pointer (some ⟨p, 0, none⟩)] 52)).heap.size = w.heap.size + 2 := by simp
  obtain ⟨W0, hW0⟩ : ∃ W0, (w.alloc (.cells #[.slice none 0 0] 36)).alloc (.cells #[.pointer (some ⟨p, 0, none⟩)] 52) = W0 := ⟨_, rfl⟩
  rw [hW0] at bN bE hB0 hsz ⊢
  clear hW0
  have hcnt := ok.count
  refine wpIn_rangeFunc_ownH (F := Fence.wide) rfl (by omega) (gf := 79) (lb := #[.pointer (some ⟨w.heap.size + 1, 0, none⟩)]) rfl trivial (enters_of Try.func79 (by kernel_rfl) rfl)
    (each_stops (n - 1) (by omega) (w.heap.size + 1) p w.heap.size last sl ls ok.count W0 (by omega) (by omega) bE.cell (h.below hB0) h.lt) belowK_t (belowK_b (by omega)) (Below.refl _ _) (fun _ => rfl)
    (fun pre W => (∃ v, Boxed W w.heap.size 36 v ∧ W.ownsRow w.heap.size 39 2 v (vals pre).length (gcells (vals pre)) ∧ (v = .slice none 0 0 ↔ vals pre = [])) ∧ Below w.heap.size w W)
    (fun c pre W => False)
    (OwnFrom.and (Own.from (holdsRow_own w.heap.size w.heap.size 36 39 2 (fun pre => (vals pre).length) (fun pre => gcells (vals pre)) (fun pre v => (v = .slice none 0 0 ↔ vals pre = []))) _) (ownFrom_below (Nat.le_refl _) (by omega)))
    (fun _ _ _ _ _ hs _ _ => hs)
    ⟨⟨_, bN, World.ownsRow_nil _ _ _ _, by simp [vals]⟩, hB0⟩
    (fun x a' W => ∃ Bx, w.heap.size < Bx ∧ W.heap[Bx]? = some (.cells #[.int .i64 x.1.base, .slice (some ⟨x.1.wb, 0, none⟩) x.1.words.length x.1.cap] 100 (0, 0)) ∧ a' = { tmps := #[.pointer (some ⟨p, 0, none⟩), undef, .slice none 0 0, .pointer (some ⟨w.heap.size, 0, none⟩), .pointer (some ⟨Bx, 0, none⟩), .pointer (some ⟨p, 0, none⟩), .func (.func 79) #[] #[.pointer (some ⟨w.heap.size + 1, 0, none⟩)], .agg #[.int .i64 x.1.base, .slice (some ⟨x.1.wb, 0, none⟩) x.1.words.length x.1.cap], undef, undef, undef, undef, undef, undef, undef, undef, undef, undef], defers := [] })
    (fun x a' _ X Y row hs hg hr => by obtain ⟨Bx, h1, h2, h3⟩ := hs; exact ⟨Bx, h1, (hg.block Bx (lt_of_heap h2) (fun e => by obtain ⟨_, o, ho, hc⟩ := hr Bx e.symm; rw [h2] at ho; cases ho; simp [Obj.isCells] at hc)).trans h2, h3⟩)
    ?assign ?body ?done ?stop
  case assign =>
    rintro l pre x W K ⟨⟨v, bV, hrow, hnil⟩, hB1⟩ hK
    unfold renc
    gi_wp2
    exact hK _ _ ((KeepsOthers.alloc _ _).from _) ((Below.refl _ W).alloc hB1.size _) ⟨⟨v, bV.alloc _, hrow.alloc _, hnil⟩, hB1.alloc hB1.size _⟩ ⟨W.heap.size, bV.lt, heap_alloc_new W _, rfl⟩
  case body =>
    have hn2 : 1 ≤ n - 1 - 1 := by omega
    rintro l pre x a' W hl ⟨r, hr⟩ ⟨⟨v, bV, hrow, hnil⟩, hB1⟩ ⟨Bx, hBx, bX, rfl⟩ hlt
    have cV := bV.cell
    have cX0 : W.cell? ⟨Bx, 0, none⟩ = some (.int .i64 x.1.base) := by rw [cell_of_row W Bx 0 _ _ _ bX]; rfl
    have cX1 : W.cell? ⟨Bx, 1, none⟩ = some (.slice (some ⟨x.1.wb, 0, none⟩) x.1.words.length x.1.cap) := by rw [cell_of_row W Bx 1 _ _ _ bX]; rfl
    have hle : (vals pre).length < ls.length := by simpa [vals] using hlt
    have hNil := Hid.mk hnil
    clear hnil
    gi_wp2_with (gi_at_builtin; refine wpListIn_append_own _ rfl (.tmp 8) (.tmp 15) 36 rfl w.heap.size 39 i0 (.agg #[.int .i64 0, .int .i64 0]) 2 16 Try.underlying36 hi hz0 hz1 hz2 rfl (by decide) _ _ _ rfl (hrow.alloc _) ⟨W.heap.size, 0, none⟩ 1 1 [.int .i64 x.1.base, .int .i64 x.1.words.length] rfl rfl (two_new _ _ _ _) ?c3 ?c4 ?c5 ?c6 ?_)
    case c3 => intro u hu; simp only [List.mem_cons, List.not_mem_nil, or_false] at hu; obtain rfl | rfl := hu <;> rfl
    case c4 => unfold maxLen; omega
    case c5 => omega
    case c6 => have := hB1.size; simp; omega
    intro v' w1 hown' hgrow hnn
    obtain ⟨hv1, hv2, hr2, hk2, hb2⟩ := bV.appended (by decide) hrow hB1.size (Nat.le_refl _) hown' hgrow
    obtain ⟨g', cap', rfl⟩ := ownsRow_succ hown'
    have hc1 := hv1.cell
    have hf1 := hv1.frozen
    gi_wp2
    refine ⟨hk2.from _, hb2, ⟨_, hv2, ?_, by simp [vals_snoc]⟩, hB1.trans hb2⟩
    rw [vals_snoc, gcells_snoc]
    simpa [gcell] using hr2
  case done =>
    rintro D zs W hD rfl ⟨⟨v, bV, hrow, hnil⟩, hB1⟩ hK
    have cV := bV.cell
    gi_wp2
    refine ⟨by simp, .inl ⟨_, _, rfl, run_takeDeferred hK, ?_⟩⟩
    rw [vals_all] at hrow hnil
    exact ⟨_, results_tmp rfl _ _ _, hB1.trans (belowK_b (w := w) (Nat.le_refl _) W D _ _ (by omega) hK rfl rfl), v, rfl, ownsRow_putObj hrow _ hK rfl, hnil⟩
  case stop =>
    rintro D c pre W _ _ h _
    exact h.elim
theorem regions_any {w : World} {p : Nat} {last : Int} {sl : Value} {ls : List LReg} (h : SpAt w p last sl ls) (ok : RegsOk last ls) :
    Calls Try.prog 14 #[.pointer (some ⟨p, 0, none⟩)] w (RegionsPost ls w) := callsIn_wide.1 (regions_in h ok 10 (by decide))
end Go.Proofs.Ytkooogllajmkeaa
