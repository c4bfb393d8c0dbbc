/- The contract of Put: a value is put into a word. -/
import Derived.Test.YtkooogllajmkeaaGt
import Derived.Test.YtkooogllajmkeaaBl
namespace Go.Proofs.Ytkooogllajmkeaa
open Go.RowKit

/-- region i has other words -/
def setWords (ls : List LReg) (i : Nat) (ws : List (Int × Int)) : List LReg := ls.modify i (fun r => { r with words := ws })
theorem setWords_get {ls : List LReg} {i : Nat} {ws : List (Int × Int)} (k : Nat) : (setWords ls i ws)[k]? = (ls[k]?).map (fun r => if i = k then { r with words := ws } else r) := by
  simp only [setWords, List.getElem?_modify]
  split <;> simp_all
theorem setWords_len {ls : List LReg} {i : Nat} {ws : List (Int × Int)} : (setWords ls i ws).length = ls.length := by simp [setWords]
theorem setWords_map {β : Type} {ls : List LReg} {i : Nat} {ws : List (Int × Int)} (f : LReg → β) (hf : ∀ (hi : i < ls.length), f { ls[i] with words := ws } = f ls[i]) : (setWords ls i ws).map f = ls.map f := by
  apply List.ext_getElem?
  intro k
  rw [List.getElem?_map, List.getElem?_map, setWords_get]
  rcases Nat.lt_or_ge k ls.length with hk | hk
  · simp only [hk, List.getElem?_eq_getElem, Option.map_some]
    split
    · rename_i q; subst q; rw [hf hk]
    · rfl
  · simp [List.getElem?_eq_none hk]
theorem flatMap_map' {α β γ : Type} (f : α → β) (g : β → List γ) (l : List α) : (l.map f).flatMap g = l.flatMap (fun a => g (f a)) := by
  induction l with
  | nil => rfl
  | cons a l ih => simp [ih]
theorem rcells_eq {l1 l2 : List LReg} (h : l1.map LReg.cells = l2.map LReg.cells) : rcells l1 = rcells l2 := by
  have : ∀ l : List LReg, rcells l = (l.map LReg.cells).flatMap id := fun l => by rw [flatMap_map']; rfl
  rw [this, this, h]
theorem setWords_mem {ls : List LReg} {i : Nat} {ws : List (Int × Int)} {r : LReg} (h : r ∈ setWords ls i ws) : (∃ hi : i < ls.length, r = { ls[i] with words := ws }) ∨ (r ∈ ls ∧ ∃ k, k ≠ i ∧ ls[k]? = some r) := by
  obtain ⟨k, hk⟩ := List.getElem?_of_mem h
  rw [setWords_get] at hk
  rcases Nat.lt_or_ge k ls.length with q | q
  · simp only [q, List.getElem?_eq_getElem, Option.map_some, Option.some.injEq] at hk
    split at hk
    · rename_i e; subst e; exact .inl ⟨q, hk.symm⟩
    · rename_i e; subst hk; exact .inr ⟨List.getElem_mem q, k, fun q' => e q'.symm, by simp [q]⟩
  · simp [List.getElem?_eq_none q] at hk

theorem wb_ne {p : Nat} {sl : Value} {ls : List LReg} (h : (foot p sl ls).Nodup) {i k : Nat} (hi : i < ls.length) (hk : k < ls.length) (hne : k ≠ i) : ls[k].wb ≠ ls[i].wb := by
  have h2 : (ls.map (·.wb)).Nodup := by
    have := (List.nodup_cons.1 h).2
    exact (List.nodup_append.1 this).2.1
  intro e
  rcases Nat.lt_or_gt_of_ne hne with q | q
  · exact List.pairwise_iff_getElem.1 h2 k i (by simpa using hk) (by simpa using hi) q (by simpa using e)
  · exact List.pairwise_iff_getElem.1 h2 i k (by simpa using hi) (by simpa using hk) q (by simpa using e.symm)

theorem SpAt.replace {w w' : World} {p : Nat} {last : Int} {sl : Value} {ls : List LReg} (h : SpAt w p last sl ls) {i : Nat} (hi : i < ls.length) (k : Kp [ls[i].wb] w w') (ws : List (Int × Int)) (hl : ws.length = ls[i].words.length)
    (hrow : w'.ownsRow 0 29 2 (.slice (some ⟨ls[i].wb, 0, none⟩) ls[i].words.length ls[i].cap) ls[i].words.length (wcells ws)) : SpAt w' p last sl (setWords ls i ws) := by
  have hnd := h.nodup
  have hin : ls[i].wb ∈ ls.map (·.wb) := List.mem_map.2 ⟨_, List.getElem_mem hi, rfl⟩
  have hp : p ≠ ls[i].wb := by
    rintro e
    exact (List.nodup_cons.1 hnd).1 (List.mem_append.2 (.inr (e ▸ hin)))
  have hB : ∀ g, sl.ownBlock = some g → g ∉ [ls[i].wb] := by
    intro g hg e
    have hdis := (List.nodup_append.1 (List.nodup_cons.1 hnd).2).2.2
    simp only [List.mem_singleton] at e
    exact hdis g (by simp [hg]) _ hin e
  refine ⟨k.at h.head (by simpa using hp), ?_, ?_, ?_⟩
  · rw [setWords_len, rcells_eq (setWords_map _ (fun _ => by simp [LReg.cells, hl]))]
    exact k.row h.row hB
  · intro r hr
    rcases setWords_mem hr with ⟨_, rfl⟩ | ⟨hr, q, hq, hqr⟩
    · simpa [hl] using hrow
    · refine k.row (h.words r hr) ?_
      intro g hg
      simp [Value.ownBlock] at hg
      subst hg
      obtain ⟨hql, rfl⟩ := List.getElem?_eq_some_iff.1 hqr
      simpa using wb_ne hnd hi hql hq
  · unfold foot
    rw [setWords_map (fun r => r.wb) (fun _ => rfl)]
    exact hnd
theorem foot_setWords {p : Nat} {sl : Value} {ls : List LReg} {i : Nat} {ws : List (Int × Int)} : foot p sl (setWords ls i ws) = foot p sl ls := by
  unfold foot
  rw [setWords_map (fun r => r.wb) (fun _ => rfl)]
theorem RegsOk.replace {last : Int} {ls : List LReg} (h : RegsOk last ls) {i : Nat} (hi : i < ls.length) (ws : List (Int × Int)) (hl : ws.length = ls[i].words.length) : RegsOk last (setWords ls i ws) := by
  have e : (setWords ls i ws).map (fun r => (r.base, r.words.length)) = ls.map (fun r => (r.base, r.words.length)) := setWords_map _ (fun _ => by simp [hl])
  refine ⟨?_, ?_, h.last0, h.last1, ?_⟩
  · intro r hr
    rcases setWords_mem hr with ⟨_, rfl⟩ | ⟨hr, _⟩
    · have := h.lo _ (List.getElem_mem hi)
      simpa [hl] using this
    · exact h.lo r hr
  · have hs := h.sep
    have : ∀ l : List LReg, l.Pairwise (fun a b => a.base + (a.words.length : Int) < b.base) ↔ (l.map (fun r => (r.base, r.words.length))).Pairwise (fun a b => a.1 + (a.2 : Int) < b.1) := fun l => by rw [List.pairwise_map]
    rw [this] at hs ⊢
    rw [e]; exact hs
  · rw [setWords_map (fun r => r.words.length) (fun _ => by simp [hl])]
    exact h.live

def PutPost (p : Nat) (last : Int) (sl : Value) (ls : List LReg) (a t n : Int) (w : World) (e : Ending) (w' : World) : Prop :=
  (∃ (i j : Nat) (hi : i < ls.length) (_ : j < ls[i].words.length), a = ls[i].base + j ∧
      ((okV t n = false ∧ Below w.heap.size w w' ∧ e = .returned (.int .i64 21)) ∨
       (okV t n = true ∧ Kp [ls[i].wb] w w' ∧ SpAt w' p last sl (setWords ls i (ls[i].words.set j (t, n))) ∧ e = .returned (.int .i64 0)))) ∨
   ((∀ (i : Nat) (hi : i < ls.length), hasB ls[i].base ls[i].words.length a 1 = false) ∧ Below w.heap.size w w' ∧ e = .returned (.int .i64 210))

theorem wcells_set : ∀ (l : List (Int × Int)) (j : Nat) (v : Int × Int), wcells (l.set j v) = ((wcells l).set (j * 2) (.int .i64 v.1)).set (j * 2 + 1) (.int .i64 v.2)
  | [], j, v => by simp [wcells]
  | x :: l, 0, v => by simp [wcells, wcell]
  | x :: l, j + 1, v => by
    have := wcells_set l j v
    simp only [wcells, List.set_cons_succ, List.flatMap_cons, wcell] at this ⊢
    rw [this]
    simp [show (j + 1) * 2 = j * 2 + 2 by omega]

theorem SpAt.wrow {w : World} {p : Nat} {last : Int} {sl : Value} {ls : List LReg} (h : SpAt w p last sl ls) {i : Nat} (hi : i < ls.length) : w.ownsRow 0 29 2 (.slice (some ⟨ls[i].wb, 0, none⟩) ls[i].words.length ls[i].cap) ls[i].words.length (wcells ls[i].words) := h.words _ (List.getElem_mem hi)

set_option maxRecDepth 100000 in
theorem put_any {w : World} {p : Nat} {last : Int} {sl : Value} {ls : List LReg} (h : SpAt w p last sl ls) (ok : RegsOk last ls) (a t n : Int) :
    Calls Try.prog 17 #[.pointer (some ⟨p, 0, none⟩), .int .i64 a, .agg #[.int .i64 t, .int .i64 n]] w (PutPost p last sl ls a t n w) := by
  have hb0 : Below w.heap.size w (w.alloc (.cells #[.int .i64 t, .int .i64 n] 29)) := (Below.refl _ _).alloc (Nat.le_refl _) _
  have HF := Hid.mk (some_any (h.below hb0) ok a 1)
  go_enter Try.func17, Try.ntmps17
  go_wp2_with fail
  refine HF.out.mono ?_
  clear HF
  rintro e w1 ⟨hb, ⟨q, _⟩ | ⟨i, j, k, hi, rfl, hk1, hk, hjk, rfl⟩ | ⟨hm, hno, rfl⟩⟩
  · exact absurd q (by omega)
  all_goals
    obtain ⟨c0, c1, f0, hsz⟩ := box2 hb
    have hbb := hb0.trans (hb.mono hb0.size)
  · obtain rfl : k = 1 := by omega
    have hj : j < ls[i].words.length := by omega
    clear hk1
    go_wp2_with fail
    refine (check_any t n _).mono ?_
    rintro e w2 ⟨rfl, hb2⟩
    have hb3 := hbb.trans (hb2.mono hbb.size)
    have h3 := h.below hb3
    cases hok : okV t n
    · rw [chk_no hok]
      have HO := Hid.mk hok
      clear hok
      go_wp2
      go_ret
      exact .inl ⟨i, j, hi, hj, rfl, .inl ⟨HO.out, hb3, rfl⟩⟩
    · rw [chk_ok hok]
      have HO := Hid.mk hok
      clear hok
      have d0 := (hb2.cell (p := ⟨w.heap.size, 0, none⟩) hsz).trans c0
      have d1 := (hb2.cell (p := ⟨w.heap.size, 1, none⟩) hsz).trans c1
      have x0 := h3.type hi hj
      have x1 := h3.num hi hj
      have g0 := row_free (h3.wrow hi)
      go_wp2
      go_ret
      refine .inl ⟨i, j, hi, hj, rfl, .inr ⟨HO.out, ?_, ?_, rfl⟩⟩
      · exact ((Kp.of_below hb3 _).setCell (.inl (by simp)) _).setCell (.inl (by simp)) _
      · refine h3.replace hi (((Kp.refl _ _).setCell (.inl (by simp)) _).setCell (.inl (by simp)) _) _ (by simp) ?_
        rw [wcells_set]
        exact (((h3.wrow hi).stored (j * 2) _).1.stored (j * 2 + 1) _).1
  · go_wp2
    go_ret
    exact .inr ⟨fun i hi => hno i hi (by omega), hbb, rfl⟩
end Go.Proofs.Ytkooogllajmkeaa
