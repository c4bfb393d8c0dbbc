/- The document's Copy. -/
import Derived.Test.YtkooogllajmkeaaTw
namespace Go.Proofs.Ytkooogllajmkeaa
open Go.RowKit
set_option pp.deepTerms true
/-- a copy on its way: ls' are those that lie there -/
def CpAt (w : World) (C : Nat) (last : Int) (rv tv : Value) (ls ls' : List LReg) (W : World) : Prop :=
  W.heap[C]? = some (.cells #[rv, tv, .int .i64 last] 56 (0, 0)) ∧ W.ownsRow w.heap.size 39 2 rv ls.length (gcells ls) ∧ W.ownsRow w.heap.size 62 1 tv ls'.length (ls'.map LReg.sl) ∧
  (∀ r ∈ ls', W.ownsRow w.heap.size 29 2 r.sl r.words.length (wcells r.words)) ∧ (rfoot C rv tv ls').Nodup ∧ w.heap.size ≤ C ∧ Below w.heap.size w W
section
variable {w W : World} {C : Nat} {last : Int} {rv tv : Value} {ls ls' : List LReg}
theorem CpAt.lt (h : CpAt w C last rv tv ls ls' W) : ∀ b ∈ rfoot C rv tv ls', w.heap.size ≤ b ∧ b < W.heap.size := by
  obtain ⟨h1, h2, h3, h4, h5, h6, h7⟩ := h
  intro b hb
  simp only [rfoot, List.mem_cons, List.mem_append, Option.mem_toList, List.mem_map] at hb
  rcases hb with rfl | hb | hb | ⟨r, hr, rfl⟩
  · exact ⟨h6, lt_of_heap h1⟩
  · exact h2.lt b hb
  · exact h3.lt b hb
  · exact (h4 r hr).lt r.wb rfl
theorem cp_step (h : CpAt w C last rv tv ls ls' W) {base : Int} {ws : List (Int × Int)} {g cap g2 cap2 : Nat} {w1 w2 : World} {ob : Obj}
    (hn1 : w1.ownsRow w.heap.size 29 2 (.slice (some ⟨g, 0, none⟩) ws.length cap) ws.length (wcells ws)) (hg1 : W.grownBy w1 none) (hgg : g = W.heap.size)
    (hn2 : w2.ownsRow w.heap.size 62 1 (.slice (some ⟨g2, 0, none⟩) (ls'.length + 1) cap2) (ls'.length + 1) (ls'.map LReg.sl ++ [.slice (some ⟨g, 0, none⟩) ws.length cap]))
    (hg2 : (w1.alloc ob).grownBy w2 tv.ownBlock) (hat : tv.ownBlock = some g2 ∨ g2 = w1.heap.size + 1) :
    CpAt w C last rv (.slice (some ⟨g2, 0, none⟩) (ls'.length + 1) cap2) ls (ls' ++ [⟨base, g, cap, ws⟩]) (w2.setCell ⟨C, 1, none⟩ (.slice (some ⟨g2, 0, none⟩) (ls'.length + 1) cap2)) := by
  have hlt := h.lt
  obtain ⟨h1, h2, h3, h4, h5, h6, h7⟩ := h
  have hd0 := List.nodup_cons.1 h5
  have hd1 := List.nodup_append.1 hd0.2
  have hd2 := List.nodup_append.1 hd1.2.1
  have s1 := hg1.size
  have s2 := hg2.size
  simp only [World.size_alloc] at s2
  have gl := hn1.lt g rfl
  have hCl := lt_of_heap h1
  have hCt : tv.ownBlock ≠ some C := fun e => hd0.1 (List.mem_append.2 (.inr (List.mem_append.2 (.inl (by simp [e])))))
  have hCr : rv.ownBlock ≠ some C := fun e => hd0.1 (List.mem_append.2 (.inl (by simp [e])))
  have htl : ∀ x, tv.ownBlock = some x → x < W.heap.size := fun x e => (hlt x (by simp [rfoot, e])).2
  have hrt : ∀ x, rv.ownBlock = some x → tv.ownBlock ≠ some x := fun x e e2 => hd1.2.2 x (by simp [e]) x (List.mem_append.2 (.inl (by simp [e2]))) rfl
  have hwt : ∀ r ∈ ls', tv.ownBlock ≠ some r.wb := fun r hr e => hd2.2.2 r.wb (by simp [e]) r.wb (List.mem_map.2 ⟨r, hr, rfl⟩) rfl
  have hrw : ∀ r ∈ ls', rv.ownBlock ≠ some r.wb := fun r hr e => hd1.2.2 r.wb (by simp [e]) r.wb (List.mem_append.2 (.inr (List.mem_map.2 ⟨r, hr, rfl⟩))) rfl
  have hwC : ∀ r ∈ ls', r.wb ≠ C := fun r hr e => hd0.1 (List.mem_append.2 (.inr (List.mem_append.2 (.inr (List.mem_map.2 ⟨r, hr, e⟩)))))
  have hwl : ∀ r ∈ ls', r.wb < W.heap.size := fun r hr => ((h4 r hr).lt r.wb rfl).2
  have hg2C : g2 ≠ C := by
    rcases hat with e | e
    · rintro rfl; exact hCt e
    · omega
  have hh2 : w2.heap[C]? = some (.cells #[rv, tv, .int .i64 last] 56 (0, 0)) := (hg2.block C (by simp; omega) (fun e => hCt e.symm)).trans ((Below.heap_alloc _ _ _ (by omega)).trans ((hg1.block C hCl (by simp)).trans h1))
  have keep : ∀ (T1 z : Nat) (v : Value) (n : Nat) (xs : List Value), w1.ownsRow w.heap.size T1 z v n xs → (∀ x, v.ownBlock = some x → tv.ownBlock ≠ some x ∧ x ≠ C) →
      (w2.setCell ⟨C, 1, none⟩ (.slice (some ⟨g2, 0, none⟩) (ls'.length + 1) cap2)).ownsRow w.heap.size T1 z v n xs := by
    intro T1 z v n xs ho hx
    cases hv : v.ownBlock with
    | none => exact ownsRow_setCell_other ((ho.alloc ob).kept hg2 (.inl hv)) (by rw [hv]; simp) _
    | some x => exact ownsRow_setCell_other ((ho.alloc ob).kept hg2 (.inr (by rw [hv]; exact Ne.symm (hx x hv).1))) (by rw [hv]; simpa using (hx x hv).2) _
  have k1 : ∀ (T1 z : Nat) (v : Value) (n : Nat) (xs : List Value), W.ownsRow w.heap.size T1 z v n xs → w1.ownsRow w.heap.size T1 z v n xs := fun T1 z v n xs ho => ho.kept hg1 (by cases v.ownBlock <;> simp)
  refine ⟨?_, ?_, ?_, ?_, ?_, h6, ?_⟩
  · have := heap_setCell_same w2 C 1 _ _ (.slice (some ⟨g2, 0, none⟩) (ls'.length + 1) cap2) hh2
    simpa using this
  · exact keep _ _ _ _ _ (k1 _ _ _ _ _ h2) (fun x hx => ⟨hrt x hx, fun e => hCr (e ▸ hx)⟩)
  · rw [List.map_append, List.length_append]
    exact ownsRow_setCell_other hn2 (by simp [Value.ownBlock, hg2C]) _
  · intro r hr
    rcases List.mem_append.1 hr with hr | hr
    · refine keep _ _ _ _ _ (k1 _ _ _ _ _ (h4 r hr)) (fun x hx => ?_)
      simp only [LReg.sl, Value.ownBlock, Option.some.injEq] at hx
      subst hx
      exact ⟨hwt r hr, hwC r hr⟩
    · obtain rfl : r = _ := by simpa using hr
      refine keep _ _ _ _ _ hn1 (fun x hx => ?_)
      simp only [LReg.sl, Value.ownBlock, Option.some.injEq] at hx
      subst hx
      exact ⟨fun e => by have := htl _ e; omega, by omega⟩
  · have hgr : rv.ownBlock ≠ some g := fun e => by have := (hlt g (by simp [rfoot, e])).2; omega
    have hg2r : rv.ownBlock ≠ some g2 := fun e => by
      rcases hat with q | q
      · exact hrt g2 e q
      · have := (hlt g2 (by simp [rfoot, e])).2; omega
    have hg2g : g2 ≠ g := by
      rcases hat with q | q
      · have := htl g2 q; omega
      · omega
    have hg2w : ∀ r ∈ ls', g2 ≠ r.wb := fun r hr e => by
      rcases hat with q | q
      · exact hwt r hr (e ▸ q)
      · have := hwl r hr; omega
    simp only [rfoot, Value.ownBlock, Option.toList_some, List.map_append, List.map_cons, List.map_nil]
    refine List.nodup_cons.2 ⟨?_, List.nodup_append.2 ⟨hd1.1, List.nodup_append.2 ⟨by simp, List.nodup_append.2 ⟨hd2.2.1, by simp, ?_⟩, ?_⟩, ?_⟩⟩
    · intro q
      simp only [List.mem_append, List.mem_singleton, Option.mem_toList, List.mem_map] at q
      rcases q with q | q | ⟨r, hr, q⟩ | q
      · exact hCr q
      · exact hg2C q.symm
      · exact hwC r hr q
      · omega
    · intro x hx y hy e
      simp only [List.mem_singleton] at hy
      obtain ⟨r, hr, rfl⟩ := List.mem_map.1 hx
      have := hwl r hr; omega
    · intro x hx y hy e
      simp only [List.mem_singleton] at hx
      subst hx
      rcases List.mem_append.1 hy with q | q
      · obtain ⟨r, hr, rfl⟩ := List.mem_map.1 q
        exact hg2w r hr e
      · simp only [List.mem_singleton] at q; subst q; exact hg2g e
    · intro x hx y hy e
      subst e
      simp only [Option.mem_toList] at hx
      rcases List.mem_append.1 hy with q | q
      · simp only [List.mem_singleton] at q; subst q; exact hg2r hx
      · rcases List.mem_append.1 q with q | q
        · obtain ⟨r, hr, rfl⟩ := List.mem_map.1 q
          exact hrw r hr hx
        · simp only [List.mem_singleton] at q; subst q; exact hgr hx
  · refine Below.setCell (p := ⟨C, 1, none⟩) (Below.grown (Below.alloc (Below.grown h7 hg1 h7.size (by simp)) ?_ ob) hg2 ?_ ?_) h6 _
    · have := h7.size; omega
    · have := h7.size; simp; omega
    · intro x hx; exact (hlt x (by simp [rfoot, hx])).1
theorem cp_done (h : CpAt w C last rv tv ls ls' W) (hr : ls'.map LReg.reg = ls.map LReg.reg) (ok : RegsOk last ls) (hwd : Words ls) : RSpc W C ⟨ls.map LReg.reg, last⟩ (rfoot C rv tv ls') := by
  obtain ⟨h1, h2, h3, h4, h5, h6, h7⟩ := h
  have hl : ls'.length = ls.length := by have := congrArg List.length hr; simpa using this
  have hb : ∀ i (h : i < ls.length), ls'[i].base = ls[i].base ∧ ls'[i].words = ls[i].words := fun i hi => by
    have := congrArg (fun l => l[i]?) hr
    simp only [List.getElem?_map, List.getElem?_eq_getElem (show i < ls'.length by omega), List.getElem?_eq_getElem hi, Option.map_some, Option.some.injEq, LReg.reg, Reg.mk.injEq] at this
    exact this
  refine ⟨rv, tv, ls', ⟨h1, ?_, h3.mono (Nat.zero_le _), fun r hr => (h4 r hr).mono (Nat.zero_le _), h5⟩, ?_, ?_, hr.symm, rfl⟩
  · rw [hl, gcells_tells, hr, ← gcells_tells]
    exact h2.mono (Nat.zero_le _)
  · refine ⟨?_, ?_, ok.last0, ok.last1, ?_⟩
    · intro r hr'
      obtain ⟨i, hi, rfl⟩ := List.getElem_of_mem hr'
      have := ok.lo _ (List.getElem_mem (show i < ls.length by omega))
      rw [(hb i (by omega)).1, (hb i (by omega)).2]
      exact this
    · refine List.pairwise_iff_getElem.2 (fun i j hi hj hij => ?_)
      rw [(hb i (by omega)).1, (hb i (by omega)).2, (hb j (by omega)).1]
      exact List.pairwise_iff_getElem.1 ok.sep i j (by omega) (by omega) hij
    · have e : ls'.map (fun r => r.words.length) = ls.map (fun r => r.words.length) := by
        have := congrArg (List.map (fun r : Reg => r.words.length)) hr
        simpa [LReg.reg, Function.comp_def] using this
      rw [show (ls'.map (·.words.length)) = _ from e]
      exact ok.live
  · intro r hr' v hv
    obtain ⟨i, hi, rfl⟩ := List.getElem_of_mem hr'
    rw [(hb i (by omega)).2] at hv
    exact hwd _ (List.getElem_mem (show i < ls.length by omega)) v hv
end
end Go.Proofs.Ytkooogllajmkeaa
