/- Parts Gn Gp Gq Se Pc Sf Ha Xd, put together. -/
import Derived.Test.YtpfnnmcokbolhaaMe1
import Derived.Test.YtpfnnmcokbolhaaMe3
import Derived.Test.YtpfnnmcokbolhaaMe4
import Derived.Test.YtpfnnmcokbolhaaMe6
import Derived.Laws.OwnMore
import Derived.Deep.Onto
import Derived.Laws.StructEq
import Derived.Deep.QuietTactic
import Derived.BigQuiet
import Derived.LoopTactic
/- SegmentOrder's walk: what the loop carries. -/
namespace Go.Proofs.Ytpfnnmcokbolhaa
open Go.RowKit
set_option pp.deepTerms true
/-- a space, a link, and a row of the call's own beside them -/
def SegR (w : World) (p b : Nat) (sz ca : Int) (S : Sp) (L : Lk) (E : List (Nat × Obj)) (v : Value) (xs : List (Int × Int)) (W : World) : Prop :=
  ∃ E2, Seg w p b sz ca S L (E2 ++ E) W ∧ (∀ W'' : World, (∀ x ∈ E2, W''.heap[x.1]? = some x.2) → W''.ownsRow w.heap.size 88 2 v xs.length (wcells xs)) ∧
    (∀ x ∈ E2, v.ownBlock = some x.1) ∧ (∀ g, v.ownBlock = some g → ∃ o, (g, o) ∈ E2) ∧ ∀ x ∈ E, v.ownBlock ≠ some x.1
section
variable {w W W' : World} {p b : Nat} {sz ca : Int} {S S' : Sp} {L L' : Lk} {E : List (Nat × Obj)} {v : Value} {xs : List (Int × Int)}
theorem SegR.nil (h : Seg w p b sz ca S L E W) : SegR w p b sz ca S L E (.slice none 0 0) [] W :=
  ⟨[], h, fun _ _ => World.ownsRow_nil _ _ _ _, by simp, by simp [Value.ownBlock], by simp [Value.ownBlock]⟩
theorem SegR.row (h : SegR w p b sz ca S L E v xs W) : W.ownsRow w.heap.size 88 2 v xs.length (wcells xs) := by
  obtain ⟨E2, h1, h2, -⟩ := h
  exact h2 W (fun x hx => h1.at (List.mem_append.2 (.inl hx)))
theorem SegR.seg (h : SegR w p b sz ca S L E v xs W) : Seg w p b sz ca S L E W := by
  obtain ⟨E2, h1, -⟩ := h
  exact h1.sub (fun x hx => List.mem_append.2 (.inr hx))
theorem SegR.size (h : SegR w p b sz ca S L E v xs W) : Below w.heap.size w W := h.seg.size
theorem SegR.keep (h : SegR w p b sz ca S L E v xs W) (k : Below W.heap.size W W') : SegR w p b sz ca S L E v xs W' := by
  obtain ⟨E2, h1, h2, h3, h4, h5⟩ := h
  exact ⟨E2, h1.keep k, h2, h3, h4, h5⟩
/-- a call over the space and the link, whatever else lies in E -/
theorem SegR.call {f : FuncId} {args : Array Value} {R : Ending → Prop} (h : SegR w p b sz ca S L E v xs W) (hc : ∀ E', Seg w p b sz ca S L E' W → Calls Try.prog f args W fun e w' => Seg w p b sz ca S' L' E' w' ∧ R e) :
    Calls Try.prog f args W fun e w' => SegR w p b sz ca S' L' E v xs w' ∧ R e := by
  obtain ⟨E2, h1, h2, h3, h4, h5⟩ := h
  refine (hc _ h1).mono ?_
  rintro e w' ⟨q, r⟩
  exact ⟨⟨E2, q, h2, h3, h4, h5⟩, r⟩
theorem SegR.alloc (h : SegR w p b sz ca S L E v xs W) (o : Obj) : SegR w p b sz ca S L ((W.heap.size, o) :: E) v xs (W.alloc o) := by
  have hrow := h.row
  obtain ⟨E2, h1, h2, h3, h4, h5⟩ := h
  have hk := h1.alloc o
  refine ⟨E2, hk.sub (fun x hx => ?_), h2, h3, h4, fun x hx => ?_⟩
  · rcases List.mem_append.1 hx with q | q
    · exact List.mem_cons_of_mem _ (List.mem_append.2 (.inl q))
    · rcases List.mem_cons.1 q with rfl | q
      · exact List.Mem.head _
      · exact List.mem_cons_of_mem _ (List.mem_append.2 (.inr q))
  · rcases List.mem_cons.1 hx with rfl | hx
    · exact fun e => by have := (hrow.lt _ e).2; simp at this
    · exact h5 x hx
theorem SegR.sub (h : SegR w p b sz ca S L E v xs W) {E' : List (Nat × Obj)} (hs : ∀ x ∈ E', x ∈ E) : SegR w p b sz ca S L E' v xs W := by
  obtain ⟨E2, h1, h2, h3, h4, h5⟩ := h
  refine ⟨E2, h1.sub (fun x hx => ?_), h2, h3, h4, fun x hx => h5 x (hs x hx)⟩
  rcases List.mem_append.1 hx with q | q
  · exact List.mem_append.2 (.inl q)
  · exact List.mem_append.2 (.inr (hs x q))
/-- the row's fewer: its last one is let go (the slice is shortened) -/
theorem SegR.cut {ao : Option Addr} {c : Nat} (h : SegR w p b sz ca S L E (.slice ao xs.length c) xs W) (hx : xs ≠ []) : ∃ g, ao = some ⟨g, 0, none⟩ ∧ xs.length ≤ c ∧ SegR w p b sz ca S L E (.slice (some ⟨g, 0, none⟩) xs.dropLast.length c) xs.dropLast W := by
  have hrow := h.row
  have hl : 1 ≤ xs.length := List.length_pos_iff.2 hx
  obtain ⟨g, c', e⟩ := row_shape hrow hl
  simp only [Value.slice.injEq, true_and] at e
  obtain ⟨rfl, rfl⟩ := e
  have hc : xs.length ≤ c := by
    rcases hrow.2 with ⟨q, _⟩ | ⟨g', cap, cur, q, _, _, hc, _⟩
    · simp at q
    · simp only [Value.slice.injEq, Option.some.injEq, Addr.mk.injEq, and_true, true_and] at q
      omega
  obtain ⟨E2, h1, h2, h3, h4, h5⟩ := h
  refine ⟨g, rfl, hc, E2, h1, fun W'' hW => ?_, h3, h4, h5⟩
  have := row_cut (h2 W'' hW) (m := xs.dropLast.length) (by simp)
  rw [show (wcells xs).take (xs.dropLast.length * 2) = wcells xs.dropLast by rw [← wcells_take, List.dropLast_eq_take, List.length_take]; congr 2; omega] at this
  exact this
/-- one more behind the row -/
theorem SegR.push (h : SegR w p b sz ca S L E v xs W) {ob : Obj} {w2 : World} {v' : Value} {y : Int × Int} (hown : w2.ownsRow w.heap.size 88 2 v' (xs.length + 1) (wcells xs ++ [.int .i64 y.1, .int .i64 y.2])) (hg : (W.alloc ob).grownBy w2 v.ownBlock)
    (hat : v'.ownBlock = v.ownBlock ∨ v'.ownBlock = some (W.heap.size + 1)) : SegR w p b sz ca S L E v' (xs ++ [y]) w2 := by
  have hrow := h.row
  obtain ⟨E2, h1, h2, h3, h4, h5⟩ := h
  obtain ⟨fs, hs, q1, q2, q3, q4, q5, q6, q7⟩ := h1
  have hwW := q6.size
  have hvn : ∀ g, v.ownBlock = some g → g ∉ fs ∧ g ∉ hs := fun g hg' => by
    obtain ⟨o, ho⟩ := h4 g hg'
    exact ⟨(q7 _ (List.mem_append.2 (.inl ho))).1, (q7 _ (List.mem_append.2 (.inl ho))).2.1⟩
  have k : Kp v.ownBlock.toList W w2 := ((Kp.refl _ W).alloc ob).grown hg (fun x hx => .inl (by simp [hx]))
  have hkf : ∀ x ∈ fs, x ∉ v.ownBlock.toList := fun x hx c => (hvn x (by simpa using c)).1 hx
  have hkh : ∀ x ∈ hs, x ∉ v.ownBlock.toList := fun x hx c => (hvn x (by simpa using c)).2 hx
  have hfl := q1.lt
  have hhl := q2.lt
  have hEl : ∀ x ∈ E, x.1 < W.heap.size := fun x hx => lt_of_heap (q7 x (List.mem_append.2 (.inr hx))).2.2
  have hbb : Below w.heap.size w w2 := q6.trans (((Below.refl w.heap.size W).alloc hwW ob).grown hg (by simp; omega) (fun x hx => (hrow.lt x hx).1))
  have hlen : wcells (xs ++ [y]) = wcells xs ++ [.int .i64 y.1, .int .i64 y.2] := by simp [wcells, wcell]
  have hv' : ∀ g, v'.ownBlock = some g → g ∉ fs ∧ g ∉ hs ∧ ∀ x ∈ E, g ≠ x.1 := by
    intro g hg'
    rcases hat with c | c
    · rw [hg'] at c
      exact ⟨(hvn g c.symm).1, (hvn g c.symm).2, fun x hx e => h5 x hx (by rw [← c, e])⟩
    · rw [hg'] at c
      injection c with c
      exact ⟨fun d => by have := hfl g d; omega, fun d => by have := hhl g d; omega, fun x hx e => by have := hEl x hx; omega⟩
  have hE7 : ∀ x ∈ E, x.1 ∉ fs ∧ x.1 ∉ hs ∧ w2.heap[x.1]? = some x.2 := fun x hx => by
    have := q7 x (List.mem_append.2 (.inr hx))
    exact ⟨this.1, this.2.1, k.at this.2.2 (fun c => h5 x hx (by simpa using c))⟩
  obtain ⟨hl, ⟨rfl, e0⟩ | ⟨g, cap, cur, rfl, hb, hgg, r1, r2, r3, r4⟩⟩ := hown
  · omega
  · refine ⟨[(g, .cells cur 88 (0, 0))], ⟨fs, hs, q1.kp k hkf, q2.kp k hkh, q3, q4, q5, hbb, fun x hx => ?_⟩, fun W'' hW => ?_, ?_, ?_, ?_⟩
    · rcases List.mem_append.1 hx with c | c
      · obtain rfl : x = _ := by simpa using c
        exact ⟨(hv' g rfl).1, (hv' g rfl).2.1, hgg⟩
      · exact hE7 x c
    · rw [hlen, List.length_append]
      exact ⟨hl, .inr ⟨g, cap, cur, rfl, hb, hW _ (List.Mem.head _), r1, r2, r3, r4⟩⟩
    · intro x hx
      obtain rfl : x = _ := by simpa using hx
      rfl
    · intro g' hg'
      simp only [Value.ownBlock, Option.some.injEq] at hg'
      subst hg'
      exact ⟨_, List.Mem.head _⟩
    · intro x hx e
      exact (hv' g rfl).2.2 x hx (by simpa [Value.ownBlock] using e)
end
end Go.Proofs.Ytpfnnmcokbolhaa
/- What SegmentOrder's round calls, over a link whose wanted segments lie beside it. -/
namespace Go.Proofs.Ytpfnnmcokbolhaa
open Go.RowKit
theorem fit_spec {xs : List (Int × Int)} {m : Int} {i : Nat} (h : fitAt xs m = some i) : ∃ hi : i < xs.length, m ≤ xs[i].2 := by
  unfold fitAt at h
  obtain ⟨x, hx, rfl⟩ := Option.map_eq_some_iff.1 h
  have := List.find?_some hx
  exact ⟨x.2, by simpa using this⟩
section
variable {w W : World} {p b : Nat} {sz ca : Int} {S : Sp} {L : Lk} {E : List (Nat × Obj)} {v : Value} {xs : List (Int × Int)} {k : Nat}
theorem Seg.ok (h : Seg w p b sz ca S L E W) : Spok S := by
  obtain ⟨fs, gs, h1, -⟩ := h
  exact h1.ok
theorem SegR.ok (h : SegR w p b sz ca S L E v xs W) : Spok S := h.seg.ok
theorem topOf_some {l : List (Int × Int)} (h : l ≠ []) : ∃ pre x, l = pre ++ [x] ∧ topOf l = ((x.1, x.2), true) := by
  refine ⟨l.dropLast, l.getLast h, (List.dropLast_concat_getLast h).symm, ?_⟩
  unfold topOf
  rw [List.getLast?_eq_some_getLast h]
theorem SegR.store {B : Nat} {cs : Array Value} {T : TypeId} (h : SegR w p b sz ca S L ((B, .cells cs T) :: E) v xs W) (hw : w.heap.size ≤ B) (hE : ∀ x ∈ E, x.1 ≠ B) (j : Nat) (u : Value) : SegR w p b sz ca S L ((B, .cells (cs.setIfInBounds j u) T) :: E) v xs (W.setCell ⟨B, j, none⟩ u) := by
  obtain ⟨E2, h1, h2, h3, h4, h5⟩ := h
  have h5' := h5 _ (List.Mem.head _)
  have h1' : Seg w p b sz ca S L ((B, .cells cs T) :: (E2 ++ E)) W := h1.sub (fun x hx => by
    rcases List.mem_cons.1 hx with rfl | hx
    · simp
    · rcases List.mem_append.1 hx with q | q <;> simp [q])
  have h1'' := h1'.store hw (fun x hx => by
    rcases List.mem_append.1 hx with q | q
    · exact fun e => h5' (by rw [h3 x q, e])
    · exact hE x q) j u
  refine ⟨E2, h1''.sub (fun x hx => ?_), h2, h3, h4, fun x hx => ?_⟩
  · rcases List.mem_append.1 hx with q | q
    · simp [q]
    · rcases List.mem_cons.1 q with rfl | q <;> simp [*]
  · rcases List.mem_cons.1 hx with rfl | hx
    · exact h5'
    · exact h5 x (List.mem_cons_of_mem _ hx)
theorem SegR.box (h : SegR w p b sz ca S L E v xs W) {B j : Nat} {cs : Array Value} {T : TypeId} {u : Value} (hm : (B, Obj.cells cs T (0, 0)) ∈ E) (hv : cs[j]? = some u) : W.cell? ⟨B, j, none⟩ = some u := h.seg.box hm hv
theorem SegR.free (h : SegR w p b sz ca S L E v xs W) {B : Nat} {cs : Array Value} {T : TypeId} (hm : (B, Obj.cells cs T (0, 0)) ∈ E) (j : Nat) : W.frozen? ⟨B, j, none⟩ = false := h.seg.free hm j
theorem SegR.ltE (h : SegR w p b sz ca S L E v xs W) : ∀ x ∈ E, x.1 < W.heap.size := h.seg.ltE
end
end Go.Proofs.Ytpfnnmcokbolhaa
/- Reading calls over a space and its link, and append of a row that is read to a row of the call's own. -/
namespace Go.Proofs.Ytpfnnmcokbolhaa
open Go.RowKit
section
variable {w W : World} {p b : Nat} {sz ca : Int} {S : Sp} {L : Lk} {E : List (Nat × Obj)}
/-- what lies still while the checks run: the space, its link, the wanted ones, the kept ones as told, and all of them -/
def Sto (w : World) (p b : Nat) (sz ca : Int) (S : Sp) (L : Lk) (E : List (Nat × Obj)) (v vk va : Value) (W : World) : Prop :=
  SegR w p b sz ca S L E v L.live W ∧ Rd W vk L.kept ∧ Rd W va (L.live ++ L.kept)
theorem Sto.keep {W' : World} {v vk va : Value} (h : Sto w p b sz ca S L E v vk va W) (k : Below W.heap.size W W') : Sto w p b sz ca S L E v vk va W' := ⟨h.1.keep k, h.2.1.below k, h.2.2.below k⟩
end
end Go.Proofs.Ytpfnnmcokbolhaa
/- Separation: parts of memory of the call's own, apart from each other. -/
namespace Go.Proofs.Ytpfnnmcokbolhaa
open Go.RowKit
set_option pp.deepTerms true
/-- a part of memory: what it says of a world, and of the blocks that it takes -/
structure Asr where
  holds : World → List Nat → Prop
  far : ∀ {W W' : World} {fs : List Nat}, holds W fs → (∀ b ∈ fs, W'.heap[b]? = W.heap[b]?) → holds W' fs
  lt : ∀ {W : World} {fs : List Nat}, holds W fs → ∀ b ∈ fs, b < W.heap.size
theorem Asr.kp (A : Asr) {W W' : World} {fs gs : List Nat} (h : A.holds W fs) (k : Kp gs W W') (hd : ∀ b ∈ fs, b ∉ gs) : A.holds W' fs := A.far h (fun b hb => k.block b (A.lt h b hb) (hd b hb))
theorem row_far {w w' : World} {base : Nat} {e : TypeId} {size : Nat} {v : Value} {n : Nat} {xs : List Value} (ho : w.ownsRow base e size v n xs)
    (hn : ∀ g, v.ownBlock = some g → w'.heap[g]? = w.heap[g]?) : w'.ownsRow base e size v n xs := by
  refine ⟨ho.1, ?_⟩
  rcases ho.2 with q | ⟨g, cap, cur, rfl, hb, hg, rest⟩
  · exact .inl q
  · exact .inr ⟨g, cap, cur, rfl, hb, (hn g rfl).trans hg, rest⟩
/-- a block of the call's own -/
def bx (b : Nat) (o : Obj) : Asr := ⟨fun W fs => fs = [b] ∧ W.heap[b]? = some o,
  fun h k => ⟨h.1, (k b (by rw [h.1]; simp)).trans h.2⟩, fun h x hx => by
    rw [h.1] at hx
    obtain rfl : x = b := by simpa using hx
    exact lt_of_heap h.2⟩
/-- a row of the call's own -/
def rw_ (base : Nat) (T : TypeId) (n : Nat) (v : Value) (m : Nat) (xs : List Value) : Asr := ⟨fun W fs => fs = v.ownBlock.toList ∧ W.ownsRow base T n v m xs,
  fun h k => ⟨h.1, row_far h.2 (fun g hg => k g (by rw [h.1, hg]; simp))⟩, fun h x hx => by
    rw [h.1] at hx
    exact (h.2.lt x (by simpa using hx)).2⟩
/-- a plain fact -/
def pf (P : Prop) : Asr := ⟨fun _ fs => fs = [] ∧ P, fun h _ => h, fun h x hx => by rw [h.1] at hx; simp at hx⟩
def Asr.ex {α : Type} (A : α → Asr) : Asr := ⟨fun W fs => ∃ x, (A x).holds W fs, fun h k => let ⟨x, q⟩ := h; ⟨x, (A x).far q k⟩, fun h => let ⟨x, q⟩ := h; (A x).lt q⟩
def Asr.sep (A B : Asr) : Asr := ⟨fun W us => ∃ fs gs, us = fs ++ gs ∧ A.holds W fs ∧ B.holds W gs ∧ ∀ b ∈ fs, b ∉ gs,
  fun h k => by
    obtain ⟨fs, gs, rfl, h1, h2, h3⟩ := h
    exact ⟨fs, gs, rfl, A.far h1 (fun b hb => k b (List.mem_append.2 (.inl hb))), B.far h2 (fun b hb => k b (List.mem_append.2 (.inr hb))), h3⟩,
  fun h b hb => by
    obtain ⟨fs, gs, rfl, h1, h2, h3⟩ := h
    rcases List.mem_append.1 hb with hb | hb
    · exact A.lt h1 b hb
    · exact B.lt h2 b hb⟩
def Parts (m : Nat) (W : World) : List Asr → List Nat → Prop
  | [], us => us = []
  | A :: l, us => ∃ fs gs, us = fs ++ gs ∧ A.holds W fs ∧ Parts m W l gs ∧ (∀ b ∈ fs, b ∉ gs) ∧ ∀ b ∈ fs, m ≤ b
section
variable {m : Nat} {W W' : World} {l l' : List Asr} {us gs : List Nat} {A B : Asr}
theorem Parts.kp (h : Parts m W l us) (k : Kp gs W W') (hd : ∀ b ∈ us, b ∉ gs) : Parts m W' l us := by
  induction l generalizing us with
  | nil => exact h
  | cons A l ih =>
    obtain ⟨fs, hs, rfl, h1, h2, h3, h4⟩ := h
    exact ⟨fs, hs, rfl, A.kp h1 k (fun b hb => hd b (List.mem_append.2 (.inl hb))), ih h2 (fun b hb => hd b (List.mem_append.2 (.inr hb))), h3, h4⟩
theorem Parts.far (h : Parts m W l us) (k : ∀ b ∈ us, W'.heap[b]? = W.heap[b]?) : Parts m W' l us := by
  induction l generalizing us with
  | nil => exact h
  | cons A l ih =>
    obtain ⟨fs, hs, rfl, h1, h2, h3, h4⟩ := h
    exact ⟨fs, hs, rfl, A.far h1 (fun b hb => k b (List.mem_append.2 (.inl hb))), ih h2 (fun b hb => k b (List.mem_append.2 (.inr hb))), h3, h4⟩
theorem Parts.lt (h : Parts m W l us) : ∀ b ∈ us, m ≤ b ∧ b < W.heap.size := by
  induction l generalizing us with
  | nil => cases h; simp
  | cons A l ih =>
    obtain ⟨fs, hs, rfl, h1, h2, h3, h4⟩ := h
    intro b hb
    rcases List.mem_append.1 hb with hb | hb
    · exact ⟨h4 b hb, A.lt h1 b hb⟩
    · exact ih h2 b hb
theorem Parts.perm (p : l.Perm l') (h : Parts m W l us) : ∃ us', Parts m W l' us' ∧ ∀ b, b ∈ us' ↔ b ∈ us := by
  induction p generalizing us with
  | nil => exact ⟨us, h, fun _ => Iff.rfl⟩
  | cons A _ ih =>
    obtain ⟨fs, hs, rfl, h1, h2, h3, h4⟩ := h
    obtain ⟨us', q1, q2⟩ := ih h2
    exact ⟨fs ++ us', ⟨fs, us', rfl, h1, q1, fun b hb c => h3 b hb ((q2 b).1 c), h4⟩, fun b => by simp [q2]⟩
  | swap A B l =>
    obtain ⟨fs, hs, rfl, h1, ⟨ft, ht, rfl, k1, k2, k3, k4⟩, h3, h4⟩ := h
    refine ⟨ft ++ (fs ++ ht), ⟨ft, fs ++ ht, rfl, k1, ⟨fs, ht, rfl, h1, k2, fun b hb c => h3 b hb (List.mem_append.2 (.inr c)), h4⟩, fun b hb c => ?_, k4⟩, fun b => ?_⟩
    · rcases List.mem_append.1 c with c | c
      · exact h3 b c (List.mem_append.2 (.inl hb))
      · exact k3 b hb c
    · simp only [List.mem_append]
      exact ⟨fun q => q.elim (fun q => .inr (.inl q)) (fun q => q.elim .inl (fun q => .inr (.inr q))), fun q => q.elim (fun q => .inr (.inl q)) (fun q => q.elim .inl (fun q => .inr (.inr q)))⟩
  | trans _ _ ih1 ih2 =>
    obtain ⟨u1, q1, q2⟩ := ih1 h
    obtain ⟨u2, r1, r2⟩ := ih2 q1
    exact ⟨u2, r1, fun b => (r2 b).trans (q2 b)⟩
theorem Parts.sub (p : l'.Sublist l) (h : Parts m W l us) : ∃ us', Parts m W l' us' ∧ ∀ b ∈ us', b ∈ us := by
  induction p generalizing us with
  | slnil => exact ⟨us, h, fun _ q => q⟩
  | cons A _ ih =>
    obtain ⟨fs, hs, rfl, h1, h2, h3, h4⟩ := h
    obtain ⟨us', q1, q2⟩ := ih h2
    exact ⟨us', q1, fun b hb => List.mem_append.2 (.inr (q2 b hb))⟩
  | cons_cons A _ ih =>
    obtain ⟨fs, hs, rfl, h1, h2, h3, h4⟩ := h
    obtain ⟨us', q1, q2⟩ := ih h2
    exact ⟨fs ++ us', ⟨fs, us', rfl, h1, q1, fun b hb c => h3 b hb (q2 b c), h4⟩, fun b hb => (List.mem_append.1 hb).elim (fun q => List.mem_append.2 (.inl q)) (fun q => List.mem_append.2 (.inr (q2 b q)))⟩
theorem Parts.mem (h : Parts m W l us) (hm : A ∈ l) : ∃ fs, A.holds W fs ∧ ∀ b ∈ fs, b ∈ us := by
  induction l generalizing us with
  | nil => cases hm
  | cons B l ih =>
    obtain ⟨fs, hs, rfl, h1, h2, h3, h4⟩ := h
    rcases List.mem_cons.1 hm with rfl | hm
    · exact ⟨fs, h1, fun b hb => List.mem_append.2 (.inl hb)⟩
    · obtain ⟨gs, q1, q2⟩ := ih h2 hm
      exact ⟨gs, q1, fun b hb => List.mem_append.2 (.inr (q2 b hb))⟩
end
/-- parts of the call's own (since w), apart from each other; all that was ahead of w is as it was -/
def Sep (w : World) (l : List Asr) (W : World) : Prop := Below w.heap.size w W ∧ ∃ us, Parts w.heap.size W l us
section
variable {w W W' : World} {l l' F : List Asr} {A A' B : Asr} {b : Nat} {o : Obj}
theorem Sep.size (h : Sep w l W) : Below w.heap.size w W := h.1
theorem Sep.nil (k : Below w.heap.size w W) : Sep w [] W := ⟨k, [], rfl⟩
theorem Sep.perm (h : Sep w l W) (p : l.Perm l') : Sep w l' W := let ⟨_, q⟩ := h.2; let ⟨us', r, _⟩ := q.perm p; ⟨h.1, us', r⟩
theorem Sep.sub (h : Sep w l W) (p : l'.Sublist l) : Sep w l' W := let ⟨_, q⟩ := h.2; let ⟨us', r, _⟩ := q.sub p; ⟨h.1, us', r⟩
theorem Sep.pick (i : Nat) (h : Sep w l W) (hi : l[i]? = some A) : Sep w (A :: l.eraseIdx i) W := by
  obtain ⟨hl, rfl⟩ := List.getElem?_eq_some_iff.1 hi
  have e : l = l.take i ++ l[i] :: l.drop (i + 1) := by rw [← List.drop_eq_getElem_cons hl, List.take_append_drop]
  refine h.perm ?_
  rw [List.eraseIdx_eq_take_drop_succ]
  exact (List.Perm.of_eq e).trans List.perm_middle
theorem Sep.lose (i : Nat) (h : Sep w l W) : Sep w (l.eraseIdx i) W := h.sub (List.eraseIdx_sublist l i)
theorem Sep.tl (h : Sep w (A :: l) W) : Sep w l W := h.sub (List.sublist_cons_self A l)
theorem Sep.rot (l1 l2 : List Asr) (h : Sep w (l1 ++ (l2 ++ F)) W) : Sep w (l2 ++ (l1 ++ F)) W := h.perm (by
  rw [← List.append_assoc, ← List.append_assoc]
  exact List.perm_append_comm.append_right F)
theorem Sep.keep (h : Sep w l W) (k : Below W.heap.size W W') : Sep w l W' :=
  let ⟨us, q⟩ := h.2; ⟨h.1.trans (k.mono h.1.size), us, q.kp (Kp.of_below k []) (by simp)⟩
theorem Sep.drew (h : Sep w l W) : Sep w l W.drew := h.keep (Below.refl _ _).drew
/-- a part that is new -/
theorem Sep.new (h : Sep w l W) (k : Below W.heap.size W W') {fs : List Nat} (ha : A.holds W' fs) (hf : ∀ b ∈ fs, W.heap.size ≤ b) : Sep w (A :: l) W' := by
  obtain ⟨us, q⟩ := h.2
  exact ⟨h.1.trans (k.mono h.1.size), _, fs, us, rfl, ha, q.kp (Kp.of_below k []) (by simp), fun b hb c => by have := hf b hb; have := (q.lt b c).2; omega, fun b hb => Nat.le_trans h.1.size (hf b hb)⟩
theorem Sep.alloc (h : Sep w l W) (o : Obj) : Sep w (bx W.heap.size o :: l) (W.alloc o) :=
  h.new ((Below.refl _ _).alloc (Nat.le_refl _) o) (fs := [W.heap.size]) ⟨rfl, heap_alloc_new W o⟩ (by simp)
theorem Sep.box (h : Sep w l W) (k : Below W.heap.size W W') (hb : W.heap.size ≤ b) (ho : W'.heap[b]? = some o) : Sep w (bx b o :: l) W' :=
  h.new k (fs := [b]) ⟨rfl, ho⟩ (by simpa using hb)
theorem Sep.row (h : Sep w l W) (k : Below W.heap.size W W') {T : TypeId} {n : Nat} {v : Value} {m : Nat} {xs : List Value} (hr : W'.ownsRow W.heap.size T n v m xs) : Sep w (rw_ 0 T n v m xs :: l) W' :=
  h.new k (fs := v.ownBlock.toList) ⟨rfl, hr.mono (Nat.zero_le _)⟩ (fun b hb => (hr.lt b (by simpa using hb)).1)
theorem Sep.mem (h : Sep w l W) (hm : A ∈ l) : ∃ fs, A.holds W fs ∧ ∀ b ∈ fs, w.heap.size ≤ b := by
  obtain ⟨us, q⟩ := h.2
  obtain ⟨fs, q1, q2⟩ := q.mem hm
  exact ⟨fs, q1, fun b hb => (q.lt b (q2 b hb)).1⟩
theorem Sep.at (h : Sep w l W) (hm : bx b o ∈ l) : W.heap[b]? = some o := by
  obtain ⟨fs, q, -⟩ := h.mem hm
  exact q.2
theorem Sep.ge (h : Sep w l W) (hm : bx b o ∈ l) : w.heap.size ≤ b := by
  obtain ⟨fs, q, r⟩ := h.mem hm
  exact r b (by rw [q.1]; simp)
theorem Sep.lt (h : Sep w l W) (hm : bx b o ∈ l) : b < W.heap.size := lt_of_heap (h.at hm)
theorem Sep.cell (h : Sep w l W) {j : Nat} {cs : Array Value} {T : TypeId} {v : Value} (hm : bx b (.cells cs T) ∈ l) (hv : cs[j]? = some v) : W.cell? ⟨b, j, none⟩ = some v := by
  rw [cell_of_row W b j _ _ _ (h.at hm), hv]
theorem Sep.free (h : Sep w l W) {cs : Array Value} {T : TypeId} (hm : bx b (.cells cs T) ∈ l) (j : Nat) : W.frozen? ⟨b, j, none⟩ = false := frozen_of_row W b j _ _ (h.at hm)
theorem Sep.owns (h : Sep w l W) {base : Nat} {T : TypeId} {n : Nat} {v : Value} {m : Nat} {xs : List Value} (hm : rw_ base T n v m xs ∈ l) : W.ownsRow base T n v m xs := by
  obtain ⟨fs, q, -⟩ := h.mem hm
  exact q.2
/-- the first part turns -/
theorem Sep.turn (h : Sep w (A :: l) W) (hc : ∀ fs, A.holds W fs → (∀ b ∈ fs, w.heap.size ≤ b) → ∃ fs', A'.holds W' fs' ∧ Kp fs W W' ∧ ∀ x ∈ fs', x ∈ fs ∨ W.heap.size ≤ x) : Sep w (A' :: l) W' := by
  obtain ⟨hb, us, fs, gs, rfl, h1, h2, h3, h4⟩ := h
  obtain ⟨fs', q1, q2, q3⟩ := hc fs h1 h4
  refine ⟨?_, _, fs', gs, rfl, q1, h2.kp q2 (fun b hb c => h3 b c hb), fun b hb c => ?_, fun b hb' => ?_⟩
  · exact ⟨q2.os.trans hb.os, q2.tape.trans hb.tape, q2.output.trans hb.output, Nat.le_trans hb.size q2.size, fun k hk => (q2.block k (Nat.lt_of_lt_of_le hk hb.size) (fun c => by have := h4 k c; omega)).trans (hb.block k hk)⟩
  · rcases q3 b hb with q | q
    · exact h3 b q c
    · have := (h2.lt b c).2; omega
  · exact (q3 b hb').elim (h4 b) (fun q => Nat.le_trans hb.size q)
theorem Sep.store {cs : Array Value} {T : TypeId} (h : Sep w (bx b (.cells cs T) :: l) W) (j : Nat) (u : Value) : Sep w (bx b (.cells (cs.setIfInBounds j u) T) :: l) (W.setCell ⟨b, j, none⟩ u) :=
  h.turn (fun fs hf _ => by
    obtain ⟨rfl, hf⟩ := hf
    exact ⟨[b], ⟨rfl, heap_setCell_same W b j _ _ u hf⟩, (Kp.refl _ _).setCell (.inl (by simp)) u, fun x hx => .inl hx⟩)
/-- a call that turns the first part alone -/
theorem Sep.call {P : Program} {f : FuncId} {args : Array Value} {R : Ending → World → Prop} (h : Sep w (A :: l) W)
    (hc : ∀ fs, A.holds W fs → (∀ b ∈ fs, w.heap.size ≤ b) → Calls P f args W fun e w' => (∃ fs', A'.holds w' fs' ∧ Kp fs W w' ∧ ∀ x ∈ fs', x ∈ fs ∨ W.heap.size ≤ x) ∧ R e w') : Calls P f args W fun e w' => Sep w (A' :: l) w' ∧ R e w' := by
  have h0 := h
  obtain ⟨hb, us, fs, gs, rfl, h1, h2, h3, h4⟩ := h
  refine (hc fs h1 h4).mono ?_
  rintro e w' ⟨⟨fs', q1, q2, q3⟩, q⟩
  refine ⟨⟨?_, _, fs', gs, rfl, q1, h2.kp q2 (fun b hb c => h3 b c hb), fun b hb c => ?_, fun b hb' => ?_⟩, q⟩
  · exact ⟨q2.os.trans hb.os, q2.tape.trans hb.tape, q2.output.trans hb.output, Nat.le_trans hb.size q2.size, fun k hk => (q2.block k (Nat.lt_of_lt_of_le hk hb.size) (fun c => by have := h4 k c; omega)).trans (hb.block k hk)⟩
  · rcases q3 b hb with q | q
    · exact h3 b q c
    · have := (h2.lt b c).2; omega
  · exact (q3 b hb').elim (h4 b) (fun q => Nat.le_trans hb.size q)
end
section
variable {w W W' w2 : World} {F : List Asr} {A B : Asr}
theorem Sep.exI {α : Type} {A : α → Asr} (x : α) (h : Sep w (A x :: F) W) : Sep w (Asr.ex A :: F) W :=
  let ⟨hb, us, fs, gs, e, h1, h2, h3, h4⟩ := h; ⟨hb, us, fs, gs, e, ⟨x, h1⟩, h2, h3, h4⟩
theorem Sep.exE {α : Type} {A : α → Asr} (h : Sep w (Asr.ex A :: F) W) : ∃ x, Sep w (A x :: F) W :=
  let ⟨hb, us, fs, gs, e, ⟨x, h1⟩, h2, h3, h4⟩ := h; ⟨x, hb, us, fs, gs, e, h1, h2, h3, h4⟩
theorem Sep.sepI (h : Sep w (A :: B :: F) W) : Sep w (Asr.sep A B :: F) W := by
  obtain ⟨hb, us, fs, gs, rfl, h1, ⟨hs, ks, rfl, h2, hF, h23, hge2⟩, h13, hge1⟩ := h
  refine ⟨hb, _, fs ++ hs, ks, (List.append_assoc _ _ _).symm, ⟨fs, hs, rfl, h1, h2, fun b hb c => h13 b hb (List.mem_append.2 (.inl c))⟩, hF, fun b hb c => ?_, fun b hb => ?_⟩
  · rcases List.mem_append.1 hb with q | q
    · exact h13 b q (List.mem_append.2 (.inr c))
    · exact h23 b q c
  · rcases List.mem_append.1 hb with q | q
    · exact hge1 b q
    · exact hge2 b q
theorem Sep.sepE (h : Sep w (Asr.sep A B :: F) W) : Sep w (A :: B :: F) W := by
  obtain ⟨hb, us, gs, ks, rfl, ⟨fs, hs, rfl, h1, h2, h12⟩, hF, h3, hge⟩ := h
  refine ⟨hb, _, fs, hs ++ ks, List.append_assoc _ _ _, h1, ⟨hs, ks, rfl, h2, hF, fun b hb => h3 b (List.mem_append.2 (.inr hb)), fun b hb => hge b (List.mem_append.2 (.inr hb))⟩, fun b hb c => ?_, fun b hb => hge b (List.mem_append.2 (.inl hb))⟩
  rcases List.mem_append.1 c with q | q
  · exact h12 b hb q
  · exact h3 b (List.mem_append.2 (.inl hb)) q
/-- an append to a row of the call's own, behind a block that holds what is appended -/
theorem Sep.grown {base : Nat} {T : TypeId} {n : Nat} {v v' : Value} {m m' : Nat} {xs xs' : List Value} {ob : Obj} (h : Sep w (rw_ base T n v m xs :: F) W) (hown : w2.ownsRow base T n v' m' xs') (hg : (W.alloc ob).grownBy w2 v.ownBlock)
    (hat : v'.ownBlock = v.ownBlock ∨ v'.ownBlock = some (W.heap.size + 1)) : Sep w (rw_ base T n v' m' xs' :: F) w2 :=
  h.turn (fun fs hf _ => by
    obtain ⟨rfl, hr⟩ := hf
    refine ⟨v'.ownBlock.toList, ⟨rfl, hown⟩, ((Kp.refl _ W).alloc ob).grown hg (fun k hk => .inl (by simp [hk])), fun x hx => ?_⟩
    simp only [Option.mem_toList] at hx ⊢
    rcases hat with q | q
    · exact .inl (by rw [← q]; exact hx)
    · rw [hx] at q
      simp only [Option.some.injEq] at q
      exact .inr (by omega))
/-- the same row, seen by another slice of the same block, or by none -/
theorem Sep.rerow {base base' : Nat} {T T' : TypeId} {n n' : Nat} {v v' : Value} {m m' : Nat} {xs xs' : List Value} (h : Sep w (rw_ base T n v m xs :: F) W) (hv : ∀ b, v'.ownBlock = some b → v.ownBlock = some b) (hr : W.ownsRow base' T' n' v' m' xs') : Sep w (rw_ base' T' n' v' m' xs' :: F) W :=
  h.turn (fun fs hf _ => by
    obtain ⟨rfl, -⟩ := hf
    exact ⟨v'.ownBlock.toList, ⟨rfl, hr⟩, Kp.refl _ W, fun x hx => .inl (by
      simp only [Option.mem_toList] at hx ⊢
      exact hv x hx)⟩)
/-- a row that holds nothing yet -/
theorem Sep.rnil (h : Sep w F W) (base : Nat) (T : TypeId) (n : Nat) : Sep w (rw_ base T n (.slice none 0 0) 0 [] :: F) W :=
  h.new (Below.refl _ _) (fs := []) ⟨rfl, World.ownsRow_nil _ _ _ _⟩ (by simp)
end
end Go.Proofs.Ytpfnnmcokbolhaa
/- A piece of a function's body, by its path. -/
namespace Go.Proofs.Ytpfnnmcokbolhaa
def pieceOf : Code → List Nat → Code
  | c, [] => c
  | .seq a _, 0 :: p => pieceOf a p
  | .seq _ b, _ :: p => pieceOf b p
  | .block _ c, _ :: p => pieceOf c p
  | .loop c, _ :: p => pieceOf c p
  | .scope c, _ :: p => pieceOf c p
  | .cond _ a _, 0 :: p => pieceOf a p
  | .cond _ _ b, _ :: p => pieceOf b p
  | .rangeFunc _ _ a _, 0 :: p => pieceOf a p
  | .rangeFunc _ _ _ b, _ :: p => pieceOf b p
  | _, _ => .skip
end Go.Proofs.Ytpfnnmcokbolhaa
/- Separation: a space, a document's space, a link, as parts. -/
namespace Go.Proofs.Ytpfnnmcokbolhaa
open Go.RowKit
set_option pp.deepTerms true
theorem SpAt.far {w w' : World} {p : Nat} {last : Int} {sl : Value} {ls : List LReg} (h : SpAt w p last sl ls) (k : ∀ b ∈ foot p sl ls, w'.heap[b]? = w.heap[b]?) : SpAt w' p last sl ls := by
  refine ⟨(k p (by simp [foot])).trans h.head, row_far h.row (fun g hg => k g ?_), fun r hr => row_far (h.words r hr) (fun g hg => ?_), h.nodup⟩
  · simp [foot, hg]
  · simp [Value.ownBlock] at hg; subst hg
    exact k _ (by simp [foot]; exact .inr (.inr ⟨r, hr, rfl⟩))
theorem Spc.far {w w' : World} {p : Nat} {S : Sp} {fs : List Nat} (h : Spc w p S fs) (k : ∀ b ∈ fs, w'.heap[b]? = w.heap[b]?) : Spc w' p S fs := by
  obtain ⟨sl, ls, h1, h2, h3, rfl⟩ := h
  exact ⟨sl, ls, h1.far k, h2, h3, rfl⟩
theorem LkAt.far {W W' : World} {b p : Nat} {sz ca : Int} {L : Lk} {lv kv : Value} (h : LkAt W b p sz ca L lv kv) (k : ∀ x ∈ lfoot b lv kv, W'.heap[x]? = W.heap[x]?) : LkAt W' b p sz ca L lv kv :=
  ⟨(k b (by simp [lfoot])).trans h.head, row_far h.live (fun g hg => k g (by simp [lfoot, hg])), row_far h.kept (fun g hg => k g (by simp [lfoot, hg])), h.nodup⟩
theorem Lkd.far {W W' : World} {b p : Nat} {sz ca : Int} {L : Lk} {hs : List Nat} (h : Lkd W b p sz ca L hs) (k : ∀ x ∈ hs, W'.heap[x]? = W.heap[x]?) : Lkd W' b p sz ca L hs := by
  obtain ⟨lv, kv, h1, rfl⟩ := h
  exact ⟨lv, kv, h1.far k, rfl⟩
/-- the program's space -/
def spA (p : Nat) (S : Sp) : Asr := ⟨fun W fs => Spc W p S fs, fun h k => h.far k, fun h => h.lt⟩
/-- the program's link -/
def lkA (b p : Nat) (sz ca : Int) (L : Lk) : Asr := ⟨fun W fs => Lkd W b p sz ca L fs, fun h k => h.far k, fun h => h.lt⟩
section
variable {w W : World} {F : List Asr} {p b pr : Nat} {S S' : Sp} {L : Lk} {sz ca : Int} {f : FuncId} {args : Array Value}
theorem Sep.sp (h : Sep w (spA p S :: F) W) : ∃ fs, Spc W p S fs := by
  obtain ⟨fs, q, -⟩ := h.mem (List.Mem.head _)
  exact ⟨fs, q⟩
theorem Sep.stp {R : Ending → Prop} (h : Sep w (spA p S :: F) W) (hc : ∀ fs, Spc W p S fs → Calls Try.prog f args W fun e w' => Stp W p fs S' w' ∧ R e) : Calls Try.prog f args W fun e w' => Sep w (spA p S' :: F) w' ∧ R e :=
  h.call (A' := spA p S') (fun fs hf _ => (hc fs hf).mono (fun _ _ q => ⟨q.1, q.2⟩))
theorem put_sep (h : Sep w (spA p S :: F) W) (a t n : Int) : Calls Try.prog 47 #[.pointer (some ⟨p, 0, none⟩), .int .i64 a, .agg #[.int .i64 t, .int .i64 n]] W fun e w' => Sep w (spA p (S.put a (t, n)).2 :: F) w' ∧ e = .returned (.int .i64 (S.put a (t, n)).1) :=
  h.stp (fun _ hf => put_spc hf a t n)
theorem drop_sep (h : Sep w (spA p S :: F) W) (a m : Int) : Calls Try.prog 50 #[.pointer (some ⟨p, 0, none⟩), .int .i64 a, .int .i64 m] W fun e w' => Sep w (spA p (S.drop a m).2 :: F) w' ∧ e = .returned (.int .i64 (S.drop a m).1) :=
  h.stp (fun _ hf => drop_spc hf a m)
/-- what is known over a space and its link (Seg) serves beside other parts -/
theorem Sep.seg {R : Ending → Sp → Lk → Prop} (h : Sep w (spA p S :: lkA b p sz ca L :: F) W)
    (hc : ∀ E, Seg w p b sz ca S L E W → Calls Try.prog f args W fun e w' => ∃ S' L', Seg w p b sz ca S' L' E w' ∧ R e S' L') : Calls Try.prog f args W fun e w' => ∃ S' L', Sep w (spA p S' :: lkA b p sz ca L' :: F) w' ∧ R e S' L' := by
  obtain ⟨hb, us, fs, gs0, rfl, h1, ⟨hs, ks, rfl, h2, hF, h23, hge2⟩, h13, hge1⟩ := h
  have hkl := hF.lt
  have h1' : Spc W p S fs := h1
  have h2' : Lkd W b p sz ca L hs := h2
  refine (hc (ks.map fun x => (x, W.heap[x]?.getD default)) ⟨fs, hs, h1', h2', fun x hx q => h13 x hx (List.mem_append.2 (.inl q)), hge1, hge2, hb, fun x hx => ?_⟩).mono ?_
  · obtain ⟨y, hy, rfl⟩ := List.mem_map.1 hx
    refine ⟨fun q => h13 y q (List.mem_append.2 (.inr hy)), fun q => h23 y q hy, ?_⟩
    simp only
    rw [Array.getElem?_eq_getElem (hkl y hy).2]
    rfl
  · rintro e w' ⟨S', L', ⟨fs', hs', q1, q2, q3, q4, q5, q6, q7⟩, hR⟩
    have hk : ∀ x ∈ ks, x ∉ fs' ∧ x ∉ hs' ∧ w'.heap[x]? = W.heap[x]? := fun x hx => by
      have := q7 _ (List.mem_map.2 ⟨x, hx, rfl⟩)
      refine ⟨this.1, this.2.1, this.2.2.trans ?_⟩
      rw [Array.getElem?_eq_getElem (hkl x hx).2]
      rfl
    refine ⟨S', L', ⟨q6, _, fs', hs' ++ ks, rfl, q1, ⟨hs', ks, rfl, q2, hF.far (fun x hx => (hk x hx).2.2), fun x hx q => (hk x q).2.1 hx, q5⟩, fun x hx q => ?_, q4⟩, hR⟩
    rcases List.mem_append.1 q with q | q
    · exact q3 x hx q
    · exact (hk x q).1 hx
end
end Go.Proofs.Ytpfnnmcokbolhaa
/- A link's calls as plain functions; the document's link as a part. -/
namespace Go.Proofs.Ytpfnnmcokbolhaa
open Go.RowKit
set_option pp.deepTerms true
/-- what a push does -/
def pushL (S : Sp) (L : Lk) (sz m : Int) : ((Int × Int) × Int) × Sp × Lk :=
  if m < 1 ∨ 65536 < m then (((0, 0), 240), S, L) else
  match fitAt L.kept m with
  | some i => (((L.kept[i]?.getD (0, 0)), 0), S, ⟨L.live ++ [L.kept[i]?.getD (0, 0)], L.kept.eraseIdx i⟩)
  | none => if (S.take (max sz m)).1.2 = 0 then ((((S.take (max sz m)).1.1, max sz m), 0), (S.take (max sz m)).2, ⟨L.live ++ [((S.take (max sz m)).1.1, max sz m)], L.kept⟩)
    else (((0, 0), (S.take (max sz m)).1.2), (S.take (max sz m)).2, L)
/-- what a pop does -/
def popL (S : Sp) (L : Lk) (ca : Int) : Int × Sp × Lk :=
  match L.live.getLast? with
  | none => (240, S, L)
  | some r => if (L.kept.length : Int) < ca then (0, (S.drop r.1 r.2).2, ⟨L.live.dropLast, L.kept ++ [r]⟩) else (0, (S.let_ r.1).2, ⟨L.live.dropLast, L.kept⟩)
section
variable {w W : World} {F : List Asr} {q pr p b : Nat} {S R : Sp} {L : Lk} {sz ca : Int}
theorem max_cases (sz m : Int) : (sz ≤ m ∧ max sz m = m) ∨ (¬ sz ≤ m ∧ max sz m = sz) := by omega
/-- Push, beside other parts -/
theorem push_sep (h : Sep w (spA p S :: lkA b p sz ca L :: F) W) (m : Int) (hll : L.live.length ≤ 1000000) (hkl : L.kept.length ≤ 1000000) (hla : S.last ≤ 1152921504606846976) :
    Calls Try.prog 37 #[.pointer (some ⟨b, 0, none⟩), .int .i64 m] W fun e w' => Sep w (spA p (pushL S L sz m).2.1 :: lkA b p sz ca (pushL S L sz m).2.2 :: F) w' ∧ e = .returned (.tuple #[.agg #[.int .i64 (pushL S L sz m).1.1.1, .int .i64 (pushL S L sz m).1.1.2], .int .i64 (pushL S L sz m).1.2]) := by
  refine (h.seg (R := fun e S' L' => S' = (pushL S L sz m).2.1 ∧ L' = (pushL S L sz m).2.2 ∧ e = .returned (.tuple #[.agg #[.int .i64 (pushL S L sz m).1.1.1, .int .i64 (pushL S L sz m).1.1.2], .int .i64 (pushL S L sz m).1.2])) (fun E h' => ?_)).mono ?_
  · by_cases hm : m < 1 ∨ 65536 < m
    · refine (push_no h' m hm).mono ?_
      rintro e w' ⟨q1, q2, rfl⟩
      unfold pushL
      rw [if_pos hm]
      exact ⟨_, _, q1, rfl, rfl, rfl⟩
    · unfold pushL
      rw [if_neg hm]
      have hm' : 1 ≤ m ∧ m ≤ 65536 := by omega
      cases hf : fitAt L.kept m with
      | some i =>
        obtain ⟨hi, hy⟩ := fit_spec hf
        have hy0 : L.kept[i]? = some (L.kept[i].1, L.kept[i].2) := by rw [List.getElem?_eq_getElem hi]
        refine (push_fit h' m hm' hll hkl hf hy0).mono ?_
        rintro e w' ⟨q1, rfl⟩
        refine ⟨_, _, q1, rfl, ?_, ?_⟩
        · simp [List.getElem?_eq_getElem hi]
        · simp [List.getElem?_eq_getElem hi]
      | none =>
        obtain ⟨⟨nb, er⟩, ht⟩ : ∃ t, (S.take (max sz m)).1 = t := ⟨_, rfl⟩
        refine (push_take1 h' m (max sz m) hm' (max_cases sz m) hll hkl hf hla ht).mono ?_
        rintro e w' (⟨rfl, q1, rfl⟩ | ⟨he, q1, rfl⟩)
        · refine ⟨_, _, q1, ?_, ?_, ?_⟩ <;> simp [ht]
        · refine ⟨_, _, q1, ?_, ?_, ?_⟩ <;> simp [ht, he]
  · rintro e w' ⟨S', L', q, rfl, rfl, rfl⟩
    exact ⟨q, rfl⟩
/-- Pop, beside other parts -/
theorem pop_sep (h : Sep w (spA p S :: lkA b p sz ca L :: F) W) (hll : L.live.length ≤ 1000000) (hkl : L.kept.length ≤ 1000000) :
    Calls Try.prog 76 #[.pointer (some ⟨b, 0, none⟩)] W fun e w' => Sep w (spA p (popL S L ca).2.1 :: lkA b p sz ca (popL S L ca).2.2 :: F) w' ∧ e = .returned (.int .i64 (popL S L ca).1) := by
  refine (h.seg (R := fun e S' L' => S' = (popL S L ca).2.1 ∧ L' = (popL S L ca).2.2 ∧ e = .returned (.int .i64 (popL S L ca).1)) (fun E h' => ?_)).mono ?_
  · by_cases hn : L.live = []
    · refine (pop_none h' hn).mono ?_
      rintro e w' ⟨q1, q2, rfl⟩
      unfold popL
      rw [hn]
      exact ⟨_, _, q1, rfl, rfl, rfl⟩
    · obtain ⟨pre, x, hpx, hy⟩ := topOf_some hn
      have hg : L.live.getLast? = some x := by rw [hpx]; simp
      unfold popL
      rw [hg]
      simp only
      by_cases hca : (L.kept.length : Int) < ca
      · rw [if_pos hca]
        refine (pop_keep h' hll hkl hy hca).mono ?_
        rintro e w' ⟨q1, rfl⟩
        exact ⟨_, _, q1, rfl, rfl, rfl⟩
      · rw [if_neg hca]
        refine (pop_let h' hll hkl hy hca).mono ?_
        rintro e w' ⟨q1, rfl⟩
        exact ⟨_, _, q1, rfl, rfl, rfl⟩
  · rintro e w' ⟨S', L', q, rfl, rfl, rfl⟩
    exact ⟨q, rfl⟩
end
end Go.Proofs.Ytpfnnmcokbolhaa
/- Contracts of value.Zero, Int, Fits, and of slices.ContainsFunc at numbers and spans. -/
namespace Go.Proofs.Ytpfnnmcokbolhaa
open Go.RowKit
set_option pp.deepTerms true
/-- a slice of numbers reads as xs -/
def Rdi (w : World) (v : Value) (xs : List Int) : Prop :=
  (v = .slice none 0 0 ∧ xs = []) ∨ (∃ b o c, v = .slice (some ⟨b, o, none⟩) xs.length c ∧ b < w.heap.size ∧ ∀ k (hk : k < xs.length), w.cell? ⟨b, o + k, none⟩ = some (.int .i64 xs[k])) ∨ ∃ ad c, v = .slice (some ad) 0 c ∧ xs = []
theorem Rdi.below {w w' : World} {v : Value} {xs : List Int} (h : Rdi w v xs) (k : Below w.heap.size w w') : Rdi w' v xs := by
  rcases h with h | ⟨b, o, c, e, hb, hc⟩ | h
  · exact .inl h
  · exact .inr (.inl ⟨b, o, c, e, Nat.lt_of_lt_of_le hb k.size, fun i hi => (k.cell (p := ⟨b, _, none⟩) hb).trans (hc i hi)⟩)
  · exact .inr (.inr h)
theorem Rdi.shape {w : World} {v : Value} {xs : List Int} (h : Rdi w v xs) : ∃ ao c, v = .slice ao xs.length c := by
  rcases h with ⟨rfl, rfl⟩ | ⟨b, o, c, rfl, _⟩ | ⟨ad, c, rfl, rfl⟩
  · exact ⟨none, 0, rfl⟩
  · exact ⟨_, _, rfl⟩
  · exact ⟨_, _, rfl⟩
theorem Rdi.some {w : World} {v : Value} {xs : List Int} (h : Rdi w v xs) (hx : 0 < xs.length) : ∃ b o c, v = .slice (some ⟨b, o, none⟩) xs.length c ∧ b < w.heap.size ∧ ∀ k (hk : k < xs.length), w.cell? ⟨b, o + k, none⟩ = some (.int .i64 xs[k]) := by
  rcases h with ⟨rfl, rfl⟩ | h | ⟨ad, c, rfl, rfl⟩
  · simp at hx
  · exact h
  · simp at hx
def icells (l : List Int) : List Value := l.map (Value.int .i64)
theorem Rdi.of_row {w : World} {base T n : Nat} {v : Value} {xs : List Int} (h : w.ownsRow base T 1 v n (icells xs)) (hn : n = xs.length) : Rdi w v xs := by
  subst hn
  rcases h.2 with ⟨rfl, h0⟩ | ⟨g, cap, cur, rfl, _, hg, _⟩
  · exact .inl ⟨rfl, List.eq_nil_of_length_eq_zero h0⟩
  · refine .inr (.inl ⟨g, 0, cap, rfl, lt_of_heap hg, fun k hk => ?_⟩)
    rw [Nat.zero_add]
    exact row_cell h (by simp [icells, hk])
/-- the same, with its address -/
theorem Rdi.ad {w : World} {v : Value} {xs : List Int} (h : Rdi w v xs) : (v = .slice none 0 0 ∧ xs = []) ∨ ∃ ad c, v = .slice (Option.some ad) xs.length c ∧ ∀ j u, (icells xs)[j]? = Option.some u → w.cell? (ad.add j) = Option.some u := by
  rcases h with h | ⟨b, o, c, e, hb, hc⟩ | ⟨ad, c, e, rfl⟩
  · exact .inl h
  · refine .inr ⟨⟨b, o, none⟩, c, e, fun j u hu => ?_⟩
    have hj : j < xs.length := by
      have := (List.getElem?_eq_some_iff.1 hu).1
      simpa [icells] using this
    have hu2 : u = .int .i64 xs[j] := by
      have : (icells xs)[j]? = Option.some (.int .i64 xs[j]) := by simp [icells, hj]
      rw [this] at hu
      simpa using hu.symm
    have hadd : (⟨b, o, none⟩ : Addr).add j = ⟨b, o + j, none⟩ := by cases j <;> simp [Addr.add]
    rw [hadd, hu2]
    exact hc j hj
  · exact .inr ⟨ad, c, e, fun j u hu => by simp [icells] at hu⟩

/-- do values fit types? -/
def fitsB : List Int → List (Int × Int) → Bool
  | [], [] => true
  | t :: ts, v :: vs => decide (v.1 = t) && okV v.1 v.2 && fitsB ts vs
  | _, _ => false
theorem fitsB_len : ∀ {ts : List Int} {vs : List (Int × Int)}, fitsB ts vs = true → ts.length = vs.length
  | [], [], _ => rfl
  | t :: ts, v :: vs, h => by simp only [fitsB, Bool.and_eq_true] at h; simp [fitsB_len h.2]
  | [], _ :: _, h => by simp [fitsB] at h
  | _ :: _, [], h => by simp [fitsB] at h
theorem fitsB_iff : ∀ {ts : List Int} {vs : List (Int × Int)}, ts.length = vs.length → (fitsB ts vs = true ↔ ∀ k (h1 : k < ts.length) (h2 : k < vs.length), vs[k].1 = ts[k] ∧ okV vs[k].1 vs[k].2 = true)
  | [], [], _ => by simp [fitsB]
  | t :: ts, v :: vs, h => by
    have ih := fitsB_iff (ts := ts) (vs := vs) (by simpa using h)
    simp only [fitsB, Bool.and_eq_true, decide_eq_true_eq, ih]
    constructor
    · rintro ⟨q, r⟩ k h1 h2
      cases k with
      | zero => exact q
      | succ k => exact r k (by simpa using h1) (by simpa using h2)
    · intro q
      exact ⟨q 0 (by simp) (by simp), fun k h1 h2 => q (k + 1) (by simpa using h1) (by simpa using h2)⟩
  | [], _ :: _, h => by simp at h
  | _ :: _, [], h => by simp at h
theorem vInt_any (n : Int) (w : World) : Calls Try.prog 67 #[.int .i64 n] w fun e w' => Below w.heap.size w w' ∧ e = .returned (.agg #[.int .i64 1, .int .i64 n]) := by
  go_enter Try.func67, Try.ntmps67
  go_wp2
  refine bodyPost_ret (v := .agg #[.int .i64 1, .int .i64 n]) (by simp [results, Try.results67, go_sem]) rfl ⟨(Below.refl _ _).alloc (Nat.le_refl _) _, rfl⟩
theorem vZero_any (t : Int) (ht : knownB t = true) (w : World) : Calls Try.prog 58 #[.int .i64 t] w fun e w' => Below w.heap.size w w' ∧ e = .returned (.tuple #[.agg #[.int .i64 t, .int .i64 0], .int .i64 0]) := by
  have HK := Hid.mk ht
  clear ht
  go_enter Try.func58, Try.ntmps58
  go_wp2_with fail
  refine (known_any _ _).mono ?_
  rintro e w1 ⟨rfl, rfl⟩
  rw [HK.out]
  go_wp2_with fail
  refine bodyPost_ret (v := .tuple #[.agg #[.int .i64 t, .int .i64 0], .int .i64 0]) (by simp [results, Try.results58, go_sem]) rfl ⟨(Below.refl _ _).alloc (Nat.le_refl _) _, rfl⟩

theorem lwithin1_any (t : Int) (w : World) : Calls Try.prog 95 #[.int .i64 t] w fun e w' => e = .returned (.bool (!knownB t)) ∧ w' = w := by
  go_enter Try.func95, Try.ntmps95
  go_wp2_with fail
  refine (known_any _ _).mono ?_
  rintro e w1 ⟨rfl, rfl⟩
  go_wp2_with fail
  go_ret
  exact ⟨rfl, rfl⟩
/-- the first number that is of no type; -1: there is none -/
def KnPost (ts : List Int) (w : World) (e : Ending) (w' : World) : Prop := w' = w ∧ ∃ r : Int, e = .returned (.int .i64 r) ∧ ((r = -1 ∧ ts.all knownB = true) ∨ (0 ≤ r ∧ ts.all knownB = false))
theorem indexT_nil (w : World) (ao : Option Addr) (c : Nat) (f : Value) : Calls Try.prog 103 #[.slice ao 0 c, f] w (KnPost [] w) := by
  go_enter Try.func103, Try.ntmps103
  go_wp2
  refine wp_loop_rounds 1 ?_; rw [rounds_succ]
  go_wp2
  go_ret
  exact ⟨rfl, -1, rfl, .inl ⟨rfl, rfl⟩⟩
theorem indexT_row {b o n c : Nat} {ts : List Int} {w : World} (hn : ts.length = n) (hn2 : n ≤ 4194304) (h0 : ∀ k (hk : k < ts.length), w.cell? ⟨b, o + k, none⟩ = some (.int .i64 ts[k])) :
    Calls Try.prog 103 #[.slice (some ⟨b, o, none⟩) n c, .func (.func 95) #[] #[]] w (KnPost ts w) := by
  have HN := Hid.mk hn
  clear hn
  go_enter Try.func103, Try.ntmps103
  go_wp2
  go_loopw [5, 8] (fun _ i wr => ∃ k : Nat, i = .int .i64 k ∧ k ≤ n ∧ Hid (∀ j (hj : j < ts.length), j < k → knownB ts[j] = true) ∧ wr = w) (fun _ i _ => n - (intOf i).toNat)
  case atStart => exact ⟨0, rfl, by omega, fun _ _ q => absurd q (by omega), rfl⟩
  case round =>
    obtain ⟨k, rfl, hk, hno, rfl⟩ := hrel
    by_cases hlt : k < n
    · have hk' : k < ts.length := by have := HN.out; omega
      have c0 := h0 k hk'
      cases hb : knownB ts[k]
      · have HB := Hid.mk hb
        clear hb
        go_wp2_with fail
        refine (lwithin1_any _ _).mono ?_
        rintro e w1 ⟨rfl, rfl⟩
        rw [HB.out]
        go_wp2_with fail
        go_ret
        refine ⟨rfl, k, rfl, .inr ⟨by omega, ?_⟩⟩
        rw [List.all_eq_false]
        exact ⟨_, List.getElem_mem hk', by rw [HB.out]; simp⟩
      · have HB := Hid.mk hb
        clear hb
        go_wp2_with fail
        refine (lwithin1_any _ _).mono ?_
        rintro e w1 ⟨rfl, rfl⟩
        rw [HB.out]
        go_wp2_with fail
        refine ⟨⟨k + 1, by go_num, by omega, fun j hj hjk => ?_, by trivial⟩, by simp [intOf]; omega⟩
        rcases Nat.lt_or_ge j k with q | q
        · exact hno.out j hj q
        · obtain rfl : j = k := by omega
          exact HB.out
    · obtain rfl : k = n := by omega
      go_wp2
      go_ret
      refine ⟨rfl, -1, rfl, .inl ⟨rfl, ?_⟩⟩
      rw [List.all_eq_true]
      intro x hx
      obtain ⟨j, hj, rfl⟩ := List.getElem_of_mem hx
      exact hno.out j hj (by have := HN.out; omega)
theorem indexT_any {v : Value} {ts : List Int} {w : World} (h : Rdi w v ts) (hn : ts.length ≤ 4194304) : Calls Try.prog 103 #[v, .func (.func 95) #[] #[]] w (KnPost ts w) := by
  rcases h with ⟨rfl, rfl⟩ | ⟨b, o, c, rfl, -, hc⟩ | ⟨ad, c, rfl, rfl⟩
  · exact indexT_nil w _ _ _
  · exact indexT_row rfl hn hc
  · exact indexT_nil w _ _ _
theorem containsT_any {v : Value} {ts : List Int} {w : World} (h : Rdi w v ts) (hn : ts.length ≤ 4194304) : Calls Try.prog 90 #[v, .func (.func 95) #[] #[]] w fun e w' => w' = w ∧ e = .returned (.bool (!ts.all knownB)) := by
  have HI := Hid.mk (indexT_any h hn)
  obtain ⟨ao, c, rfl⟩ := h.shape
  obtain ⟨n, hn'⟩ : ∃ n, ts.length = n := ⟨_, rfl⟩
  rw [hn'] at HI ⊢
  clear h hn
  go_enter Try.func90, Try.ntmps90
  go_wp2_with fail
  refine HI.out.mono ?_
  rintro e w1 ⟨rfl, r, rfl, ⟨rfl, hv⟩ | ⟨hr, hv⟩⟩
  · go_wp2
    go_ret
    exact ⟨rfl, by rw [hv]; rfl⟩
  · have z : decide (r ≥ 0) = true := by simpa using hr
    go_wp2
    go_ret
    exact ⟨rfl, by rw [hv]; rfl⟩
/-- a number with its bounds -/
def spanB (s : Int × Int × Int) : Bool := rangeB s.1 s.2.1 s.2.2
theorem sbeyond_any (n lo hi : Int) (w : World) : Calls Try.prog 97 #[.agg #[.int .i64 n, .int .i64 lo, .int .i64 hi]] w fun e w' => Below w.heap.size w w' ∧ e = .returned (.bool (!rangeB n lo hi)) := by
  have hb : Below w.heap.size w (w.alloc (.cells #[.int .i64 n, .int .i64 lo, .int .i64 hi] 151)) := (Below.refl _ _).alloc (Nat.le_refl _) _
  by_cases q : n < lo
  · have z : decide (n < lo) = true := by simpa using q
    have HR : Hid ((!rangeB n lo hi) = true) := by show (!rangeB n lo hi) = true; unfold rangeB; simp; omega
    clear q
    go_enter Try.func97, Try.ntmps97
    go_wp2
    go_ret
    exact ⟨hb, by rw [HR.out]; rfl⟩
  · have z : decide (n < lo) = false := by simpa using q
    have HR : Hid ((!rangeB n lo hi) = decide (n > hi)) := by
      show (!rangeB n lo hi) = decide (n > hi)
      unfold rangeB
      by_cases q2 : hi < n
      · simp [q2]
      · simp [q2]; omega
    clear q
    go_enter Try.func97, Try.ntmps97
    go_wp2
    go_ret
    exact ⟨hb, by rw [HR.out]; rfl⟩
/-- spans as cells -/
def scell (s : Int × Int × Int) : List Value := [.int .i64 s.1, .int .i64 s.2.1, .int .i64 s.2.2]
/-- a slice of spans reads as ss -/
def Rds (w : World) (v : Value) (ss : List (Int × Int × Int)) : Prop := ∃ b c, v = .slice (some ⟨b, 0, none⟩) ss.length c ∧ b < w.heap.size ∧ ∀ k (hk : k < ss.length), w.cell? ⟨b, k * 3, none⟩ = some (.int .i64 ss[k].1) ∧ w.cell? ⟨b, k * 3 + 1, none⟩ = some (.int .i64 ss[k].2.1) ∧ w.cell? ⟨b, k * 3 + 2, none⟩ = some (.int .i64 ss[k].2.2)
theorem Rds.below {w w' : World} {v : Value} {ss : List (Int × Int × Int)} (h : Rds w v ss) (k : Below w.heap.size w w') : Rds w' v ss := by
  obtain ⟨b, c, e, hb, hc⟩ := h
  exact ⟨b, c, e, Nat.lt_of_lt_of_le hb k.size, fun i hi => ⟨(k.cell (p := ⟨b, _, none⟩) hb).trans (hc i hi).1, (k.cell (p := ⟨b, _, none⟩) hb).trans (hc i hi).2.1, (k.cell (p := ⟨b, _, none⟩) hb).trans (hc i hi).2.2⟩⟩
def SpPost (ss : List (Int × Int × Int)) (w : World) (e : Ending) (w' : World) : Prop := Below w.heap.size w w' ∧ ∃ r : Int, e = .returned (.int .i64 r) ∧ ((r = -1 ∧ ss.all spanB = true) ∨ (0 ≤ r ∧ ss.all spanB = false))
theorem indexS_any {v : Value} {ss : List (Int × Int × Int)} {w : World} (h : Rds w v ss) (hn : ss.length ≤ 4194304) : Calls Try.prog 106 #[v, .func (.func 97) #[] #[]] w (SpPost ss w) := by
  obtain ⟨b, c, rfl, hb, hc⟩ := h
  obtain ⟨n, hn'⟩ : ∃ n, ss.length = n := ⟨_, rfl⟩
  have HN := Hid.mk hn'
  rw [hn'] at hn ⊢
  clear hn'
  go_enter Try.func106, Try.ntmps106
  go_wp2
  go_loopw [5, 8] (fun _ i wr => ∃ k : Nat, i = .int .i64 k ∧ k ≤ n ∧ Hid (∀ j (hj : j < ss.length), j < k → spanB ss[j] = true) ∧ Below w.heap.size w wr) (fun _ i _ => n - (intOf i).toNat)
  case atStart => exact ⟨0, rfl, by omega, fun _ _ q => absurd q (by omega), Below.refl _ _⟩
  case round =>
    obtain ⟨k, rfl, hk, hno, hbl⟩ := hrel
    by_cases hlt : k < n
    · have hk' : k < ss.length := by have := HN.out; omega
      have c0 := (hbl.cell (p := ⟨b, k * 3, none⟩) hb).trans (hc k hk').1
      have c1 := (hbl.cell (p := ⟨b, k * 3 + 1, none⟩) hb).trans (hc k hk').2.1
      have c2 := (hbl.cell (p := ⟨b, k * 3 + 2, none⟩) hb).trans (hc k hk').2.2
      have HL := Hid.mk hbl
      cases hbb : spanB ss[k]
      · have HB := Hid.mk hbb
        clear hbb hbl
        go_wp2_with fail
        refine (sbeyond_any _ _ _ _).mono ?_
        rintro e w1 ⟨hw1, rfl⟩
        have e1 : rangeB ss[k].1 ss[k].2.1 ss[k].2.2 = false := HB.out
        rw [e1]
        go_wp2_with fail
        go_ret
        refine ⟨HL.out.trans (hw1.mono HL.out.size), k, rfl, .inr ⟨by omega, ?_⟩⟩
        rw [List.all_eq_false]
        exact ⟨_, List.getElem_mem hk', by rw [HB.out]; simp⟩
      · have HB := Hid.mk hbb
        clear hbb hbl
        go_wp2_with fail
        refine (sbeyond_any _ _ _ _).mono ?_
        rintro e w1 ⟨hw1, rfl⟩
        have e1 : rangeB ss[k].1 ss[k].2.1 ss[k].2.2 = true := HB.out
        rw [e1]
        go_wp2_with fail
        refine ⟨⟨k + 1, by go_num, by omega, fun j hj hjk => ?_, HL.out.trans (hw1.mono HL.out.size)⟩, by simp [intOf]; omega⟩
        rcases Nat.lt_or_ge j k with q | q
        · exact hno.out j hj q
        · obtain rfl : j = k := by omega
          exact HB.out
    · obtain rfl : k = n := by omega
      go_wp2
      go_ret
      refine ⟨hbl, -1, rfl, .inl ⟨rfl, ?_⟩⟩
      rw [List.all_eq_true]
      intro x hx
      obtain ⟨j, hj, rfl⟩ := List.getElem_of_mem hx
      exact hno.out j hj (by have := HN.out; omega)
theorem containsS_any {v : Value} {ss : List (Int × Int × Int)} {w : World} (h : Rds w v ss) (hn : ss.length ≤ 4194304) : Calls Try.prog 96 #[v, .func (.func 97) #[] #[]] w fun e w' => Below w.heap.size w w' ∧ e = .returned (.bool (!ss.all spanB)) := by
  have HI := Hid.mk (indexS_any h hn)
  obtain ⟨b, c, rfl, -⟩ := h
  obtain ⟨n, hn'⟩ : ∃ n, ss.length = n := ⟨_, rfl⟩
  rw [hn'] at HI ⊢
  clear hn
  go_enter Try.func96, Try.ntmps96
  go_wp2_with fail
  refine HI.out.mono ?_
  rintro e w1 ⟨hb, r, rfl, ⟨rfl, hv⟩ | ⟨hr, hv⟩⟩
  · go_wp2
    go_ret
    exact ⟨hb, by rw [hv]; rfl⟩
  · have z : decide (r ≥ 0) = true := by simpa using hr
    go_wp2
    go_ret
    exact ⟨hb, by rw [hv]; rfl⟩
end Go.Proofs.Ytpfnnmcokbolhaa
