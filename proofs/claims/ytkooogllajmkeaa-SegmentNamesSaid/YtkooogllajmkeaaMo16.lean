/- Parts Se Pc Sf Ha, put together. -/
import Derived.Test.YtkooogllajmkeaaMo1
import Derived.Test.YtkooogllajmkeaaMo8
import Derived.Test.YtkooogllajmkeaaMo15
import Derived.Deep.Onto
/- Separation: parts of memory of the call's own, apart from each other. -/
namespace Go.Proofs.Ytkooogllajmkeaa
open Go.RowKit
set_option pp.deepTerms true
/-- a part of memory: what it says of a world, and of the blocks that it takes -/
structure Asr where
  holds : World → List Nat → Prop
  far : ∀ {W W' : World} {fs : List Nat}, holds W fs → (∀ b ∈ fs, W'.heap[b]? = W.heap[b]?) → holds W' fs
  lt : ∀ {W : World} {fs : List Nat}, holds W fs → ∀ b ∈ fs, b < W.heap.size
theorem Asr.kp (A : Asr) {W W' : World} {fs gs : List Nat} (h : A.holds W fs) (k : Kp gs W W') (hd : ∀ b ∈ fs, b ∉ gs) : A.holds W' fs := A.far h (fun b hb => k.block b (A.lt h b hb) (hd b hb))
theorem row_far {w w' : World} {base : Nat} {e : TypeId} {size : Nat} {v : Value} {n : Nat} {xs : List Value} (ho : w.ownsRow base e size v n xs)
    (hn : ∀ g, v.ownBlock = some g → w'.heap[g]? = w.heap[g]?) : w'.ownsRow base e size v n xs := by
  refine ⟨ho.1, ?_⟩
  rcases ho.2 with q | ⟨g, cap, cur, rfl, hb, hg, rest⟩
  · exact .inl q
  · exact .inr ⟨g, cap, cur, rfl, hb, (hn g rfl).trans hg, rest⟩
/-- a block of the call's own -/
def bx (b : Nat) (o : Obj) : Asr := ⟨fun W fs => fs = [b] ∧ W.heap[b]? = some o,
  fun h k => ⟨h.1, (k b (by rw [h.1]; simp)).trans h.2⟩, fun h x hx => by
    rw [h.1] at hx
    obtain rfl : x = b := by simpa using hx
    exact lt_of_heap h.2⟩
/-- a row of the call's own -/
def rw_ (base : Nat) (T : TypeId) (n : Nat) (v : Value) (m : Nat) (xs : List Value) : Asr := ⟨fun W fs => fs = v.ownBlock.toList ∧ W.ownsRow base T n v m xs,
  fun h k => ⟨h.1, row_far h.2 (fun g hg => k g (by rw [h.1, hg]; simp))⟩, fun h x hx => by
    rw [h.1] at hx
    exact (h.2.lt x (by simpa using hx)).2⟩
/-- a plain fact -/
def pf (P : Prop) : Asr := ⟨fun _ fs => fs = [] ∧ P, fun h _ => h, fun h x hx => by rw [h.1] at hx; simp at hx⟩
def Asr.ex {α : Type} (A : α → Asr) : Asr := ⟨fun W fs => ∃ x, (A x).holds W fs, fun h k => let ⟨x, q⟩ := h; ⟨x, (A x).far q k⟩, fun h => let ⟨x, q⟩ := h; (A x).lt q⟩
def Asr.sep (A B : Asr) : Asr := ⟨fun W us => ∃ fs gs, us = fs ++ gs ∧ A.holds W fs ∧ B.holds W gs ∧ ∀ b ∈ fs, b ∉ gs,
  fun h k => by
    obtain ⟨fs, gs, rfl, h1, h2, h3⟩ := h
    exact ⟨fs, gs, rfl, A.far h1 (fun b hb => k b (List.mem_append.2 (.inl hb))), B.far h2 (fun b hb => k b (List.mem_append.2 (.inr hb))), h3⟩,
  fun h b hb => by
    obtain ⟨fs, gs, rfl, h1, h2, h3⟩ := h
    rcases List.mem_append.1 hb with hb | hb
    · exact A.lt h1 b hb
    · exact B.lt h2 b hb⟩
def Parts (m : Nat) (W : World) : List Asr → List Nat → Prop
  | [], us => us = []
  | A :: l, us => ∃ fs gs, us = fs ++ gs ∧ A.holds W fs ∧ Parts m W l gs ∧ (∀ b ∈ fs, b ∉ gs) ∧ ∀ b ∈ fs, m ≤ b
section
variable {m : Nat} {W W' : World} {l l' : List Asr} {us gs : List Nat} {A B : Asr}
theorem Parts.kp (h : Parts m W l us) (k : Kp gs W W') (hd : ∀ b ∈ us, b ∉ gs) : Parts m W' l us := by
  induction l generalizing us with
  | nil => exact h
  | cons A l ih =>
    obtain ⟨fs, hs, rfl, h1, h2, h3, h4⟩ := h
    exact ⟨fs, hs, rfl, A.kp h1 k (fun b hb => hd b (List.mem_append.2 (.inl hb))), ih h2 (fun b hb => hd b (List.mem_append.2 (.inr hb))), h3, h4⟩
theorem Parts.far (h : Parts m W l us) (k : ∀ b ∈ us, W'.heap[b]? = W.heap[b]?) : Parts m W' l us := by
  induction l generalizing us with
  | nil => exact h
  | cons A l ih =>
    obtain ⟨fs, hs, rfl, h1, h2, h3, h4⟩ := h
    exact ⟨fs, hs, rfl, A.far h1 (fun b hb => k b (List.mem_append.2 (.inl hb))), ih h2 (fun b hb => k b (List.mem_append.2 (.inr hb))), h3, h4⟩
theorem Parts.lt (h : Parts m W l us) : ∀ b ∈ us, m ≤ b ∧ b < W.heap.size := by
  induction l generalizing us with
  | nil => cases h; simp
  | cons A l ih =>
    obtain ⟨fs, hs, rfl, h1, h2, h3, h4⟩ := h
    intro b hb
    rcases List.mem_append.1 hb with hb | hb
    · exact ⟨h4 b hb, A.lt h1 b hb⟩
    · exact ih h2 b hb
theorem Parts.perm (p : l.Perm l') (h : Parts m W l us) : ∃ us', Parts m W l' us' ∧ ∀ b, b ∈ us' ↔ b ∈ us := by
  induction p generalizing us with
  | nil => exact ⟨us, h, fun _ => Iff.rfl⟩
  | cons A _ ih =>
    obtain ⟨fs, hs, rfl, h1, h2, h3, h4⟩ := h
    obtain ⟨us', q1, q2⟩ := ih h2
    exact ⟨fs ++ us', ⟨fs, us', rfl, h1, q1, fun b hb c => h3 b hb ((q2 b).1 c), h4⟩, fun b => by simp [q2]⟩
  | swap A B l =>
    obtain ⟨fs, hs, rfl, h1, ⟨ft, ht, rfl, k1, k2, k3, k4⟩, h3, h4⟩ := h
    refine ⟨ft ++ (fs ++ ht), ⟨ft, fs ++ ht, rfl, k1, ⟨fs, ht, rfl, h1, k2, fun b hb c => h3 b hb (List.mem_append.2 (.inr c)), h4⟩, fun b hb c => ?_, k4⟩, fun b => ?_⟩
    · rcases List.mem_append.1 c with c | c
      · exact h3 b c (List.mem_append.2 (.inl hb))
      · exact k3 b hb c
    · simp only [List.mem_append]
      exact ⟨fun q => q.elim (fun q => .inr (.inl q)) (fun q => q.elim .inl (fun q => .inr (.inr q))), fun q => q.elim (fun q => .inr (.inl q)) (fun q => q.elim .inl (fun q => .inr (.inr q)))⟩
  | trans _ _ ih1 ih2 =>
    obtain ⟨u1, q1, q2⟩ := ih1 h
    obtain ⟨u2, r1, r2⟩ := ih2 q1
    exact ⟨u2, r1, fun b => (r2 b).trans (q2 b)⟩
theorem Parts.sub (p : l'.Sublist l) (h : Parts m W l us) : ∃ us', Parts m W l' us' ∧ ∀ b ∈ us', b ∈ us := by
  induction p generalizing us with
  | slnil => exact ⟨us, h, fun _ q => q⟩
  | cons A _ ih =>
    obtain ⟨fs, hs, rfl, h1, h2, h3, h4⟩ := h
    obtain ⟨us', q1, q2⟩ := ih h2
    exact ⟨us', q1, fun b hb => List.mem_append.2 (.inr (q2 b hb))⟩
  | cons_cons A _ ih =>
    obtain ⟨fs, hs, rfl, h1, h2, h3, h4⟩ := h
    obtain ⟨us', q1, q2⟩ := ih h2
    exact ⟨fs ++ us', ⟨fs, us', rfl, h1, q1, fun b hb c => h3 b hb (q2 b c), h4⟩, fun b hb => (List.mem_append.1 hb).elim (fun q => List.mem_append.2 (.inl q)) (fun q => List.mem_append.2 (.inr (q2 b q)))⟩
theorem Parts.mem (h : Parts m W l us) (hm : A ∈ l) : ∃ fs, A.holds W fs ∧ ∀ b ∈ fs, b ∈ us := by
  induction l generalizing us with
  | nil => cases hm
  | cons B l ih =>
    obtain ⟨fs, hs, rfl, h1, h2, h3, h4⟩ := h
    rcases List.mem_cons.1 hm with rfl | hm
    · exact ⟨fs, h1, fun b hb => List.mem_append.2 (.inl hb)⟩
    · obtain ⟨gs, q1, q2⟩ := ih h2 hm
      exact ⟨gs, q1, fun b hb => List.mem_append.2 (.inr (q2 b hb))⟩
end
/-- parts of the call's own (since w), apart from each other; all that was ahead of w is as it was -/
def Sep (w : World) (l : List Asr) (W : World) : Prop := Below w.heap.size w W ∧ ∃ us, Parts w.heap.size W l us
section
variable {w W W' : World} {l l' F : List Asr} {A A' B : Asr} {b : Nat} {o : Obj}
theorem Sep.size (h : Sep w l W) : Below w.heap.size w W := h.1
theorem Sep.nil (k : Below w.heap.size w W) : Sep w [] W := ⟨k, [], rfl⟩
theorem Sep.perm (h : Sep w l W) (p : l.Perm l') : Sep w l' W := let ⟨_, q⟩ := h.2; let ⟨us', r, _⟩ := q.perm p; ⟨h.1, us', r⟩
theorem Sep.sub (h : Sep w l W) (p : l'.Sublist l) : Sep w l' W := let ⟨_, q⟩ := h.2; let ⟨us', r, _⟩ := q.sub p; ⟨h.1, us', r⟩
theorem Sep.pick (i : Nat) (h : Sep w l W) (hi : l[i]? = some A) : Sep w (A :: l.eraseIdx i) W := by
  obtain ⟨hl, rfl⟩ := List.getElem?_eq_some_iff.1 hi
  have e : l = l.take i ++ l[i] :: l.drop (i + 1) := by rw [← List.drop_eq_getElem_cons hl, List.take_append_drop]
  refine h.perm ?_
  rw [List.eraseIdx_eq_take_drop_succ]
  exact (List.Perm.of_eq e).trans List.perm_middle
theorem Sep.lose (i : Nat) (h : Sep w l W) : Sep w (l.eraseIdx i) W := h.sub (List.eraseIdx_sublist l i)
theorem Sep.tl (h : Sep w (A :: l) W) : Sep w l W := h.sub (List.sublist_cons_self A l)
theorem Sep.rot (l1 l2 : List Asr) (h : Sep w (l1 ++ (l2 ++ F)) W) : Sep w (l2 ++ (l1 ++ F)) W := h.perm (by
  rw [← List.append_assoc, ← List.append_assoc]
  exact List.perm_append_comm.append_right F)
theorem Sep.keep (h : Sep w l W) (k : Below W.heap.size W W') : Sep w l W' :=
  let ⟨us, q⟩ := h.2; ⟨h.1.trans (k.mono h.1.size), us, q.kp (Kp.of_below k []) (by simp)⟩
theorem Sep.drew (h : Sep w l W) : Sep w l W.drew := h.keep (Below.refl _ _).drew
/-- a part that is new -/
theorem Sep.new (h : Sep w l W) (k : Below W.heap.size W W') {fs : List Nat} (ha : A.holds W' fs) (hf : ∀ b ∈ fs, W.heap.size ≤ b) : Sep w (A :: l) W' := by
  obtain ⟨us, q⟩ := h.2
  exact ⟨h.1.trans (k.mono h.1.size), _, fs, us, rfl, ha, q.kp (Kp.of_below k []) (by simp), fun b hb c => by have := hf b hb; have := (q.lt b c).2; omega, fun b hb => Nat.le_trans h.1.size (hf b hb)⟩
theorem Sep.alloc (h : Sep w l W) (o : Obj) : Sep w (bx W.heap.size o :: l) (W.alloc o) :=
  h.new ((Below.refl _ _).alloc (Nat.le_refl _) o) (fs := [W.heap.size]) ⟨rfl, heap_alloc_new W o⟩ (by simp)
theorem Sep.box (h : Sep w l W) (k : Below W.heap.size W W') (hb : W.heap.size ≤ b) (ho : W'.heap[b]? = some o) : Sep w (bx b o :: l) W' :=
  h.new k (fs := [b]) ⟨rfl, ho⟩ (by simpa using hb)
theorem Sep.row (h : Sep w l W) (k : Below W.heap.size W W') {T : TypeId} {n : Nat} {v : Value} {m : Nat} {xs : List Value} (hr : W'.ownsRow W.heap.size T n v m xs) : Sep w (rw_ 0 T n v m xs :: l) W' :=
  h.new k (fs := v.ownBlock.toList) ⟨rfl, hr.mono (Nat.zero_le _)⟩ (fun b hb => (hr.lt b (by simpa using hb)).1)
theorem Sep.mem (h : Sep w l W) (hm : A ∈ l) : ∃ fs, A.holds W fs ∧ ∀ b ∈ fs, w.heap.size ≤ b := by
  obtain ⟨us, q⟩ := h.2
  obtain ⟨fs, q1, q2⟩ := q.mem hm
  exact ⟨fs, q1, fun b hb => (q.lt b (q2 b hb)).1⟩
theorem Sep.at (h : Sep w l W) (hm : bx b o ∈ l) : W.heap[b]? = some o := by
  obtain ⟨fs, q, -⟩ := h.mem hm
  exact q.2
theorem Sep.ge (h : Sep w l W) (hm : bx b o ∈ l) : w.heap.size ≤ b := by
  obtain ⟨fs, q, r⟩ := h.mem hm
  exact r b (by rw [q.1]; simp)
theorem Sep.lt (h : Sep w l W) (hm : bx b o ∈ l) : b < W.heap.size := lt_of_heap (h.at hm)
theorem Sep.cell (h : Sep w l W) {j : Nat} {cs : Array Value} {T : TypeId} {v : Value} (hm : bx b (.cells cs T) ∈ l) (hv : cs[j]? = some v) : W.cell? ⟨b, j, none⟩ = some v := by
  rw [cell_of_row W b j _ _ _ (h.at hm), hv]
theorem Sep.free (h : Sep w l W) {cs : Array Value} {T : TypeId} (hm : bx b (.cells cs T) ∈ l) (j : Nat) : W.frozen? ⟨b, j, none⟩ = false := frozen_of_row W b j _ _ (h.at hm)
theorem Sep.owns (h : Sep w l W) {base : Nat} {T : TypeId} {n : Nat} {v : Value} {m : Nat} {xs : List Value} (hm : rw_ base T n v m xs ∈ l) : W.ownsRow base T n v m xs := by
  obtain ⟨fs, q, -⟩ := h.mem hm
  exact q.2
/-- two blocks are unlike -/
theorem Sep.ne (h : Sep w (bx b o :: l) W) {b' : Nat} {o' : Obj} (hm : bx b' o' ∈ l) : b' ≠ b := by
  obtain ⟨us, fs, gs, rfl, h1, h2, h3, -⟩ := h.2
  obtain ⟨hs, q1, q2⟩ := h2.mem hm
  rintro rfl
  exact h3 b' (by rw [h1.1]; simp) (q2 b' (by rw [q1.1]; simp))
/-- the first part turns -/
theorem Sep.turn (h : Sep w (A :: l) W) (hc : ∀ fs, A.holds W fs → (∀ b ∈ fs, w.heap.size ≤ b) → ∃ fs', A'.holds W' fs' ∧ Kp fs W W' ∧ ∀ x ∈ fs', x ∈ fs ∨ W.heap.size ≤ x) : Sep w (A' :: l) W' := by
  obtain ⟨hb, us, fs, gs, rfl, h1, h2, h3, h4⟩ := h
  obtain ⟨fs', q1, q2, q3⟩ := hc fs h1 h4
  refine ⟨?_, _, fs', gs, rfl, q1, h2.kp q2 (fun b hb c => h3 b c hb), fun b hb c => ?_, fun b hb' => ?_⟩
  · exact ⟨q2.os.trans hb.os, q2.tape.trans hb.tape, q2.output.trans hb.output, Nat.le_trans hb.size q2.size, fun k hk => (q2.block k (Nat.lt_of_lt_of_le hk hb.size) (fun c => by have := h4 k c; omega)).trans (hb.block k hk)⟩
  · rcases q3 b hb with q | q
    · exact h3 b q c
    · have := (h2.lt b c).2; omega
  · exact (q3 b hb').elim (h4 b) (fun q => Nat.le_trans hb.size q)
theorem Sep.store {cs : Array Value} {T : TypeId} (h : Sep w (bx b (.cells cs T) :: l) W) (j : Nat) (u : Value) : Sep w (bx b (.cells (cs.setIfInBounds j u) T) :: l) (W.setCell ⟨b, j, none⟩ u) :=
  h.turn (fun fs hf _ => by
    obtain ⟨rfl, hf⟩ := hf
    exact ⟨[b], ⟨rfl, heap_setCell_same W b j _ _ u hf⟩, (Kp.refl _ _).setCell (.inl (by simp)) u, fun x hx => .inl hx⟩)
/-- a call that turns the first part alone -/
theorem Sep.call {P : Program} {f : FuncId} {args : Array Value} {R : Ending → World → Prop} (h : Sep w (A :: l) W)
    (hc : ∀ fs, A.holds W fs → (∀ b ∈ fs, w.heap.size ≤ b) → Calls P f args W fun e w' => (∃ fs', A'.holds w' fs' ∧ Kp fs W w' ∧ ∀ x ∈ fs', x ∈ fs ∨ W.heap.size ≤ x) ∧ R e w') : Calls P f args W fun e w' => Sep w (A' :: l) w' ∧ R e w' := by
  have h0 := h
  obtain ⟨hb, us, fs, gs, rfl, h1, h2, h3, h4⟩ := h
  refine (hc fs h1 h4).mono ?_
  rintro e w' ⟨⟨fs', q1, q2, q3⟩, q⟩
  refine ⟨⟨?_, _, fs', gs, rfl, q1, h2.kp q2 (fun b hb c => h3 b c hb), fun b hb c => ?_, fun b hb' => ?_⟩, q⟩
  · exact ⟨q2.os.trans hb.os, q2.tape.trans hb.tape, q2.output.trans hb.output, Nat.le_trans hb.size q2.size, fun k hk => (q2.block k (Nat.lt_of_lt_of_le hk hb.size) (fun c => by have := h4 k c; omega)).trans (hb.block k hk)⟩
  · rcases q3 b hb with q | q
    · exact h3 b q c
    · have := (h2.lt b c).2; omega
  · exact (q3 b hb').elim (h4 b) (fun q => Nat.le_trans hb.size q)
end
section
variable {w W W' w2 : World} {F : List Asr} {A B : Asr}
theorem Sep.exI {α : Type} {A : α → Asr} (x : α) (h : Sep w (A x :: F) W) : Sep w (Asr.ex A :: F) W :=
  let ⟨hb, us, fs, gs, e, h1, h2, h3, h4⟩ := h; ⟨hb, us, fs, gs, e, ⟨x, h1⟩, h2, h3, h4⟩
theorem Sep.exE {α : Type} {A : α → Asr} (h : Sep w (Asr.ex A :: F) W) : ∃ x, Sep w (A x :: F) W :=
  let ⟨hb, us, fs, gs, e, ⟨x, h1⟩, h2, h3, h4⟩ := h; ⟨x, hb, us, fs, gs, e, h1, h2, h3, h4⟩
theorem Sep.sepI (h : Sep w (A :: B :: F) W) : Sep w (Asr.sep A B :: F) W := by
  obtain ⟨hb, us, fs, gs, rfl, h1, ⟨hs, ks, rfl, h2, hF, h23, hge2⟩, h13, hge1⟩ := h
  refine ⟨hb, _, fs ++ hs, ks, (List.append_assoc _ _ _).symm, ⟨fs, hs, rfl, h1, h2, fun b hb c => h13 b hb (List.mem_append.2 (.inl c))⟩, hF, fun b hb c => ?_, fun b hb => ?_⟩
  · rcases List.mem_append.1 hb with q | q
    · exact h13 b q (List.mem_append.2 (.inr c))
    · exact h23 b q c
  · rcases List.mem_append.1 hb with q | q
    · exact hge1 b q
    · exact hge2 b q
theorem Sep.sepE (h : Sep w (Asr.sep A B :: F) W) : Sep w (A :: B :: F) W := by
  obtain ⟨hb, us, gs, ks, rfl, ⟨fs, hs, rfl, h1, h2, h12⟩, hF, h3, hge⟩ := h
  refine ⟨hb, _, fs, hs ++ ks, List.append_assoc _ _ _, h1, ⟨hs, ks, rfl, h2, hF, fun b hb => h3 b (List.mem_append.2 (.inr hb)), fun b hb => hge b (List.mem_append.2 (.inr hb))⟩, fun b hb c => ?_, fun b hb => hge b (List.mem_append.2 (.inl hb))⟩
  rcases List.mem_append.1 c with q | q
  · exact h12 b hb q
  · exact h3 b (List.mem_append.2 (.inl hb)) q
/-- an append to a row of the call's own, behind a block that holds what is appended -/
theorem Sep.grown {base : Nat} {T : TypeId} {n : Nat} {v v' : Value} {m m' : Nat} {xs xs' : List Value} {ob : Obj} (h : Sep w (rw_ base T n v m xs :: F) W) (hown : w2.ownsRow base T n v' m' xs') (hg : (W.alloc ob).grownBy w2 v.ownBlock)
    (hat : v'.ownBlock = v.ownBlock ∨ v'.ownBlock = some (W.heap.size + 1)) : Sep w (rw_ base T n v' m' xs' :: F) w2 :=
  h.turn (fun fs hf _ => by
    obtain ⟨rfl, hr⟩ := hf
    refine ⟨v'.ownBlock.toList, ⟨rfl, hown⟩, ((Kp.refl _ W).alloc ob).grown hg (fun k hk => .inl (by simp [hk])), fun x hx => ?_⟩
    simp only [Option.mem_toList] at hx ⊢
    rcases hat with q | q
    · exact .inl (by rw [← q]; exact hx)
    · rw [hx] at q
      simp only [Option.some.injEq] at q
      exact .inr (by omega))
/-- an append of a row that is read -/
theorem Sep.grown' {base : Nat} {T : TypeId} {n : Nat} {v v' : Value} {m m' : Nat} {xs xs' : List Value} (h : Sep w (rw_ base T n v m xs :: F) W) (hown : w2.ownsRow base T n v' m' xs') (hg : W.grownBy w2 v.ownBlock)
    (hat : v'.ownBlock = v.ownBlock ∨ v'.ownBlock = some W.heap.size) : Sep w (rw_ base T n v' m' xs' :: F) w2 :=
  h.turn (fun fs hf _ => by
    obtain ⟨rfl, hr⟩ := hf
    refine ⟨v'.ownBlock.toList, ⟨rfl, hown⟩, (Kp.refl _ W).grown hg (fun k hk => .inl (by simp [hk])), fun x hx => ?_⟩
    simp only [Option.mem_toList] at hx ⊢
    rcases hat with q | q
    · exact .inl (by rw [← q]; exact hx)
    · rw [hx] at q
      simp only [Option.some.injEq] at q
      exact .inr (by omega))
/-- the same row, seen by another slice of the same block, or by none -/
theorem Sep.rerow {base base' : Nat} {T T' : TypeId} {n n' : Nat} {v v' : Value} {m m' : Nat} {xs xs' : List Value} (h : Sep w (rw_ base T n v m xs :: F) W) (hv : ∀ b, v'.ownBlock = some b → v.ownBlock = some b) (hr : W.ownsRow base' T' n' v' m' xs') : Sep w (rw_ base' T' n' v' m' xs' :: F) W :=
  h.turn (fun fs hf _ => by
    obtain ⟨rfl, -⟩ := hf
    exact ⟨v'.ownBlock.toList, ⟨rfl, hr⟩, Kp.refl _ W, fun x hx => .inl (by
      simp only [Option.mem_toList] at hx ⊢
      exact hv x hx)⟩)
/-- a row that holds nothing yet -/
theorem Sep.rnil (h : Sep w F W) (base : Nat) (T : TypeId) (n : Nat) : Sep w (rw_ base T n (.slice none 0 0) 0 [] :: F) W :=
  h.new (Below.refl _ _) (fs := []) ⟨rfl, World.ownsRow_nil _ _ _ _⟩ (by simp)
end
end Go.Proofs.Ytkooogllajmkeaa
/- A piece of a function's body, by its path. -/
namespace Go.Proofs.Ytkooogllajmkeaa
def pieceOf : Code → List Nat → Code
  | c, [] => c
  | .seq a _, 0 :: p => pieceOf a p
  | .seq _ b, _ :: p => pieceOf b p
  | .block _ c, _ :: p => pieceOf c p
  | .loop c, _ :: p => pieceOf c p
  | .scope c, _ :: p => pieceOf c p
  | .cond _ a _, 0 :: p => pieceOf a p
  | .cond _ _ b, _ :: p => pieceOf b p
  | .rangeFunc _ _ a _, 0 :: p => pieceOf a p
  | .rangeFunc _ _ _ b, _ :: p => pieceOf b p
  | _, _ => .skip
end Go.Proofs.Ytkooogllajmkeaa
/- Separation: a space, a document's space, a link, as parts. -/
namespace Go.Proofs.Ytkooogllajmkeaa
open Go.RowKit
set_option pp.deepTerms true
theorem SpAt.far {w w' : World} {p : Nat} {last : Int} {sl : Value} {ls : List LReg} (h : SpAt w p last sl ls) (k : ∀ b ∈ foot p sl ls, w'.heap[b]? = w.heap[b]?) : SpAt w' p last sl ls := by
  refine ⟨(k p (by simp [foot])).trans h.head, row_far h.row (fun g hg => k g ?_), fun r hr => row_far (h.words r hr) (fun g hg => ?_), h.nodup⟩
  · simp [foot, hg]
  · simp [Value.ownBlock] at hg; subst hg
    exact k _ (by simp [foot]; exact .inr (.inr ⟨r, hr, rfl⟩))
theorem Spc.far {w w' : World} {p : Nat} {S : Sp} {fs : List Nat} (h : Spc w p S fs) (k : ∀ b ∈ fs, w'.heap[b]? = w.heap[b]?) : Spc w' p S fs := by
  obtain ⟨sl, ls, h1, h2, h3, rfl⟩ := h
  exact ⟨sl, ls, h1.far k, h2, h3, rfl⟩
theorem RAt.far {w w' : World} {p : Nat} {last : Int} {rv wv : Value} {ls : List LReg} (h : RAt w p last rv wv ls) (k : ∀ b ∈ rfoot p rv wv ls, w'.heap[b]? = w.heap[b]?) : RAt w' p last rv wv ls := by
  refine ⟨(k p (by simp [rfoot])).trans h.head, row_far h.row (fun g hg => k g ?_), row_far h.tab (fun g hg => k g ?_), fun r hr => row_far (h.words r hr) (fun g hg => ?_), h.nodup⟩
  · simp [rfoot, hg]
  · simp [rfoot, hg]
  · simp [Value.ownBlock, LReg.sl] at hg; subst hg
    exact k _ (by simp [rfoot]; exact .inr (.inr (.inr ⟨r, hr, rfl⟩)))
theorem RSpc.far {w w' : World} {p : Nat} {S : Sp} {fs : List Nat} (h : RSpc w p S fs) (k : ∀ b ∈ fs, w'.heap[b]? = w.heap[b]?) : RSpc w' p S fs := by
  obtain ⟨rv, wv, ls, h1, h2, h3, h4, rfl⟩ := h
  exact ⟨rv, wv, ls, h1.far k, h2, h3, h4, rfl⟩
theorem LkAt.far {W W' : World} {b p : Nat} {sz ca : Int} {L : Lk} {lv kv : Value} (h : LkAt W b p sz ca L lv kv) (k : ∀ x ∈ lfoot b lv kv, W'.heap[x]? = W.heap[x]?) : LkAt W' b p sz ca L lv kv :=
  ⟨(k b (by simp [lfoot])).trans h.head, row_far h.live (fun g hg => k g (by simp [lfoot, hg])), row_far h.kept (fun g hg => k g (by simp [lfoot, hg])), h.nodup⟩
theorem Lkd.far {W W' : World} {b p : Nat} {sz ca : Int} {L : Lk} {hs : List Nat} (h : Lkd W b p sz ca L hs) (k : ∀ x ∈ hs, W'.heap[x]? = W.heap[x]?) : Lkd W' b p sz ca L hs := by
  obtain ⟨lv, kv, h1, rfl⟩ := h
  exact ⟨lv, kv, h1.far k, rfl⟩
/-- the program's space -/
def spA (p : Nat) (S : Sp) : Asr := ⟨fun W fs => Spc W p S fs, fun h k => h.far k, fun h => h.lt⟩
/-- the document's space -/
def rsA (p : Nat) (S : Sp) : Asr := ⟨fun W fs => RSpc W p S fs, fun h k => h.far k, fun h => h.lt⟩
/-- the program's link -/
def lkA (b p : Nat) (sz ca : Int) (L : Lk) : Asr := ⟨fun W fs => Lkd W b p sz ca L fs, fun h k => h.far k, fun h => h.lt⟩
section
variable {w W : World} {F : List Asr} {p b pr : Nat} {S S' : Sp} {L : Lk} {sz ca : Int} {f : FuncId} {args : Array Value}
theorem Sep.sp (h : Sep w (spA p S :: F) W) : ∃ fs, Spc W p S fs := by
  obtain ⟨fs, q, -⟩ := h.mem (List.Mem.head _)
  exact ⟨fs, q⟩
theorem Sep.rs (h : Sep w (rsA pr S :: F) W) : ∃ fs, RSpc W pr S fs := by
  obtain ⟨fs, q, -⟩ := h.mem (List.Mem.head _)
  exact ⟨fs, q⟩
theorem Sep.stp {R : Ending → Prop} (h : Sep w (spA p S :: F) W) (hc : ∀ fs, Spc W p S fs → Calls Try.prog f args W fun e w' => Stp W p fs S' w' ∧ R e) : Calls Try.prog f args W fun e w' => Sep w (spA p S' :: F) w' ∧ R e :=
  h.call (A' := spA p S') (fun fs hf _ => (hc fs hf).mono (fun _ _ q => ⟨q.1, q.2⟩))
theorem Sep.rstp {R : Ending → Prop} (h : Sep w (rsA pr S :: F) W) (hc : ∀ fs, RSpc W pr S fs → Calls Try.prog f args W fun e w' => RStp W pr fs S' w' ∧ R e) : Calls Try.prog f args W fun e w' => Sep w (rsA pr S' :: F) w' ∧ R e :=
  h.call (A' := rsA pr S') (fun fs hf _ => (hc fs hf).mono (fun _ _ q => ⟨q.1, q.2⟩))
theorem rtake_sep (h : Sep w (rsA pr S :: F) W) (m : Int) (hl : S.last ≤ 1152921504606846976) : Calls Try.prog 49 #[.pointer (some ⟨pr, 0, none⟩), .int .i64 m] W fun e w' => Sep w (rsA pr (S.take m).2 :: F) w' ∧ e = .returned (.tuple #[.int .i64 (S.take m).1.1, .int .i64 (S.take m).1.2]) :=
  h.rstp (fun _ hf => rtake_spc hf m hl)
theorem rlet_sep (h : Sep w (rsA pr S :: F) W) (a : Int) : Calls Try.prog 50 #[.pointer (some ⟨pr, 0, none⟩), .int .i64 a] W fun e w' => Sep w (rsA pr (S.let_ a).2 :: F) w' ∧ e = .returned (.int .i64 (S.let_ a).1) :=
  h.rstp (fun _ hf => rlet_spc hf a)
theorem rdrop_sep (h : Sep w (rsA pr S :: F) W) (a m : Int) (ha : I64 a) : Calls Try.prog 53 #[.pointer (some ⟨pr, 0, none⟩), .int .i64 a, .int .i64 m] W fun e w' => Sep w (rsA pr (S.drop a m).2 :: F) w' ∧ e = .returned (.int .i64 (S.drop a m).1) :=
  h.rstp (fun _ hf => rdrop_spc hf a m ha)
theorem rput_sep (h : Sep w (rsA pr S :: F) W) (a t n : Int) (ha : I64 a) : Calls Try.prog 51 #[.pointer (some ⟨pr, 0, none⟩), .int .i64 a, .agg #[.int .i64 t, .int .i64 n]] W fun e w' => Sep w (rsA pr (S.put a (t, n)).2 :: F) w' ∧ e = .returned (.int .i64 (S.put a (t, n)).1) :=
  h.rstp (fun _ hf => rput_spc hf a t n ha)
theorem take_sep (h : Sep w (spA p S :: F) W) (m : Int) (hl : S.last ≤ 1152921504606846976) : Calls Try.prog 12 #[.pointer (some ⟨p, 0, none⟩), .int .i64 m] W fun e w' => Sep w (spA p (S.take m).2 :: F) w' ∧ e = .returned (.tuple #[.int .i64 (S.take m).1.1, .int .i64 (S.take m).1.2]) :=
  h.stp (fun _ hf => take_spc hf m hl)
theorem let_sep (h : Sep w (spA p S :: F) W) (a : Int) : Calls Try.prog 13 #[.pointer (some ⟨p, 0, none⟩), .int .i64 a] W fun e w' => Sep w (spA p (S.let_ a).2 :: F) w' ∧ e = .returned (.int .i64 (S.let_ a).1) :=
  h.stp (fun _ hf => let_spc hf a)
theorem put_sep (h : Sep w (spA p S :: F) W) (a t n : Int) : Calls Try.prog 17 #[.pointer (some ⟨p, 0, none⟩), .int .i64 a, .agg #[.int .i64 t, .int .i64 n]] W fun e w' => Sep w (spA p (S.put a (t, n)).2 :: F) w' ∧ e = .returned (.int .i64 (S.put a (t, n)).1) :=
  h.stp (fun _ hf => put_spc hf a t n)
theorem drop_sep (h : Sep w (spA p S :: F) W) (a m : Int) : Calls Try.prog 18 #[.pointer (some ⟨p, 0, none⟩), .int .i64 a, .int .i64 m] W fun e w' => Sep w (spA p (S.drop a m).2 :: F) w' ∧ e = .returned (.int .i64 (S.drop a m).1) :=
  h.stp (fun _ hf => drop_spc hf a m)
/-- what is known over a space and its link (Seg) serves beside other parts -/
theorem Sep.seg {R : Ending → Sp → Lk → Prop} (h : Sep w (spA p S :: lkA b p sz ca L :: F) W)
    (hc : ∀ E, Seg w p b sz ca S L E W → Calls Try.prog f args W fun e w' => ∃ S' L', Seg w p b sz ca S' L' E w' ∧ R e S' L') : Calls Try.prog f args W fun e w' => ∃ S' L', Sep w (spA p S' :: lkA b p sz ca L' :: F) w' ∧ R e S' L' := by
  obtain ⟨hb, us, fs, gs0, rfl, h1, ⟨hs, ks, rfl, h2, hF, h23, hge2⟩, h13, hge1⟩ := h
  have hkl := hF.lt
  have h1' : Spc W p S fs := h1
  have h2' : Lkd W b p sz ca L hs := h2
  refine (hc (ks.map fun x => (x, W.heap[x]?.getD default)) ⟨fs, hs, h1', h2', fun x hx q => h13 x hx (List.mem_append.2 (.inl q)), hge1, hge2, hb, fun x hx => ?_⟩).mono ?_
  · obtain ⟨y, hy, rfl⟩ := List.mem_map.1 hx
    refine ⟨fun q => h13 y q (List.mem_append.2 (.inr hy)), fun q => h23 y q hy, ?_⟩
    simp only
    rw [Array.getElem?_eq_getElem (hkl y hy).2]
    rfl
  · rintro e w' ⟨S', L', ⟨fs', hs', q1, q2, q3, q4, q5, q6, q7⟩, hR⟩
    have hk : ∀ x ∈ ks, x ∉ fs' ∧ x ∉ hs' ∧ w'.heap[x]? = W.heap[x]? := fun x hx => by
      have := q7 _ (List.mem_map.2 ⟨x, hx, rfl⟩)
      refine ⟨this.1, this.2.1, this.2.2.trans ?_⟩
      rw [Array.getElem?_eq_getElem (hkl x hx).2]
      rfl
    refine ⟨S', L', ⟨q6, _, fs', hs' ++ ks, rfl, q1, ⟨hs', ks, rfl, q2, hF.far (fun x hx => (hk x hx).2.2), fun x hx q => (hk x q).2.1 hx, q5⟩, fun x hx q => ?_, q4⟩, hR⟩
    rcases List.mem_append.1 q with q | q
    · exact q3 x hx q
    · exact (hk x q).1 hx
end
end Go.Proofs.Ytkooogllajmkeaa
/- A link's calls as plain functions; the document's link as a part. -/
namespace Go.Proofs.Ytkooogllajmkeaa
open Go.RowKit
set_option pp.deepTerms true
theorem rev_get {n i : Nat} (hi : i < n) : (rev n)[i]'(by rw [rev_len]; exact hi) = ⟨n - 1 - i, by omega⟩ := by
  have := rev_at (n := n) (k := n - 1 - i) (by omega)
  have e : n - (n - 1 - i + 1) = i := by omega
  simp only [e] at this
  exact this
theorem fit_at {xs : List (Int × Int)} {m : Int} {k : Nat} (hk : k < xs.length) (hx : m ≤ xs[k].2) (hno : ∀ j (hj : j < xs.length), k < j → ¬ m ≤ xs[j].2) : fitAt xs m = some k := by
  refine fit_some (x := ⟨k, hk⟩) (pre := (rev xs.length).take (xs.length - (k + 1))) ?_ (fun y hy => ?_) hx
  · rw [← rev_take hk]
    exact List.take_prefix _ _
  · obtain ⟨i, hi, rfl⟩ := List.mem_iff_getElem.1 hy
    rw [List.length_take, rev_len] at hi
    rw [List.getElem_take, rev_get (by omega)]
    exact hno _ (by omega) (by show k < xs.length - 1 - i; omega)
theorem fit_no {xs : List (Int × Int)} {m : Int} (hno : ∀ j (hj : j < xs.length), ¬ m ≤ xs[j].2) : fitAt xs m = none := fit_none (fun x _ => hno x.1 x.2)
/-- what a push does -/
def pushL (S : Sp) (L : Lk) (sz m : Int) : ((Int × Int) × Int) × Sp × Lk :=
  if m < 1 ∨ 65536 < m then (((0, 0), 240), S, L) else
  match fitAt L.kept m with
  | some i => (((L.kept[i]?.getD (0, 0)), 0), S, ⟨L.live ++ [L.kept[i]?.getD (0, 0)], L.kept.eraseIdx i⟩)
  | none => if (S.take (max sz m)).1.2 = 0 then ((((S.take (max sz m)).1.1, max sz m), 0), (S.take (max sz m)).2, ⟨L.live ++ [((S.take (max sz m)).1.1, max sz m)], L.kept⟩)
    else (((0, 0), (S.take (max sz m)).1.2), (S.take (max sz m)).2, L)
/-- what a pop does -/
def popL (S : Sp) (L : Lk) (ca : Int) : Int × Sp × Lk :=
  match L.live.getLast? with
  | none => (240, S, L)
  | some r => if (L.kept.length : Int) < ca then (0, (S.drop r.1 r.2).2, ⟨L.live.dropLast, L.kept ++ [r]⟩) else (0, (S.let_ r.1).2, ⟨L.live.dropLast, L.kept⟩)
/-- the document's link at block q -/
def qlA (q pr : Nat) (sz ca : Int) (L : Lk) : Asr :=
  Asr.ex fun lv => Asr.ex fun kv => Asr.sep (bx q (.cells #[.pointer (some ⟨pr, 0, none⟩), .int .i64 sz, .int .i64 ca, lv, kv] 131 (0, 0)))
    (Asr.sep (rw_ 0 39 2 lv L.live.length (wcells L.live)) (rw_ 0 39 2 kv L.kept.length (wcells L.kept)))
section
variable {w W : World} {F : List Asr} {q pr p b : Nat} {S R : Sp} {L : Lk} {sz ca : Int}
theorem ql_open (h : Sep w (qlA q pr sz ca L :: F) W) : ∃ ao c ak ck, Sep w (bx q (.cells #[.pointer (some ⟨pr, 0, none⟩), .int .i64 sz, .int .i64 ca, .slice ao L.live.length c, .slice ak L.kept.length ck] 131 (0, 0)) ::
    rw_ 0 39 2 (.slice ao L.live.length c) L.live.length (wcells L.live) :: rw_ 0 39 2 (.slice ak L.kept.length ck) L.kept.length (wcells L.kept) :: F) W := by
  obtain ⟨lv, h⟩ := h.exE
  obtain ⟨kv, h⟩ := h.exE
  have h1 := h.sepE
  have h2 := (h1.perm (List.Perm.swap _ _ _)).sepE
  have h3 : Sep w (_ :: _ :: _ :: F) W := h2.perm (List.Perm.trans (List.Perm.cons _ (List.Perm.swap _ _ _)) (List.Perm.swap _ _ _))
  have o1 := h3.owns (base := 0) (T := 39) (n := 2) (v := lv) (m := L.live.length) (xs := wcells L.live) (by simp)
  have o2 := h3.owns (base := 0) (T := 39) (n := 2) (v := kv) (m := L.kept.length) (xs := wcells L.kept) (by simp)
  obtain ⟨ao, c, rfl⟩ := own_shape o1
  obtain ⟨ak, ck, rfl⟩ := own_shape o2
  exact ⟨ao, c, ak, ck, h3⟩
theorem ql_close {lv kv : Value} {n m : Nat} (h : Sep w (bx q (.cells #[.pointer (some ⟨pr, 0, none⟩), .int .i64 sz, .int .i64 ca, lv, kv] 131 (0, 0)) :: rw_ 0 39 2 lv n (wcells L.live) :: rw_ 0 39 2 kv m (wcells L.kept) :: F) W) (hn : n = L.live.length) (hm : m = L.kept.length) : Sep w (qlA q pr sz ca L :: F) W := by
  subst hn hm
  refine Sep.exI lv (Sep.exI kv (Sep.sepI ?_))
  refine Sep.perm ?_ (List.Perm.swap _ _ _)
  refine Sep.sepI ?_
  exact h.perm (List.Perm.trans (List.Perm.swap _ _ _) (List.Perm.cons _ (List.Perm.swap _ _ _)))
theorem max_cases (sz m : Int) : (sz ≤ m ∧ max sz m = m) ∨ (¬ sz ≤ m ∧ max sz m = sz) := by omega
/-- Push, beside other parts -/
theorem push_sep (h : Sep w (spA p S :: lkA b p sz ca L :: F) W) (m : Int) (hll : L.live.length ≤ 1000000) (hkl : L.kept.length ≤ 1000000) (hla : S.last ≤ 1152921504606846976) :
    Calls Try.prog 31 #[.pointer (some ⟨b, 0, none⟩), .int .i64 m] W fun e w' => Sep w (spA p (pushL S L sz m).2.1 :: lkA b p sz ca (pushL S L sz m).2.2 :: F) w' ∧ e = .returned (.tuple #[.agg #[.int .i64 (pushL S L sz m).1.1.1, .int .i64 (pushL S L sz m).1.1.2], .int .i64 (pushL S L sz m).1.2]) := by
  refine (h.seg (R := fun e S' L' => S' = (pushL S L sz m).2.1 ∧ L' = (pushL S L sz m).2.2 ∧ e = .returned (.tuple #[.agg #[.int .i64 (pushL S L sz m).1.1.1, .int .i64 (pushL S L sz m).1.1.2], .int .i64 (pushL S L sz m).1.2])) (fun E h' => ?_)).mono ?_
  · by_cases hm : m < 1 ∨ 65536 < m
    · refine (push_no h' m hm).mono ?_
      rintro e w' ⟨q1, q2, rfl⟩
      unfold pushL
      rw [if_pos hm]
      exact ⟨_, _, q1, rfl, rfl, rfl⟩
    · unfold pushL
      rw [if_neg hm]
      have hm' : 1 ≤ m ∧ m ≤ 65536 := by omega
      cases hf : fitAt L.kept m with
      | some i =>
        obtain ⟨hi, hy⟩ := fit_spec hf
        have hy0 : L.kept[i]? = some (L.kept[i].1, L.kept[i].2) := by rw [List.getElem?_eq_getElem hi]
        refine (push_fit h' m hm' hll hkl hf hy0).mono ?_
        rintro e w' ⟨q1, rfl⟩
        refine ⟨_, _, q1, rfl, ?_, ?_⟩
        · simp [List.getElem?_eq_getElem hi]
        · simp [List.getElem?_eq_getElem hi]
      | none =>
        obtain ⟨⟨nb, er⟩, ht⟩ : ∃ t, (S.take (max sz m)).1 = t := ⟨_, rfl⟩
        refine (push_take1 h' m (max sz m) hm' (max_cases sz m) hll hkl hf hla ht).mono ?_
        rintro e w' (⟨rfl, q1, rfl⟩ | ⟨he, q1, rfl⟩)
        · refine ⟨_, _, q1, ?_, ?_, ?_⟩ <;> simp [ht]
        · refine ⟨_, _, q1, ?_, ?_, ?_⟩ <;> simp [ht, he]
  · rintro e w' ⟨S', L', q, rfl, rfl, rfl⟩
    exact ⟨q, rfl⟩
/-- Pop, beside other parts -/
theorem pop_sep (h : Sep w (spA p S :: lkA b p sz ca L :: F) W) (hll : L.live.length ≤ 1000000) (hkl : L.kept.length ≤ 1000000) :
    Calls Try.prog 32 #[.pointer (some ⟨b, 0, none⟩)] W fun e w' => Sep w (spA p (popL S L ca).2.1 :: lkA b p sz ca (popL S L ca).2.2 :: F) w' ∧ e = .returned (.int .i64 (popL S L ca).1) := by
  refine (h.seg (R := fun e S' L' => S' = (popL S L ca).2.1 ∧ L' = (popL S L ca).2.2 ∧ e = .returned (.int .i64 (popL S L ca).1)) (fun E h' => ?_)).mono ?_
  · by_cases hn : L.live = []
    · refine (pop_none h' hn).mono ?_
      rintro e w' ⟨q1, q2, rfl⟩
      unfold popL
      rw [hn]
      exact ⟨_, _, q1, rfl, rfl, rfl⟩
    · obtain ⟨pre, x, hpx, hy⟩ := topOf_some hn
      have hg : L.live.getLast? = some x := by rw [hpx]; simp
      unfold popL
      rw [hg]
      simp only
      by_cases hca : (L.kept.length : Int) < ca
      · rw [if_pos hca]
        refine (pop_keep h' hll hkl hy hca).mono ?_
        rintro e w' ⟨q1, rfl⟩
        exact ⟨_, _, q1, rfl, rfl, rfl⟩
      · rw [if_neg hca]
        refine (pop_let h' hll hkl hy hca).mono ?_
        rintro e w' ⟨q1, rfl⟩
        exact ⟨_, _, q1, rfl, rfl, rfl⟩
  · rintro e w' ⟨S', L', q, rfl, rfl, rfl⟩
    exact ⟨q, rfl⟩
end
end Go.Proofs.Ytkooogllajmkeaa
