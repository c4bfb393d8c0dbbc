/- Two spaces alike: the program's and the document's, both of the call's own; the methods' contracts over both. -/
import Derived.Test.YtkooogllajmkeaaRv
import Derived.Test.YtkooogllajmkeaaNv
namespace Go.Proofs.Ytkooogllajmkeaa
open Go.RowKit
/-- an integer of 64 bits -/
def I64 (a : Int) : Prop := -9223372036854775808 ≤ a ∧ a ≤ 9223372036854775807
theorem RSpc.kp {w w' : World} {p : Nat} {S : Sp} {fs gs : List Nat} (h : RSpc w p S gs) (k : Kp fs w w') (hd : ∀ b ∈ gs, b ∉ fs) : RSpc w' p S gs := by
  obtain ⟨rv, wv, ls, h1, h2, h3, h4, rfl⟩ := h
  exact ⟨rv, wv, ls, h1.kp k hd, h2, h3, h4, rfl⟩
theorem RSpc.below {w w' : World} {p : Nat} {S : Sp} {gs : List Nat} (h : RSpc w p S gs) (k : Below w.heap.size w w') : RSpc w' p S gs := h.kp (Kp.of_below k []) (by simp)
theorem RSpc.lt {w : World} {p : Nat} {S : Sp} {gs : List Nat} (h : RSpc w p S gs) : ∀ b ∈ gs, b < w.heap.size := by
  obtain ⟨rv, wv, ls, h1, _, _, _, rfl⟩ := h
  exact h1.lt
theorem RSpc.mem {w : World} {p : Nat} {S : Sp} {gs : List Nat} (h : RSpc w p S gs) : p ∈ gs := by
  obtain ⟨rv, wv, ls, _, _, _, _, rfl⟩ := h
  simp [rfoot]
theorem rlive_spc {w : World} {p : Nat} {S : Sp} {gs : List Nat} (h : RSpc w p S gs) : Calls Try.prog 58 #[.pointer (some ⟨p, 0, none⟩)] w fun e w' => Below w.heap.size w w' ∧ e = .returned (.int .i64 (total S.regs : Nat)) := by
  obtain ⟨rv, wv, ls, h1, h2, h3, h4, rfl⟩ := h
  rw [h4, total_map]
  exact rlive_any h1 h2
theorem rget_spc {w : World} {p : Nat} {S : Sp} {gs : List Nat} (h : RSpc w p S gs) (a : Int) (ha : I64 a) : Calls Try.prog 52 #[.pointer (some ⟨p, 0, none⟩), .int .i64 a] w fun e w' =>
    Below w.heap.size w w' ∧ e = .returned (.tuple #[.agg #[.int .i64 (S.get a).1.1, .int .i64 (S.get a).1.2], .int .i64 (S.get a).2]) := by
  obtain ⟨rv, wv, ls, h1, h2, h3, h4, rfl⟩ := h
  have := rget_any h1 h2 h3 a ha
  have e : (⟨ls.map LReg.reg, S.last⟩ : Sp) = S := by rw [← h4]
  rw [e] at this
  exact this
theorem rof_spc {w : World} {p : Nat} {S : Sp} {gs : List Nat} (h : RSpc w p S gs) (a : Int) (ha : I64 a) : Calls Try.prog 21 #[.pointer (some ⟨p, 0, none⟩), .int .i64 a] w fun e w' =>
    Below w.heap.size w w' ∧ e = .returned (.tuple #[.agg #[.int .i64 (S.of a).1.1, .int .i64 (S.of a).1.2], .bool (S.of a).2]) := by
  obtain ⟨rv, wv, ls, h1, h2, h3, h4, rfl⟩ := h
  have := rof_any h1 h2 a ha
  have e : (⟨ls.map LReg.reg, S.last⟩ : Sp) = S := by rw [← h4]
  rw [e] at this
  exact this
theorem RSpc.zero (w : World) : RSpc (w.alloc (.cells #[.slice none 0 0, .slice none 0 0, .int .i64 0] 56)) w.heap.size ⟨[], 0⟩ [w.heap.size] := by
  refine ⟨.slice none 0 0, .slice none 0 0, [], ⟨heap_alloc_new w _, World.ownsRow_nil _ _ _ _, World.ownsRow_nil _ _ _ _, by simp, by simp [rfoot, Value.ownBlock]⟩, ⟨by simp, by simp, by simp, by simp, by simp⟩, by intro r hr; simp at hr, rfl, by simp [rfoot, Value.ownBlock]⟩

/-- two spaces of the call's own; E: other blocks of the call's own, with what they hold -/
def Two (w : World) (p pr : Nat) (S R : Sp) (E : List (Nat × Obj)) (W : World) : Prop := ∃ fs gs, Spc W p S fs ∧ RSpc W pr R gs ∧ (∀ b ∈ fs, b ∉ gs) ∧ (∀ b ∈ fs, w.heap.size ≤ b) ∧ (∀ b ∈ gs, w.heap.size ≤ b) ∧ Below w.heap.size w W ∧ ∀ x ∈ E, x.1 ∉ fs ∧ x.1 ∉ gs ∧ W.heap[x.1]? = some x.2
section
variable {w W W' : World} {p pr : Nat} {S S' R R' : Sp} {E : List (Nat × Obj)} {fs gs : List Nat}
theorem Two.stp (hR : RSpc W pr R gs) (hd : ∀ b ∈ fs, b ∉ gs) (hf : ∀ b ∈ fs, w.heap.size ≤ b) (hg : ∀ b ∈ gs, w.heap.size ≤ b) (hb : Below w.heap.size w W) (hE : ∀ x ∈ E, x.1 ∉ fs ∧ x.1 ∉ gs ∧ W.heap[x.1]? = some x.2) (hs : Stp W p fs S' W') : Two w p pr S' R E W' := by
  obtain ⟨fs', h1, h2, h3⟩ := hs
  have hgl := hR.lt
  refine ⟨fs', gs, h1, hR.kp h2 (fun b hb q => hd b q hb), fun b hb' q => ?_, fun b hb' => (h3 b hb').elim (hf b) (fun q => Nat.le_trans hb.size q), hg, h2.to_below hb hf, fun x hx => ⟨fun q => ?_, (hE x hx).2.1, h2.at (hE x hx).2.2 (hE x hx).1⟩⟩
  · rcases h3 b hb' with c | c
    · exact hd b c q
    · have := hgl b q; omega
  · rcases h3 _ q with q | q
    · exact (hE x hx).1 q
    · have := lt_of_heap (hE x hx).2.2; omega
theorem Two.rstp (hS : Spc W p S fs) (hd : ∀ b ∈ fs, b ∉ gs) (hf : ∀ b ∈ fs, w.heap.size ≤ b) (hg : ∀ b ∈ gs, w.heap.size ≤ b) (hb : Below w.heap.size w W) (hE : ∀ x ∈ E, x.1 ∉ fs ∧ x.1 ∉ gs ∧ W.heap[x.1]? = some x.2) (hs : RStp W pr gs R' W') : Two w p pr S R' E W' := by
  obtain ⟨gs', h1, h2, h3⟩ := hs
  have hfl := hS.lt
  refine ⟨fs, gs', hS.kp h2 hd, h1, fun b hb' q => ?_, hf, fun b hb' => (h3 b hb').elim (hg b) (fun q => Nat.le_trans hb.size q), h2.to_below hb hg, fun x hx => ⟨(hE x hx).1, fun q => ?_, h2.at (hE x hx).2.2 (hE x hx).2.1⟩⟩
  · rcases h3 b q with c | c
    · exact hd b hb' c
    · have := hfl b hb'; omega
  · rcases h3 _ q with q | q
    · exact (hE x hx).2.1 q
    · have := lt_of_heap (hE x hx).2.2; omega
theorem Two.keep (h : Two w p pr S R E W) (k : Below W.heap.size W W') : Two w p pr S R E W' := by
  obtain ⟨fs, gs, h1, h2, h3, h4, h5, h6, h7⟩ := h
  exact ⟨fs, gs, h1.below k, h2.below k, h3, h4, h5, h6.trans (k.mono h6.size), fun x hx => ⟨(h7 x hx).1, (h7 x hx).2.1, below_at k (h7 x hx).2.2 (lt_of_heap (h7 x hx).2.2)⟩⟩
theorem Two.size (h : Two w p pr S R E W) : Below w.heap.size w W := let ⟨_, _, _, _, _, _, _, q, _⟩ := h; q
theorem Two.alloc (h : Two w p pr S R E W) (o : Obj) : Two w p pr S R ((W.heap.size, o) :: E) (W.alloc o) := by
  have hk := h.keep ((Below.refl W.heap.size W).alloc (Nat.le_refl _) o)
  obtain ⟨fs0, gs0, q1, q2, q3, q4, q5, q6, q7⟩ := h
  have hb := (Below.refl W.heap.size W).alloc (Nat.le_refl _) o
  refine ⟨fs0, gs0, q1.below hb, q2.below hb, q3, q4, q5, hk.size, fun x hx => ?_⟩
  rcases List.mem_cons.1 hx with rfl | hx
  · exact ⟨fun q => by have := q1.lt _ q; omega, fun q => by have := q2.lt _ q; omega, heap_alloc_new W o⟩
  · exact ⟨(q7 x hx).1, (q7 x hx).2.1, below_at hb (q7 x hx).2.2 (lt_of_heap (q7 x hx).2.2)⟩
theorem Two.box (h : Two w p pr S R E W) {b j : Nat} {cs : Array Value} {T : TypeId} {v : Value} (hm : (b, Obj.cells cs T (0, 0)) ∈ E) (hv : cs[j]? = some v) : W.cell? ⟨b, j, none⟩ = some v := by
  obtain ⟨fs, gs, h1, h2, h3, h4, h5, h6, h7⟩ := h
  rw [cell_of_row W b j _ _ _ (h7 _ hm).2.2, hv]
theorem Two.free (h : Two w p pr S R E W) {b : Nat} {cs : Array Value} {T : TypeId} (hm : (b, Obj.cells cs T (0, 0)) ∈ E) (j : Nat) : W.frozen? ⟨b, j, none⟩ = false := by
  obtain ⟨fs, gs, h1, h2, h3, h4, h5, h6, h7⟩ := h
  exact frozen_of_row W b j _ _ (h7 _ hm).2.2
theorem Two.sub (h : Two w p pr S R E W) {E' : List (Nat × Obj)} (hs : ∀ x ∈ E', x ∈ E) : Two w p pr S R E' W := by
  obtain ⟨fs, gs, h1, h2, h3, h4, h5, h6, h7⟩ := h
  exact ⟨fs, gs, h1, h2, h3, h4, h5, h6, fun x hx => h7 x (hs x hx)⟩
theorem take_two (h : Two w p pr S R E W) (m : Int) (hl : S.last ≤ 1152921504606846976) : Calls Try.prog 12 #[.pointer (some ⟨p, 0, none⟩), .int .i64 m] W fun e w' => Two w p pr (S.take m).2 R E w' ∧ e = .returned (.tuple #[.int .i64 (S.take m).1.1, .int .i64 (S.take m).1.2]) := by
  obtain ⟨fs, gs, h1, h2, h3, h4, h5, h6, h7⟩ := h
  refine (take_spc h1 m hl).mono ?_
  rintro e w' ⟨hs, rfl⟩
  exact ⟨Two.stp h2 h3 h4 h5 h6 h7 hs, rfl⟩
theorem rtake_two (h : Two w p pr S R E W) (m : Int) (hl : R.last ≤ 1152921504606846976) : Calls Try.prog 49 #[.pointer (some ⟨pr, 0, none⟩), .int .i64 m] W fun e w' => Two w p pr S (R.take m).2 E w' ∧ e = .returned (.tuple #[.int .i64 (R.take m).1.1, .int .i64 (R.take m).1.2]) := by
  obtain ⟨fs, gs, h1, h2, h3, h4, h5, h6, h7⟩ := h
  refine (rtake_spc h2 m hl).mono ?_
  rintro e w' ⟨hs, rfl⟩
  exact ⟨Two.rstp h1 h3 h4 h5 h6 h7 hs, rfl⟩
theorem let_two (h : Two w p pr S R E W) (a : Int) : Calls Try.prog 13 #[.pointer (some ⟨p, 0, none⟩), .int .i64 a] W fun e w' => Two w p pr (S.let_ a).2 R E w' ∧ e = .returned (.int .i64 (S.let_ a).1) := by
  obtain ⟨fs, gs, h1, h2, h3, h4, h5, h6, h7⟩ := h
  refine (let_spc h1 a).mono ?_
  rintro e w' ⟨hs, rfl⟩
  exact ⟨Two.stp h2 h3 h4 h5 h6 h7 hs, rfl⟩
theorem rlet_two (h : Two w p pr S R E W) (a : Int) : Calls Try.prog 50 #[.pointer (some ⟨pr, 0, none⟩), .int .i64 a] W fun e w' => Two w p pr S (R.let_ a).2 E w' ∧ e = .returned (.int .i64 (R.let_ a).1) := by
  obtain ⟨fs, gs, h1, h2, h3, h4, h5, h6, h7⟩ := h
  refine (rlet_spc h2 a).mono ?_
  rintro e w' ⟨hs, rfl⟩
  exact ⟨Two.rstp h1 h3 h4 h5 h6 h7 hs, rfl⟩
theorem put_two (h : Two w p pr S R E W) (a t n : Int) : Calls Try.prog 17 #[.pointer (some ⟨p, 0, none⟩), .int .i64 a, .agg #[.int .i64 t, .int .i64 n]] W fun e w' => Two w p pr (S.put a (t, n)).2 R E w' ∧ e = .returned (.int .i64 (S.put a (t, n)).1) := by
  obtain ⟨fs, gs, h1, h2, h3, h4, h5, h6, h7⟩ := h
  refine (put_spc h1 a t n).mono ?_
  rintro e w' ⟨hs, rfl⟩
  exact ⟨Two.stp h2 h3 h4 h5 h6 h7 hs, rfl⟩
theorem rput_two (h : Two w p pr S R E W) (a t n : Int) (ha : I64 a) : Calls Try.prog 51 #[.pointer (some ⟨pr, 0, none⟩), .int .i64 a, .agg #[.int .i64 t, .int .i64 n]] W fun e w' => Two w p pr S (R.put a (t, n)).2 E w' ∧ e = .returned (.int .i64 (R.put a (t, n)).1) := by
  obtain ⟨fs, gs, h1, h2, h3, h4, h5, h6, h7⟩ := h
  refine (rput_spc h2 a t n ha).mono ?_
  rintro e w' ⟨hs, rfl⟩
  exact ⟨Two.rstp h1 h3 h4 h5 h6 h7 hs, rfl⟩
theorem drop_two (h : Two w p pr S R E W) (a m : Int) : Calls Try.prog 18 #[.pointer (some ⟨p, 0, none⟩), .int .i64 a, .int .i64 m] W fun e w' => Two w p pr (S.drop a m).2 R E w' ∧ e = .returned (.int .i64 (S.drop a m).1) := by
  obtain ⟨fs, gs, h1, h2, h3, h4, h5, h6, h7⟩ := h
  refine (drop_spc h1 a m).mono ?_
  rintro e w' ⟨hs, rfl⟩
  exact ⟨Two.stp h2 h3 h4 h5 h6 h7 hs, rfl⟩
theorem rdrop_two (h : Two w p pr S R E W) (a m : Int) (ha : I64 a) : Calls Try.prog 53 #[.pointer (some ⟨pr, 0, none⟩), .int .i64 a, .int .i64 m] W fun e w' => Two w p pr S (R.drop a m).2 E w' ∧ e = .returned (.int .i64 (R.drop a m).1) := by
  obtain ⟨fs, gs, h1, h2, h3, h4, h5, h6, h7⟩ := h
  refine (rdrop_spc h2 a m ha).mono ?_
  rintro e w' ⟨hs, rfl⟩
  exact ⟨Two.rstp h1 h3 h4 h5 h6 h7 hs, rfl⟩
theorem move_two (h : Two w p pr S R E W) (b a m : Int) : Calls Try.prog 23 #[.pointer (some ⟨p, 0, none⟩), .int .i64 b, .int .i64 a, .int .i64 m] W fun e w' => Two w p pr (S.move b a m).2 R E w' ∧ e = .returned (.int .i64 (S.move b a m).1) := by
  obtain ⟨fs, gs, h1, h2, h3, h4, h5, h6, h7⟩ := h
  refine (move_spc h1 b a m).mono ?_
  rintro e w' ⟨hs, rfl⟩
  exact ⟨Two.stp h2 h3 h4 h5 h6 h7 hs, rfl⟩
theorem rmove_two (h : Two w p pr S R E W) (b a m : Int) (hb : I64 b) (ha : I64 a) : Calls Try.prog 54 #[.pointer (some ⟨pr, 0, none⟩), .int .i64 b, .int .i64 a, .int .i64 m] W fun e w' => Two w p pr S (R.move b a m).2 E w' ∧ e = .returned (.int .i64 (R.move b a m).1) := by
  obtain ⟨fs, gs, h1, h2, h3, h4, h5, h6, h7⟩ := h
  refine (rmove_spc h2 b a m hb ha).mono ?_
  rintro e w' ⟨hs, rfl⟩
  exact ⟨Two.rstp h1 h3 h4 h5 h6 h7 hs, rfl⟩
theorem get_two (h : Two w p pr S R E W) (a : Int) : Calls Try.prog 19 #[.pointer (some ⟨p, 0, none⟩), .int .i64 a] W fun e w' => Two w p pr S R E w' ∧ Below W.heap.size W w' ∧ e = .returned (.tuple #[.agg #[.int .i64 (S.get a).1.1, .int .i64 (S.get a).1.2], .int .i64 (S.get a).2]) := by
  have h0 := h
  obtain ⟨fs, gs, h1, h2, h3, h4, h5, h6, h7⟩ := h
  refine (get_spc h1 a).mono ?_
  rintro e w' ⟨hb, rfl⟩
  exact ⟨h0.keep hb, hb, rfl⟩
theorem rget_two (h : Two w p pr S R E W) (a : Int) (ha : I64 a) : Calls Try.prog 52 #[.pointer (some ⟨pr, 0, none⟩), .int .i64 a] W fun e w' => Two w p pr S R E w' ∧ Below W.heap.size W w' ∧ e = .returned (.tuple #[.agg #[.int .i64 (R.get a).1.1, .int .i64 (R.get a).1.2], .int .i64 (R.get a).2]) := by
  have h0 := h
  obtain ⟨fs, gs, h1, h2, h3, h4, h5, h6, h7⟩ := h
  refine (rget_spc h2 a ha).mono ?_
  rintro e w' ⟨hb, rfl⟩
  exact ⟨h0.keep hb, hb, rfl⟩
theorem of_two (h : Two w p pr S R E W) (a : Int) : Calls Try.prog 15 #[.pointer (some ⟨p, 0, none⟩), .int .i64 a] W fun e w' => Two w p pr S R E w' ∧ Below W.heap.size W w' ∧ e = .returned (.tuple #[.agg #[.int .i64 (S.of a).1.1, .int .i64 (S.of a).1.2], .bool (S.of a).2]) := by
  have h0 := h
  obtain ⟨fs, gs, h1, h2, h3, h4, h5, h6, h7⟩ := h
  refine (find_of h1 a).mono ?_
  rintro e w' ⟨hb, rfl⟩
  exact ⟨h0.keep hb, hb, rfl⟩
theorem rof_two (h : Two w p pr S R E W) (a : Int) (ha : I64 a) : Calls Try.prog 21 #[.pointer (some ⟨pr, 0, none⟩), .int .i64 a] W fun e w' => Two w p pr S R E w' ∧ Below W.heap.size W w' ∧ e = .returned (.tuple #[.agg #[.int .i64 (R.of a).1.1, .int .i64 (R.of a).1.2], .bool (R.of a).2]) := by
  have h0 := h
  obtain ⟨fs, gs, h1, h2, h3, h4, h5, h6, h7⟩ := h
  refine (rof_spc h2 a ha).mono ?_
  rintro e w' ⟨hb, rfl⟩
  exact ⟨h0.keep hb, hb, rfl⟩
theorem live_two (h : Two w p pr S R E W)  : Calls Try.prog 16 #[.pointer (some ⟨p, 0, none⟩)] W fun e w' => Two w p pr S R E w' ∧ Below W.heap.size W w' ∧ e = .returned ( .int .i64 (total S.regs)) := by
  have h0 := h
  obtain ⟨fs, gs, h1, h2, h3, h4, h5, h6, h7⟩ := h
  refine (live_spc h1 ).mono ?_
  rintro e w' ⟨rfl, hb⟩
  exact ⟨h0.keep hb, hb, rfl⟩
theorem rlive_two (h : Two w p pr S R E W)  : Calls Try.prog 58 #[.pointer (some ⟨pr, 0, none⟩)] W fun e w' => Two w p pr S R E w' ∧ Below W.heap.size W w' ∧ e = .returned ( .int .i64 (total R.regs : Nat)) := by
  have h0 := h
  obtain ⟨fs, gs, h1, h2, h3, h4, h5, h6, h7⟩ := h
  refine (rlive_spc h2 ).mono ?_
  rintro e w' ⟨hb, rfl⟩
  exact ⟨h0.keep hb, hb, rfl⟩
theorem run_two (h : Two w p pr S R E W) (a m : Int) : Calls Try.prog 24 #[.pointer (some ⟨p, 0, none⟩), .int .i64 a, .int .i64 m] W fun e w' => Two w p pr S R E w' ∧ Below W.heap.size W w' ∧ RunOut W (S.run a m) e w' := by
  have h0 := h
  obtain ⟨fs, gs, h1, h2, h3, h4, h5, h6, h7⟩ := h
  refine (run_spc h1 a m).mono ?_
  rintro e w' ⟨hb, hr⟩
  exact ⟨h0.keep hb, hb, hr⟩
theorem rrun_two (h : Two w p pr S R E W) (a m : Int) (ha : I64 a) : Calls Try.prog 55 #[.pointer (some ⟨pr, 0, none⟩), .int .i64 a, .int .i64 m] W fun e w' => Two w p pr S R E w' ∧ Below W.heap.size W w' ∧ ∃ v, e = .returned (.tuple #[v, .int .i64 (R.run a m).2]) ∧ Rd w' v ((R.run a m).1.getD []) := by
  have h0 := h
  obtain ⟨fs, gs, h1, h2, h3, h4, h5, h6, h7⟩ := h
  refine (rrun_spc h2 a m ha).mono ?_
  rintro e w' ⟨hb, hr⟩
  exact ⟨h0.keep hb, hb, hr⟩
theorem regions_two (h : Two w p pr S R E W) : Calls Try.prog 14 #[.pointer (some ⟨p, 0, none⟩)] W fun e w' => Two w p pr S R E w' ∧ Below W.heap.size W w' ∧ ∃ v, Rd w' v (tells S.regs) ∧ e = .returned v := by
  have h0 := h
  obtain ⟨fs, gs, h1, h2, h3, h4, h5, h6, h7⟩ := h
  refine (regions_spc h1).mono ?_
  rintro e w' ⟨hb, v, rfl, hrow, _⟩
  exact ⟨h0.keep hb, hb, v, Rd.of_row hrow (by simp [tells]), rfl⟩
/-- the document's row of regions, as read -/
theorem Two.rrow (h : Two w p pr S R E W) : ∃ v, W.cell? ⟨pr, 0, none⟩ = some v ∧ Rd W v (tells R.regs) := by
  obtain ⟨fs, gs, h1, ⟨rv, wv, ls, h2, ok, hwd, hr, hgs⟩, h3, h4, h5, h6, h7⟩ := h
  refine ⟨rv, h2.cell0, ?_⟩
  have := h2.row
  rw [gcells_tells, ← hr] at this
  exact Rd.of_row this (by rw [hr]; simp [tells])
end
end Go.Proofs.Ytkooogllajmkeaa
