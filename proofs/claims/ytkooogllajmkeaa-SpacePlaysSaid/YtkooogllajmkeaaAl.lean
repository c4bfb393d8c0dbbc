import Derived.Test.YtkooogllajmkeaaSa
import Derived.Outline
import Derived.Deep.RegionHeld3
import Derived.Deep.AppendLies
import Derived.Deep.DeepCutAuto
import Derived.RegionTactic
import Derived.BigRegion
import Derived.Laws.StructEq
namespace Go.Proofs.Ytkooogllajmkeaa
open Go.RowKit
set_option pp.deepTerms true
theorem seven_any (w : World) : Calls Try.prog 26 #[] w fun e w' => e = .returned (.agg #[.int .i64 1, .int .i64 7]) ∧ Below w.heap.size w w' := by
  go_enter Try.func26, Try.ntmps26
  go_wp2
  exact bodyPost_ret (v := .agg #[.int .i64 1, .int .i64 7]) (by simp [results, Try.results26, go_sem]) rfl ⟨rfl, (Below.refl _ _).alloc (Nat.le_refl _) _⟩

/-- a space that nobody made -/
theorem Spc.zero (w : World) : Spc (w.alloc (.cells #[.slice none 0 0, .int .i64 0] 27)) w.heap.size ⟨[], 0⟩ [w.heap.size] := by
  refine ⟨.slice none 0 0, [], ⟨heap_alloc_new w _, World.ownsRow_nil _ _ _ _, by simp, by simp [foot, Value.ownBlock]⟩, ⟨by simp, by simp, by simp, by simp, by simp⟩, rfl, by simp [foot, Value.ownBlock]⟩

namespace Al
def a0 : Sp := ⟨[], 0⟩
def a1 : Sp := ⟨[⟨1, [(0, 0), (0, 0), (0, 0)]⟩], 3⟩
def a2 : Sp := ⟨[⟨1, [(0, 0), (0, 0), (0, 0)]⟩, ⟨5, [(0, 0)]⟩], 5⟩
def a3 : Sp := ⟨[⟨1, [(0, 0), (0, 0), (1, 7)]⟩, ⟨5, [(0, 0)]⟩], 5⟩
def a4 : Sp := ⟨[⟨5, [(0, 0)]⟩], 5⟩
def a5 : Sp := ⟨[⟨5, [(0, 0)]⟩, ⟨7, [(0, 0), (0, 0)]⟩], 8⟩
theorem t0 : a0.take 3 = ((1, 0), a1) := by rfl
theorem t1 : a1.take 1 = ((5, 0), a2) := by rfl
theorem t2 : a2.put 3 (1, 7) = (0, a3) := by rfl
theorem t3 : a3.get 3 = ((1, 7), 0) := by rfl
theorem t4 : a3.get 2 = ((0, 0), 212) := by rfl
theorem t5 : a3.get 4 = ((0, 0), 210) := by rfl
theorem t6 : a3.let_ 1 = (0, a4) := by rfl
theorem t7 : a4.get 3 = ((0, 0), 210) := by rfl
theorem t8 : a4.take 2 = ((7, 0), a5) := by rfl
end Al

/-- a space of the call's own, in block p, made since w; E: other blocks of the call's own, with what they hold -/
def Loc (w : World) (p : Nat) (S : Sp) (E : List (Nat × Obj)) (W : World) : Prop := ∃ fs, Spc W p S fs ∧ (∀ b ∈ fs, w.heap.size ≤ b) ∧ Below w.heap.size w W ∧ ∀ x ∈ E, x.1 ∉ fs ∧ W.heap[x.1]? = some x.2

theorem Kp.to_below {w W W' : World} {fs : List Nat} (k : Kp fs W W') (hb : Below w.heap.size w W) (hf : ∀ b ∈ fs, w.heap.size ≤ b) : Below w.heap.size w W' :=
  hb.trans ⟨k.os, k.tape, k.output, k.size, fun i hi => k.block i (Nat.lt_of_lt_of_le hi hb.size) (fun q => by have := hf i q; omega)⟩
theorem Loc.stp {w W W' : World} {p : Nat} {S' : Sp} {E : List (Nat × Obj)} {fs : List Nat} (hf : ∀ b ∈ fs, w.heap.size ≤ b) (hb : Below w.heap.size w W) (hE : ∀ x ∈ E, x.1 ∉ fs ∧ W.heap[x.1]? = some x.2) (hs : Stp W p fs S' W') : Loc w p S' E W' := by
  obtain ⟨fs', h1, h2, h3⟩ := hs
  refine ⟨fs', h1, fun b hb' => (h3 b hb').elim (hf b) (fun q => Nat.le_trans hb.size q), h2.to_below hb hf, fun x hx => ⟨fun q => ?_, h2.at (hE x hx).2 (hE x hx).1⟩⟩
  rcases h3 _ q with q | q
  · exact (hE x hx).1 q
  · have := lt_of_heap (hE x hx).2; omega
theorem Loc.keep {w W W' : World} {p : Nat} {S : Sp} {E : List (Nat × Obj)} (h : Loc w p S E W) (k : Below W.heap.size W W') : Loc w p S E W' := by
  obtain ⟨fs, h1, h2, h3, h4⟩ := h
  exact ⟨fs, h1.below k, h2, h3.trans (k.mono h3.size), fun x hx => ⟨(h4 x hx).1, below_at k (h4 x hx).2 (lt_of_heap (h4 x hx).2)⟩⟩
theorem Loc.size {w W : World} {p : Nat} {S : Sp} {E : List (Nat × Obj)} (h : Loc w p S E W) : Below w.heap.size w W := let ⟨_, _, _, q, _⟩ := h; q
theorem Loc.zero (w : World) : Loc w w.heap.size ⟨[], 0⟩ [] (w.alloc (.cells #[.slice none 0 0, .int .i64 0] 27)) := ⟨_, Spc.zero w, by simp, (Below.refl _ _).alloc (Nat.le_refl _) _, by simp⟩
/-- a new block of the call's own -/
theorem Loc.alloc {w W : World} {p : Nat} {S : Sp} {E : List (Nat × Obj)} (h : Loc w p S E W) (o : Obj) : Loc w p S ((W.heap.size, o) :: E) (W.alloc o) := by
  have hk := h.keep ((Below.refl W.heap.size W).alloc (Nat.le_refl _) o)
  obtain ⟨fs, h1, h2, h3, h4⟩ := hk
  obtain ⟨fs0, q1, q2, q3, q4⟩ := h
  refine ⟨fs0, q1.below ((Below.refl W.heap.size W).alloc (Nat.le_refl _) o), q2, h3, fun x hx => ?_⟩
  rcases List.mem_cons.1 hx with rfl | hx
  · exact ⟨fun q => by have := q1.lt _ q; omega, heap_alloc_new W o⟩
  · exact ⟨(q4 x hx).1, (h4 x hx).2⟩
theorem Loc.box {w W : World} {p : Nat} {S : Sp} {E : List (Nat × Obj)} (h : Loc w p S E W) {b j : Nat} {cs : Array Value} {T : TypeId} {v : Value} (hm : (b, Obj.cells cs T (0, 0)) ∈ E) (hv : cs[j]? = some v) : W.cell? ⟨b, j, none⟩ = some v := by
  obtain ⟨fs, h1, h2, h3, h4⟩ := h
  rw [cell_of_row W b j _ _ _ (h4 _ hm).2, hv]
section
variable {w W : World} {p : Nat} {S S' : Sp} {E : List (Nat × Obj)}
theorem take_loc (h : Loc w p S E W) (m : Int) (hl : S.last ≤ 1152921504606846976) {r1 r2 : Int} (he : S.take m = ((r1, r2), S')) :
    Calls Try.prog 12 #[.pointer (some ⟨p, 0, none⟩), .int .i64 m] W fun e w' => Loc w p S' E w' ∧ e = .returned (.tuple #[.int .i64 r1, .int .i64 r2]) := by
  obtain ⟨fs, h1, h2, h3, h4⟩ := h
  refine (take_spc h1 m hl).mono ?_
  rw [he]
  rintro e w' ⟨hs, rfl⟩
  exact ⟨Loc.stp h2 h3 h4 hs, rfl⟩
theorem let_loc (h : Loc w p S E W) (a : Int) {r : Int} (he : S.let_ a = (r, S')) :
    Calls Try.prog 13 #[.pointer (some ⟨p, 0, none⟩), .int .i64 a] W fun e w' => Loc w p S' E w' ∧ e = .returned (.int .i64 r) := by
  obtain ⟨fs, h1, h2, h3, h4⟩ := h
  refine (let_spc h1 a).mono ?_
  rw [he]
  rintro e w' ⟨hs, rfl⟩
  exact ⟨Loc.stp h2 h3 h4 hs, rfl⟩
theorem put_loc (h : Loc w p S E W) (a t n : Int) {r : Int} (he : S.put a (t, n) = (r, S')) :
    Calls Try.prog 17 #[.pointer (some ⟨p, 0, none⟩), .int .i64 a, .agg #[.int .i64 t, .int .i64 n]] W fun e w' => Loc w p S' E w' ∧ e = .returned (.int .i64 r) := by
  obtain ⟨fs, h1, h2, h3, h4⟩ := h
  refine (put_spc h1 a t n).mono ?_
  rw [he]
  rintro e w' ⟨hs, rfl⟩
  exact ⟨Loc.stp h2 h3 h4 hs, rfl⟩
theorem drop_loc (h : Loc w p S E W) (a m : Int) {r : Int} (he : S.drop a m = (r, S')) :
    Calls Try.prog 18 #[.pointer (some ⟨p, 0, none⟩), .int .i64 a, .int .i64 m] W fun e w' => Loc w p S' E w' ∧ e = .returned (.int .i64 r) := by
  obtain ⟨fs, h1, h2, h3, h4⟩ := h
  refine (drop_spc h1 a m).mono ?_
  rw [he]
  rintro e w' ⟨hs, rfl⟩
  exact ⟨Loc.stp h2 h3 h4 hs, rfl⟩
theorem move_loc (h : Loc w p S E W) (b a m : Int) {r : Int} (he : S.move b a m = (r, S')) :
    Calls Try.prog 23 #[.pointer (some ⟨p, 0, none⟩), .int .i64 b, .int .i64 a, .int .i64 m] W fun e w' => Loc w p S' E w' ∧ e = .returned (.int .i64 r) := by
  obtain ⟨fs, h1, h2, h3, h4⟩ := h
  refine (move_spc h1 b a m).mono ?_
  rw [he]
  rintro e w' ⟨hs, rfl⟩
  exact ⟨Loc.stp h2 h3 h4 hs, rfl⟩
theorem get_loc (h : Loc w p S E W) (a : Int) {t n r : Int} (he : S.get a = ((t, n), r)) :
    Calls Try.prog 19 #[.pointer (some ⟨p, 0, none⟩), .int .i64 a] W fun e w' => Loc w p S E w' ∧ e = .returned (.tuple #[.agg #[.int .i64 t, .int .i64 n], .int .i64 r]) := by
  have h0 := h
  obtain ⟨fs, h1, h2, h3, h4⟩ := h
  refine (get_spc h1 a).mono ?_
  rw [he]
  rintro e w' ⟨hb, rfl⟩
  exact ⟨h0.keep hb, rfl⟩
theorem of_loc (h : Loc w p S E W) (a : Int) {b k : Int} {is : Bool} (he : S.of a = ((b, k), is)) :
    Calls Try.prog 15 #[.pointer (some ⟨p, 0, none⟩), .int .i64 a] W fun e w' => Loc w p S E w' ∧ e = .returned (.tuple #[.agg #[.int .i64 b, .int .i64 k], .bool is]) := by
  have h0 := h
  obtain ⟨fs, h1, h2, h3, h4⟩ := h
  refine (find_of h1 a).mono ?_
  rw [he]
  rintro e w' ⟨hb, rfl⟩
  exact ⟨h0.keep hb, rfl⟩
theorem run_loc_none (h : Loc w p S E W) (a m : Int) {r : Int} (he : S.run a m = (none, r)) :
    Calls Try.prog 24 #[.pointer (some ⟨p, 0, none⟩), .int .i64 a, .int .i64 m] W fun e w' => Loc w p S E w' ∧ e = .returned (.tuple #[.slice none 0 0, .int .i64 r]) := by
  have h0 := h
  obtain ⟨fs, h1, h2, h3, h4⟩ := h
  refine (run_spc h1 a m).mono ?_
  rw [he]
  rintro e w' ⟨hb, hr⟩
  exact ⟨h0.keep hb, hr⟩
theorem run_loc_some (h : Loc w p S E W) (a m : Int) {l : List (Int × Int)} {r : Int} (he : S.run a m = (some l, r)) :
    Calls Try.prog 24 #[.pointer (some ⟨p, 0, none⟩), .int .i64 a, .int .i64 m] W fun e w' => Loc w p S E w' ∧ ∃ v, Rd w' v l ∧ (∃ g c, v = .slice (some ⟨g, 0, none⟩) l.length c ∧ W.heap.size ≤ g) ∧ e = .returned (.tuple #[v, .int .i64 r]) := by
  have h0 := h
  obtain ⟨fs, h1, h2, h3, h4⟩ := h
  refine (run_spc h1 a m).mono ?_
  rw [he]
  rintro e w' ⟨hb, g, c, hrow, rfl⟩
  exact ⟨h0.keep hb, _, Rd.of_row hrow rfl, ⟨g, c, rfl, (hrow.lt g rfl).1⟩, rfl⟩
theorem live_loc (h : Loc w p S E W) {n : Nat} (he : total S.regs = n) :
    Calls Try.prog 16 #[.pointer (some ⟨p, 0, none⟩)] W fun e w' => Loc w p S E w' ∧ e = .returned (.int .i64 n) := by
  have h0 := h
  obtain ⟨fs, h1, h2, h3, h4⟩ := h
  refine (live_spc h1).mono ?_
  rw [he]
  rintro e w' ⟨rfl, hb⟩
  exact ⟨h0.keep hb, rfl⟩
theorem regions_loc (h : Loc w p S E W) {l : List (Int × Int)} (he : tells S.regs = l) :
    Calls Try.prog 14 #[.pointer (some ⟨p, 0, none⟩)] W fun e w' => Loc w p S E w' ∧ ∃ v, Rd w' v l ∧ e = .returned v := by
  have h0 := h
  obtain ⟨fs, h1, h2, h3, h4⟩ := h
  refine (regions_spc h1).mono ?_
  rw [he]
  rintro e w' ⟨hb, v, rfl, hrow, _⟩
  exact ⟨h0.keep hb, v, Rd.of_row hrow (by rw [← he]; simp [tells]), rfl⟩
end

set_option maxRecDepth 100000 in
set_option maxHeartbeats 1000000 in
theorem alive21_any (w : World) : Calls Try.prog 10 #[] w fun e w' => e = .returned (.bool true) ∧ Below w.heap.size w w' := by
  have h0 := Loc.zero w
  go_enter Try.func10, Try.ntmps10
  go_wp2_with fail
  refine (take_loc (w := w) (E := ?e1) ?h1 3 (by decide) Al.t0).mono ?k1
  case h1 => first | exact h0 | exact Loc.alloc h0 _ | exact Loc.alloc (Loc.alloc h0 _) _ | exact Loc.alloc (Loc.alloc (Loc.alloc h0 _) _) _
  rintro e w1 ⟨h1, rfl⟩
  clear h0; have h0 := h1; clear h1
  go_wp2_with fail
  refine (take_loc (w := w) (E := ?e2) ?h2 1 (by decide) Al.t1).mono ?k2
  case h2 => first | exact h0 | exact Loc.alloc h0 _ | exact Loc.alloc (Loc.alloc h0 _) _ | exact Loc.alloc (Loc.alloc (Loc.alloc h0 _) _) _
  rintro e w2 ⟨h1, rfl⟩
  clear h0; have h0 := h1; clear h1
  go_wp2_with fail
  refine (seven_any _).mono ?_
  rintro e w3 ⟨rfl, hb⟩
  have h1 := Loc.keep (p := w.heap.size) (by repeat (first | exact h0 | apply Loc.alloc)) hb
  clear h0 hb; have h0 := h1; clear h1
  go_wp2_with fail
  refine (put_loc (w := w) (E := ?e3) ?h3 3 1 7 Al.t2).mono ?k3
  case h3 => first | exact h0 | exact Loc.alloc h0 _ | exact Loc.alloc (Loc.alloc h0 _) _ | exact Loc.alloc (Loc.alloc (Loc.alloc h0 _) _) _
  rintro e w4 ⟨h1, rfl⟩
  clear h0; have h0 := h1; clear h1
  go_wp2_with fail
  refine (get_loc (w := w) (E := ?e4) ?h4 3 Al.t3).mono ?k4
  case h4 => first | exact h0 | exact Loc.alloc h0 _ | exact Loc.alloc (Loc.alloc h0 _) _ | exact Loc.alloc (Loc.alloc (Loc.alloc h0 _) _) _
  rintro e w5 ⟨h1, rfl⟩
  clear h0; have h0 := h1; clear h1
  go_wp2_with fail
  refine (get_loc (w := w) (E := ?e5) ?h5 2 Al.t4).mono ?k5
  case h5 => first | exact h0 | exact Loc.alloc h0 _ | exact Loc.alloc (Loc.alloc h0 _) _ | exact Loc.alloc (Loc.alloc (Loc.alloc h0 _) _) _
  rintro e w6 ⟨h1, rfl⟩
  clear h0; have h0 := h1; clear h1
  go_wp2_with fail
  refine (get_loc (w := w) (E := ?e6) ?h6 4 Al.t5).mono ?k6
  case h6 => first | exact h0 | exact Loc.alloc h0 _ | exact Loc.alloc (Loc.alloc h0 _) _ | exact Loc.alloc (Loc.alloc (Loc.alloc h0 _) _) _
  rintro e w7 ⟨h1, rfl⟩
  clear h0; have h0 := h1; clear h1
  go_wp2_with fail
  refine (let_loc (w := w) (E := ?e7) ?h7 1 Al.t6).mono ?k7
  case h7 => first | exact h0 | exact Loc.alloc h0 _ | exact Loc.alloc (Loc.alloc h0 _) _ | exact Loc.alloc (Loc.alloc (Loc.alloc h0 _) _) _
  rintro e w8 ⟨h1, rfl⟩
  clear h0; have h0 := h1; clear h1
  go_wp2_with fail
  refine (get_loc (w := w) (E := ?e8) ?h8 3 Al.t7).mono ?k8
  case h8 => first | exact h0 | exact Loc.alloc h0 _ | exact Loc.alloc (Loc.alloc h0 _) _ | exact Loc.alloc (Loc.alloc (Loc.alloc h0 _) _) _
  rintro e w9 ⟨h1, rfl⟩
  clear h0; have h0 := h1; clear h1
  go_wp2_with fail
  refine (take_loc (w := w) (E := ?e9) ?h9 2 (by decide) Al.t8).mono ?k9
  case h9 => first | exact h0 | exact Loc.alloc h0 _ | exact Loc.alloc (Loc.alloc h0 _) _ | exact Loc.alloc (Loc.alloc (Loc.alloc h0 _) _) _
  rintro e w10 ⟨h1, rfl⟩
  clear h0; have h0 := h1; clear h1
  have c00 := h0.box (j := 0) (List.Mem.head _) rfl
  have c01 := h0.box (j := 1) (List.Mem.head _) rfl
  have c10 := h0.box (j := 0) (List.Mem.tail _ (List.Mem.head _)) rfl
  have c11 := h0.box (j := 1) (List.Mem.tail _ (List.Mem.head _)) rfl
  have c20 := h0.box (j := 0) (List.Mem.tail _ (List.Mem.tail _ (List.Mem.head _))) rfl
  have c21 := h0.box (j := 1) (List.Mem.tail _ (List.Mem.tail _ (List.Mem.head _))) rfl
  have c30 := h0.box (j := 0) (List.Mem.tail _ (List.Mem.tail _ (List.Mem.tail _ (List.Mem.head _)))) rfl
  have c31 := h0.box (j := 1) (List.Mem.tail _ (List.Mem.tail _ (List.Mem.tail _ (List.Mem.head _)))) rfl
  have hz := h0.size
  go_wp2_with fail
  have hdr : Below w10.heap.size w10 w10.drew := (Below.refl _ _).drew
  have b0 := h0.keep hdr
  have e0 := b0.box (j := 0) (List.Mem.tail _ (List.Mem.tail _ (List.Mem.tail _ (List.Mem.head _)))) rfl
  have e1 := b0.box (j := 1) (List.Mem.tail _ (List.Mem.tail _ (List.Mem.tail _ (List.Mem.head _)))) rfl
  have ez := b0.size
  go_region_held3 (fun W => (W.cell? ⟨w5.heap.size, 0, none⟩ = some (.int .i64 1) ∧ W.cell? ⟨w5.heap.size, 1, none⟩ = some (.int .i64 7)) ∧ Below w.heap.size w W) (first | exact ⟨⟨e0, e1⟩, ez⟩ | exact ⟨⟨d0, d1⟩, hz⟩) (first | (go_at_call 26; refine (seven_any _).mono ?_; rintro e w11 ⟨rfl, hb11⟩; have h9 := b0.keep hb11; have hz := h9.size; have d0 := h9.box (j := 0) (List.Mem.tail _ (List.Mem.tail _ (List.Mem.tail _ (List.Mem.head _)))) rfl; have d1 := h9.box (j := 1) (List.Mem.tail _ (List.Mem.tail _ (List.Mem.tail _ (List.Mem.head _)))) rfl))
  all_goals
    go_wp2
    go_ret
    exact ⟨rfl, by assumption⟩
end Go.Proofs.Ytkooogllajmkeaa
