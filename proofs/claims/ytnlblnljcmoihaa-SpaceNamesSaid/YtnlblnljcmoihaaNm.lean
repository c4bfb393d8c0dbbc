import Derived.Test.YtnlblnljcmoihaaAl
import Derived.Test.YtnlblnljcmoihaaNl
import Derived.Test.YtnlblnljcmoihaaSa
import Derived.LoopN
namespace Go.Proofs.Ytnlblnljcmoihaa
open Go.RowKit
set_option pp.deepTerms true
theorem Rd.lit {w : World} {b T c : Nat} {cs : Array Value} {xs : List (Int × Int)} (h : w.heap[b]? = Option.some (Obj.cells cs T (0, 0))) (hc : cs.toList = wcells xs) : Rd w (Value.slice (Option.some ⟨b, 0, none⟩) xs.length c) xs := by
  refine .inr ⟨b, 0, c, rfl, lt_of_heap h, fun k hk => ?_⟩
  rw [Nat.zero_add, cell_of_row w b _ _ _ _ h, cell_of_row w b _ _ _ _ h, ← Array.getElem?_toList, ← Array.getElem?_toList, hc]
  exact ⟨wcells_fst hk, wcells_snd hk⟩
namespace Nm
def s0 : Sp := ⟨[], 0⟩
def s1 : Sp := ⟨[⟨1, [(0, 0), (0, 0), (0, 0), (0, 0)]⟩], 4⟩
def s2 : Sp := ⟨[⟨1, [(0, 0), (0, 0), (0, 0), (0, 0)]⟩, ⟨6, [(0, 0), (0, 0)]⟩], 7⟩
def s3 : Sp := ⟨[⟨1, [(1, 10), (0, 0), (0, 0), (0, 0)]⟩, ⟨6, [(0, 0), (0, 0)]⟩], 7⟩
def s4 : Sp := ⟨[⟨1, [(1, 10), (1, 11), (0, 0), (0, 0)]⟩, ⟨6, [(0, 0), (0, 0)]⟩], 7⟩
def s5 : Sp := ⟨[⟨1, [(1, 10), (1, 11), (1, 12), (0, 0)]⟩, ⟨6, [(0, 0), (0, 0)]⟩], 7⟩
def s6 : Sp := ⟨[⟨1, [(1, 10), (1, 11), (1, 12), (1, 13)]⟩, ⟨6, [(0, 0), (0, 0)]⟩], 7⟩
def s7 : Sp := ⟨[⟨1, [(1, 10), (1, 10), (1, 11), (1, 12)]⟩, ⟨6, [(0, 0), (0, 0)]⟩], 7⟩
def s8 : Sp := ⟨[⟨1, [(0, 0), (0, 0), (1, 11), (1, 12)]⟩, ⟨6, [(0, 0), (0, 0)]⟩], 7⟩
def s9 : Sp := ⟨[⟨1, [(0, 0), (0, 0), (0, 0), (0, 0)]⟩, ⟨6, [(0, 0), (0, 0)]⟩], 7⟩
theorem t0 : s0.take 0 = ((0, 211), s0) := by rfl
theorem t1 : s0.take 1048577 = ((0, 211), s0) := by rfl
theorem t2 : s0.take 4 = ((1, 0), s1) := by rfl
theorem t3 : s1.take 2 = ((6, 0), s2) := by rfl
theorem t4 : s2.put 1 (1, 10) = (0, s3) := by rfl
theorem t5 : s3.put 2 (1, 11) = (0, s4) := by rfl
theorem t6 : s4.put 3 (1, 12) = (0, s5) := by rfl
theorem t7 : s5.put 4 (1, 13) = (0, s6) := by rfl
theorem t8 : s6.move 2 1 3 = (0, s7) := by rfl
theorem t9 : s7.run 1 4 = (some [(1, 10), (1, 10), (1, 11), (1, 12)], 0) := by rfl
theorem t10 : s7.move 6 1 3 = (210, s7) := by rfl
theorem t11 : s7.move 1 6 2 = (0, s8) := by rfl
theorem t12 : s8.drop 6 (-1) = (210, s8) := by rfl
theorem t13 : s8.run 1 4 = (none, 212) := by rfl
theorem t14 : s8.get 1 = ((0, 0), 212) := by rfl
theorem t15 : s8.put 6 (0, 0) = (21, s8) := by rfl
theorem t16 : s8.put 8 (1, 7) = (210, s8) := by rfl
theorem t17 : s8.let_ 7 = (211, s8) := by rfl
theorem t18 : s8.run 99 0 = (none, 0) := by rfl
theorem t19 : s8.drop 1 4 = (0, s9) := by rfl
theorem t20 : s9.get 4 = ((0, 0), 212) := by rfl
theorem t21 : s9.of 4 = ((1, 4), true) := by rfl
theorem t22 : s9.of 5 = ((0, 0), false) := by rfl
theorem t23 : tells s9.regs = [(1, 4), (6, 2)] := by rfl
theorem t24 : total s9.regs = 6 := by rfl
end Nm
set_option maxRecDepth 100000 in
set_option maxHeartbeats 4000000 in
theorem names21_any (w : World) : Calls Try.prog 6 #[] w fun e w' => e = .returned (.bool true) ∧ Below w.heap.size w w' := by
  have h0 := Loc.zero w
  go_enter Try.func6, Try.ntmps6
  go_wp2_with fail
  refine (take_loc (w := w) (E := ?e1) ?h1 0 (by decide) Nm.t0).mono ?k1
  case h1 => first | exact h0 | exact Loc.alloc h0 _ | exact Loc.alloc (Loc.alloc h0 _) _ | exact Loc.alloc (Loc.alloc (Loc.alloc h0 _) _) _
  rintro e w1 ⟨h1, rfl⟩
  clear h0; have h0 := h1; clear h1
  go_wp2_with fail
  refine (take_loc (w := w) (E := ?e2) ?h2 1048577 (by decide) Nm.t1).mono ?k2
  case h2 => first | exact h0 | exact Loc.alloc h0 _ | exact Loc.alloc (Loc.alloc h0 _) _ | exact Loc.alloc (Loc.alloc (Loc.alloc h0 _) _) _
  rintro e w2 ⟨h1, rfl⟩
  clear h0; have h0 := h1; clear h1
  go_wp2_with fail
  refine (take_loc (w := w) (E := ?e3) ?h3 4 (by decide) Nm.t2).mono ?k3
  case h3 => first | exact h0 | exact Loc.alloc h0 _ | exact Loc.alloc (Loc.alloc h0 _) _ | exact Loc.alloc (Loc.alloc (Loc.alloc h0 _) _) _
  rintro e w3 ⟨h1, rfl⟩
  clear h0; have h0 := h1; clear h1
  go_wp2_with fail
  refine (take_loc (w := w) (E := ?e4) ?h4 2 (by decide) Nm.t3).mono ?k4
  case h4 => first | exact h0 | exact Loc.alloc h0 _ | exact Loc.alloc (Loc.alloc h0 _) _ | exact Loc.alloc (Loc.alloc (Loc.alloc h0 _) _) _
  rintro e w4 ⟨h1, rfl⟩
  clear h0; have h0 := h1; clear h1
  go_wp2_with fail
  refine wp_loop_rounds 5 ?_; rw [rounds_succ]
  go_wp2_with fail
  refine (put_loc (w := w) (E := ?e5) ?h5 1 1 10 Nm.t4).mono ?k5
  case h5 => first | exact h0 | exact Loc.alloc h0 _ | exact Loc.alloc (Loc.alloc h0 _) _ | exact Loc.alloc (Loc.alloc (Loc.alloc h0 _) _) _
  rintro e w5 ⟨h1, rfl⟩
  clear h0; have h0 := h1; clear h1
  go_wp2_with fail
  rw [rounds_succ]
  go_wp2_with fail
  refine (put_loc (w := w) (E := ?e6) ?h6 2 1 11 Nm.t5).mono ?k6
  case h6 => first | exact h0 | exact Loc.alloc h0 _ | exact Loc.alloc (Loc.alloc h0 _) _ | exact Loc.alloc (Loc.alloc (Loc.alloc h0 _) _) _
  rintro e w6 ⟨h1, rfl⟩
  clear h0; have h0 := h1; clear h1
  go_wp2_with fail
  rw [rounds_succ]
  go_wp2_with fail
  refine (put_loc (w := w) (E := ?e7) ?h7 3 1 12 Nm.t6).mono ?k7
  case h7 => first | exact h0 | exact Loc.alloc h0 _ | exact Loc.alloc (Loc.alloc h0 _) _ | exact Loc.alloc (Loc.alloc (Loc.alloc h0 _) _) _
  rintro e w7 ⟨h1, rfl⟩
  clear h0; have h0 := h1; clear h1
  go_wp2_with fail
  rw [rounds_succ]
  go_wp2_with fail
  refine (put_loc (w := w) (E := ?e8) ?h8 4 1 13 Nm.t7).mono ?k8
  case h8 => first | exact h0 | exact Loc.alloc h0 _ | exact Loc.alloc (Loc.alloc h0 _) _ | exact Loc.alloc (Loc.alloc (Loc.alloc h0 _) _) _
  rintro e w8 ⟨h1, rfl⟩
  clear h0; have h0 := h1; clear h1
  go_wp2_with fail
  rw [rounds_succ]
  go_wp2_with fail
  refine (move_loc (w := w) (E := ?e9) ?h9 2 1 3 Nm.t8).mono ?k9
  case h9 => first | exact h0 | exact Loc.alloc h0 _ | exact Loc.alloc (Loc.alloc h0 _) _ | exact Loc.alloc (Loc.alloc (Loc.alloc h0 _) _) _
  rintro e w9 ⟨h1, rfl⟩
  clear h0; have h0 := h1; clear h1
  go_wp2_with fail
  refine (run_loc_some (w := w) (E := ?e10) ?h10 1 4 Nm.t9).mono ?k10
  case h10 => first | exact h0 | exact Loc.alloc h0 _ | exact Loc.alloc (Loc.alloc h0 _) _ | exact Loc.alloc (Loc.alloc (Loc.alloc h0 _) _) _
  rintro e w10 ⟨h1, v10, hv10, -, rfl⟩
  clear h0; have h0 := h1; clear h1
  go_wp2_with fail
  refine (same_Same02 (xs := [(1, 10), (1, 10), (1, 11), (1, 12)]) (ys := [(1, 10), (1, 10), (1, 11), (1, 12)]) (hv10.below ((Below.refl _ _).alloc (Nat.le_refl _) _)) (Rd.lit (heap_alloc_new _ _) rfl) (by decide)).mono ?_
  rintro e w11 ⟨hb, rfl⟩
  have h1 := Loc.keep (p := w.heap.size) (by first | exact h0 | exact Loc.alloc h0 _ | exact Loc.alloc (Loc.alloc h0 _) _ | exact Loc.alloc (Loc.alloc (Loc.alloc h0 _) _) _) hb
  clear h0 hb; have h0 := h1; clear h1
  go_wp2_with fail
  refine (move_loc (w := w) (E := ?e11) ?h11 6 1 3 Nm.t10).mono ?k11
  case h11 => first | exact h0 | exact Loc.alloc h0 _ | exact Loc.alloc (Loc.alloc h0 _) _ | exact Loc.alloc (Loc.alloc (Loc.alloc h0 _) _) _
  rintro e w12 ⟨h1, rfl⟩
  clear h0; have h0 := h1; clear h1
  go_wp2_with fail
  refine (move_loc (w := w) (E := ?e12) ?h12 1 6 2 Nm.t11).mono ?k12
  case h12 => first | exact h0 | exact Loc.alloc h0 _ | exact Loc.alloc (Loc.alloc h0 _) _ | exact Loc.alloc (Loc.alloc (Loc.alloc h0 _) _) _
  rintro e w13 ⟨h1, rfl⟩
  clear h0; have h0 := h1; clear h1
  go_wp2_with fail
  refine (drop_loc (w := w) (E := ?e13) ?h13 6 (-1) Nm.t12).mono ?k13
  case h13 => first | exact h0 | exact Loc.alloc h0 _ | exact Loc.alloc (Loc.alloc h0 _) _ | exact Loc.alloc (Loc.alloc (Loc.alloc h0 _) _) _
  rintro e w14 ⟨h1, rfl⟩
  clear h0; have h0 := h1; clear h1
  go_wp2_with fail
  refine (run_loc_none (w := w) (E := ?e14) ?h14 1 4 Nm.t13).mono ?k14
  case h14 => first | exact h0 | exact Loc.alloc h0 _ | exact Loc.alloc (Loc.alloc h0 _) _ | exact Loc.alloc (Loc.alloc (Loc.alloc h0 _) _) _
  rintro e w15 ⟨h1, rfl⟩
  clear h0; have h0 := h1; clear h1
  go_wp2_with fail
  refine (get_loc (w := w) (E := ?e15) ?h15 1 Nm.t14).mono ?k15
  case h15 => first | exact h0 | exact Loc.alloc h0 _ | exact Loc.alloc (Loc.alloc h0 _) _ | exact Loc.alloc (Loc.alloc (Loc.alloc h0 _) _) _
  rintro e w16 ⟨h1, rfl⟩
  clear h0; have h0 := h1; clear h1
  go_wp2_with fail
  refine (put_loc (w := w) (E := ?e16) ?h16 6 0 0 Nm.t15).mono ?k16
  case h16 => first | exact h0 | exact Loc.alloc h0 _ | exact Loc.alloc (Loc.alloc h0 _) _ | exact Loc.alloc (Loc.alloc (Loc.alloc h0 _) _) _
  rintro e w17 ⟨h1, rfl⟩
  clear h0; have h0 := h1; clear h1
  go_wp2_with fail
  refine (seven_any _).mono ?_
  rintro e w18 ⟨rfl, hb⟩
  have h1 := Loc.keep (p := w.heap.size) (by first | exact h0 | exact Loc.alloc h0 _ | exact Loc.alloc (Loc.alloc h0 _) _ | exact Loc.alloc (Loc.alloc (Loc.alloc h0 _) _) _) hb
  clear h0 hb; have h0 := h1; clear h1
  go_wp2_with fail
  refine (put_loc (w := w) (E := ?e17) ?h17 8 1 7 Nm.t16).mono ?k17
  case h17 => first | exact h0 | exact Loc.alloc h0 _ | exact Loc.alloc (Loc.alloc h0 _) _ | exact Loc.alloc (Loc.alloc (Loc.alloc h0 _) _) _
  rintro e w19 ⟨h1, rfl⟩
  clear h0; have h0 := h1; clear h1
  go_wp2_with fail
  refine (let_loc (w := w) (E := ?e18) ?h18 7 Nm.t17).mono ?k18
  case h18 => first | exact h0 | exact Loc.alloc h0 _ | exact Loc.alloc (Loc.alloc h0 _) _ | exact Loc.alloc (Loc.alloc (Loc.alloc h0 _) _) _
  rintro e w20 ⟨h1, rfl⟩
  clear h0; have h0 := h1; clear h1
  go_wp2_with fail
  refine (run_loc_none (w := w) (E := ?e19) ?h19 99 0 Nm.t18).mono ?k19
  case h19 => first | exact h0 | exact Loc.alloc h0 _ | exact Loc.alloc (Loc.alloc h0 _) _ | exact Loc.alloc (Loc.alloc (Loc.alloc h0 _) _) _
  rintro e w21 ⟨h1, rfl⟩
  clear h0; have h0 := h1; clear h1
  go_wp2_with fail
  refine (drop_loc (w := w) (E := ?e20) ?h20 1 4 Nm.t19).mono ?k20
  case h20 => first | exact h0 | exact Loc.alloc h0 _ | exact Loc.alloc (Loc.alloc h0 _) _ | exact Loc.alloc (Loc.alloc (Loc.alloc h0 _) _) _
  rintro e w22 ⟨h1, rfl⟩
  clear h0; have h0 := h1; clear h1
  go_wp2_with fail
  refine (get_loc (w := w) (E := ?e21) ?h21 4 Nm.t20).mono ?k21
  case h21 => first | exact h0 | exact Loc.alloc h0 _ | exact Loc.alloc (Loc.alloc h0 _) _ | exact Loc.alloc (Loc.alloc (Loc.alloc h0 _) _) _
  rintro e w23 ⟨h1, rfl⟩
  clear h0; have h0 := h1; clear h1
  go_wp2_with fail
  refine (of_loc (w := w) (E := ?e22) ?h22 4 Nm.t21).mono ?k22
  case h22 => first | exact h0 | exact Loc.alloc h0 _ | exact Loc.alloc (Loc.alloc h0 _) _ | exact Loc.alloc (Loc.alloc (Loc.alloc h0 _) _) _
  rintro e w24 ⟨h1, rfl⟩
  clear h0; have h0 := h1; clear h1
  go_wp2_with fail
  refine (of_loc (w := w) (E := ?e23) ?h23 5 Nm.t22).mono ?k23
  case h23 => first | exact h0 | exact Loc.alloc h0 _ | exact Loc.alloc (Loc.alloc h0 _) _ | exact Loc.alloc (Loc.alloc (Loc.alloc h0 _) _) _
  rintro e w25 ⟨h1, rfl⟩
  clear h0; have h0 := h1; clear h1
  have f0 := fun o => (Loc.alloc h0 o).box (j := 0) (List.Mem.tail _ (List.Mem.head _)) rfl
  have f1 := fun o => (Loc.alloc h0 o).box (j := 1) (List.Mem.tail _ (List.Mem.head _)) rfl
  go_wp2_with fail
  refine (regions_loc (w := w) (E := ?e25) ?h25  Nm.t23).mono ?k25
  case h25 => first | exact h0 | exact Loc.alloc h0 _ | exact Loc.alloc (Loc.alloc h0 _) _ | exact Loc.alloc (Loc.alloc (Loc.alloc h0 _) _) _
  rintro e w26 ⟨h1, v26, hv26, rfl⟩
  clear h0; have h0 := h1; clear h1
  go_wp2_with fail
  refine (same_Same21 (xs := [(1, 4), (6, 2)]) (ys := [(1, 4), (6, 2)]) (hv26.below ((Below.refl _ _).alloc (Nat.le_refl _) _)) (Rd.lit (heap_alloc_new _ _) rfl) (by decide)).mono ?_
  rintro e w27 ⟨hb, rfl⟩
  have h1 := Loc.keep (p := w.heap.size) (by first | exact h0 | exact Loc.alloc h0 _ | exact Loc.alloc (Loc.alloc h0 _) _ | exact Loc.alloc (Loc.alloc (Loc.alloc h0 _) _) _) hb
  clear h0 hb; have h0 := h1; clear h1
  go_wp2_with fail
  refine (live_loc (w := w) (E := ?e26) ?h26  Nm.t24).mono ?k26
  case h26 => first | exact h0 | exact Loc.alloc h0 _ | exact Loc.alloc (Loc.alloc h0 _) _ | exact Loc.alloc (Loc.alloc (Loc.alloc h0 _) _) _
  rintro e w28 ⟨h1, rfl⟩
  clear h0; have h0 := h1; clear h1
  go_wp2_with fail
  refine (take_nil _ _).mono ?_
  rintro e w29 ⟨hb, rfl⟩
  have h1 := Loc.keep (p := w.heap.size) (by first | exact h0 | exact Loc.alloc h0 _ | exact Loc.alloc (Loc.alloc h0 _) _ | exact Loc.alloc (Loc.alloc (Loc.alloc h0 _) _) _) hb
  clear h0 hb; have h0 := h1; clear h1
  go_wp2_with fail
  refine (get_nil _ _).mono ?_
  rintro e w30 ⟨hb, rfl⟩
  have h1 := Loc.keep (p := w.heap.size) (by first | exact h0 | exact Loc.alloc h0 _ | exact Loc.alloc (Loc.alloc h0 _) _ | exact Loc.alloc (Loc.alloc (Loc.alloc h0 _) _) _) hb
  clear h0 hb; have h0 := h1; clear h1
  go_wp2_with fail
  refine (run_nil _ _ _).mono ?_
  rintro e w31 ⟨rfl, rfl⟩
  go_wp2_with fail
  refine (of_nil _ _).mono ?_
  rintro e w32 ⟨hb, rfl⟩
  have h1 := Loc.keep (p := w.heap.size) (by first | exact h0 | exact Loc.alloc h0 _ | exact Loc.alloc (Loc.alloc h0 _) _ | exact Loc.alloc (Loc.alloc (Loc.alloc h0 _) _) _) hb
  clear h0 hb; have h0 := h1; clear h1
  go_wp2_with fail
  refine (alive21_any _).mono ?_
  rintro e w33 ⟨rfl, hb⟩
  have h1 := Loc.keep (p := w.heap.size) (by first | exact h0 | exact Loc.alloc h0 _ | exact Loc.alloc (Loc.alloc h0 _) _ | exact Loc.alloc (Loc.alloc (Loc.alloc h0 _) _) _) hb
  clear h0 hb; have h0 := h1; clear h1
  go_wp2_with fail
  refine (let_nil _ _).mono ?_
  rintro e w34 ⟨hb, rfl⟩
  have h1 := Loc.keep (p := w.heap.size) (by first | exact h0 | exact Loc.alloc h0 _ | exact Loc.alloc (Loc.alloc h0 _) _ | exact Loc.alloc (Loc.alloc (Loc.alloc h0 _) _) _) hb
  clear h0 hb; have h0 := h1; clear h1
  go_wp2_with fail
  refine (seven_any _).mono ?_
  rintro e w35 ⟨rfl, hb⟩
  have h1 := Loc.keep (p := w.heap.size) (by first | exact h0 | exact Loc.alloc h0 _ | exact Loc.alloc (Loc.alloc h0 _) _ | exact Loc.alloc (Loc.alloc (Loc.alloc h0 _) _) _) hb
  clear h0 hb; have h0 := h1; clear h1
  go_wp2_with fail
  refine (put_nil _ _ _ _).mono ?_
  rintro e w36 ⟨hb, rfl⟩
  have h1 := Loc.keep (p := w.heap.size) (by first | exact h0 | exact Loc.alloc h0 _ | exact Loc.alloc (Loc.alloc h0 _) _ | exact Loc.alloc (Loc.alloc (Loc.alloc h0 _) _) _) hb
  clear h0 hb; have h0 := h1; clear h1
  go_wp2_with fail
  refine (drop_nil _ _ _).mono ?_
  rintro e w37 ⟨hb, rfl⟩
  have h1 := Loc.keep (p := w.heap.size) (by first | exact h0 | exact Loc.alloc h0 _ | exact Loc.alloc (Loc.alloc h0 _) _ | exact Loc.alloc (Loc.alloc (Loc.alloc h0 _) _) _) hb
  clear h0 hb; have h0 := h1; clear h1
  go_wp2_with fail
  refine (move_nil _ _ _ _).mono ?_
  rintro e w38 ⟨hb, rfl⟩
  have h1 := Loc.keep (p := w.heap.size) (by first | exact h0 | exact Loc.alloc h0 _ | exact Loc.alloc (Loc.alloc h0 _) _ | exact Loc.alloc (Loc.alloc (Loc.alloc h0 _) _) _) hb
  clear h0 hb; have h0 := h1; clear h1
  go_wp2_with fail
  refine (regions_nil _).mono ?_
  rintro e w39 ⟨hb, rfl⟩
  have h1 := Loc.keep (p := w.heap.size) (by first | exact h0 | exact Loc.alloc h0 _ | exact Loc.alloc (Loc.alloc h0 _) _ | exact Loc.alloc (Loc.alloc (Loc.alloc h0 _) _) _) hb
  clear h0 hb; have h0 := h1; clear h1
  go_wp2_with fail
  refine (live_nil _).mono ?_
  rintro e w40 ⟨hb, rfl⟩
  have h1 := Loc.keep (p := w.heap.size) (by first | exact h0 | exact Loc.alloc h0 _ | exact Loc.alloc (Loc.alloc h0 _) _ | exact Loc.alloc (Loc.alloc (Loc.alloc h0 _) _) _) hb
  clear h0 hb; have h0 := h1; clear h1
  go_wp2_with fail
  refine (copy_nil _).mono ?_
  rintro e w41 ⟨hb, rfl⟩
  have h1 := Loc.keep (p := w.heap.size) (by first | exact h0 | exact Loc.alloc h0 _ | exact Loc.alloc (Loc.alloc h0 _) _ | exact Loc.alloc (Loc.alloc (Loc.alloc h0 _) _) _) hb
  clear h0 hb; have h0 := h1; clear h1
  have hz := h0.size
  go_wp2_with fail
  go_ret
  exact ⟨rfl, hz⟩
end Go.Proofs.Ytnlblnljcmoihaa
