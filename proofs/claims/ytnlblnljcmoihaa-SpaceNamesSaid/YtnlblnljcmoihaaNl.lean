/- The methods of a space that is none (nil). -/
import Derived.Test.YtnlblnljcmoihaaSc
namespace Go.Proofs.Ytnlblnljcmoihaa
open Go.RowKit Go.Shelf
attribute [local go_sem] Oper.semAt_some

set_option maxRecDepth 100000 in
theorem take_nil (m : Int) (w : World) : Calls Try.prog 14 #[.pointer none, .int .i64 m] w fun e w' => Below w.heap.size w w' ∧ e = .returned (.tuple #[.int .i64 0, .int .i64 1]) := by
  go_enter Try.func14, Try.ntmps14
  go_wp2
  go_ret2
  exact ⟨Below.refl _ _, rfl⟩
set_option maxRecDepth 100000 in
theorem let_nil (m : Int) (w : World) : Calls Try.prog 15 #[.pointer none, .int .i64 m] w fun e w' => Below w.heap.size w w' ∧ e = .returned (.int .i64 1) := by
  go_enter Try.func15, Try.ntmps15
  go_wp2
  go_ret
  exact ⟨Below.refl _ _, rfl⟩
set_option maxRecDepth 100000 in
theorem some_nil (a m : Int) (w : World) : Calls Try.prog 74 #[.pointer none, .int .i64 a, .int .i64 m] w fun e w' => w' = w ∧ e = .returned (.tuple #[.slice none 0 0, .int .i64 1]) := by
  go_enter Try.func74, Try.ntmps74
  go_wp2
  go_ret2
  exact ⟨rfl, rfl⟩
set_option maxRecDepth 100000 in
theorem run_nil (a m : Int) (w : World) : Calls Try.prog 26 #[.pointer none, .int .i64 a, .int .i64 m] w fun e w' => w' = w ∧ e = .returned (.tuple #[.slice none 0 0, .int .i64 1]) := by
  go_enter Try.func26, Try.ntmps26
  go_wp2_with (go_at_call 74; refine (some_nil _ _ _).mono ?_; rintro e w' ⟨rfl, rfl⟩)
  go_ret2
  exact ⟨rfl, rfl⟩
set_option maxRecDepth 100000 in
theorem get_nil (a : Int) (w : World) : Calls Try.prog 21 #[.pointer none, .int .i64 a] w fun e w' => Below w.heap.size w w' ∧ e = .returned (.tuple #[.agg #[.int .i64 0, .int .i64 0], .int .i64 1]) := by
  go_enter Try.func21, Try.ntmps21
  go_wp2_with (go_at_call 26; refine (run_nil _ _ _).mono ?_; rintro e w' ⟨rfl, rfl⟩)
  exact bodyPost_ret (v := .tuple #[.agg #[.int .i64 0, .int .i64 0], .int .i64 1]) (by simp [results, Try.results21, go_sem]) rfl ⟨(Below.refl _ _).alloc (Nat.le_refl _) _, rfl⟩
set_option maxRecDepth 100000 in
theorem of_nil (a : Int) (w : World) : Calls Try.prog 17 #[.pointer none, .int .i64 a] w fun e w' => Below w.heap.size w w' ∧ e = .returned (.tuple #[.agg #[.int .i64 0, .int .i64 0], .bool false]) := by
  go_enter Try.func17, Try.ntmps17
  go_wp2
  exact bodyPost_ret (v := .tuple #[.agg #[.int .i64 0, .int .i64 0], .bool false]) (by simp [results, Try.results17, go_sem]) rfl ⟨(Below.refl _ _).alloc (Nat.le_refl _) _, rfl⟩
set_option maxRecDepth 100000 in
theorem put_nil (a t n : Int) (w : World) : Calls Try.prog 19 #[.pointer none, .int .i64 a, .agg #[.int .i64 t, .int .i64 n]] w fun e w' => Below w.heap.size w w' ∧ e = .returned (.int .i64 1) := by
  go_enter Try.func19, Try.ntmps19
  go_wp2_with (go_at_call 74; refine (some_nil _ _ _).mono ?_; rintro e w' ⟨rfl, rfl⟩)
  go_ret
  exact ⟨(Below.refl _ _).alloc (Nat.le_refl _) _, rfl⟩
set_option maxRecDepth 100000 in
theorem drop_nil (a m : Int) (w : World) : Calls Try.prog 20 #[.pointer none, .int .i64 a, .int .i64 m] w fun e w' => Below w.heap.size w w' ∧ e = .returned (.int .i64 1) := by
  go_enter Try.func20, Try.ntmps20
  go_wp2_with fail
  refine (some_nil _ _ _).mono ?_
  rintro e w' ⟨rfl, rfl⟩
  go_wp2_with (with_reducible refine wpList_clear_nil rfl (.tmp 16) 62 rfl Try.underlying62 0 0 rfl ?_)
  go_ret
  exact ⟨Below.refl _ _, rfl⟩
set_option maxRecDepth 100000 in
theorem move_nil (b a m : Int) (w : World) : Calls Try.prog 25 #[.pointer none, .int .i64 b, .int .i64 a, .int .i64 m] w fun e w' => Below w.heap.size w w' ∧ e = .returned (.int .i64 1) := by
  go_enter Try.func25, Try.ntmps25
  go_wp2_with (go_at_call 74; refine (some_nil _ _ _).mono ?_; rintro e w' ⟨rfl, rfl⟩)
  go_ret
  exact ⟨Below.refl _ _, rfl⟩
set_option maxRecDepth 100000 in
theorem copy_nil (w : World) : Calls Try.prog 30 #[.pointer none] w fun e w' => Below w.heap.size w w' ∧ e = .returned (.pointer none) := by
  go_enter Try.func30, Try.ntmps30
  go_wp2
  go_ret
  exact ⟨Below.refl _ _, rfl⟩

set_option maxRecDepth 100000 in
set_option maxHeartbeats 2000000 in
theorem live_nil (w : World) : Calls Try.prog 18 #[.pointer none] w fun e w' => Below w.heap.size w w' ∧ e = .returned (.int .i64 0) := by
  obtain ⟨n, hn⟩ : ∃ n : Nat, 5 ≤ n := ⟨10, by decide⟩
  refine (callsIn_wide (n := n)).1 ?_
  have hfn : ∀ k, Fence.wide.fn k := fun _ => trivial
  have hn1 : 1 ≤ n := by omega
  refine callsIn_of_wp_marks Try.func18 rfl trivial ?_ rfl
  simp only [Try.ntmps18, List.size_toArray, List.length_cons, List.length_nil, Nat.reduceAdd, Nat.reduceSub, Array.replicate_succ, Array.replicate_zero, List.push_toArray, List.append_toArray, List.nil_append, List.cons_append]
  gi_wp2
  refine wpIn_scope' ?_
  gi_wp2
  refine wpIn_label' ?_
  gi_wp2_with (gi_at_call 73; refine (each_in (n - 1) _ _).mono ?_; rintro e w' ⟨rfl, rfl⟩)
  have bN := (Boxed.new w 3 (.int .i64 0)).alloc (.cells #[.pointer none] 52)
  have bE := Boxed.new (w.alloc (.cells #[.int .i64 0] 3)) 52 (.pointer none)
  simp only [World.size_alloc] at bE
  have hB0 : Below w.heap.size w ((w.alloc (.cells #[.int .i64 0] 3)).alloc (.cells #[.pointer none] 52)) := ((Below.refl _ w).alloc (Nat.le_refl _) _).alloc (by simp) _
  have hsz : ((w.alloc (.cells #[.int .i64 0] 3)).alloc (.cells #[.pointer none] 52)).heap.size = w.heap.size + 2 := by simp
  obtain ⟨W0, hW0⟩ : ∃ W0, (w.alloc (.cells #[.int .i64 0] 3)).alloc (.cells #[.pointer none] 52) = W0 := ⟨_, rfl⟩
  rw [hW0] at bN bE hB0 hsz ⊢
  clear hW0
  refine wpIn_rangeFunc_ownH (F := Fence.wide) rfl (by omega) (gf := 123) (lb := #[.pointer (some ⟨w.heap.size + 1, 0, none⟩)]) rfl trivial (enters_of Try.func123 (by kernel_rfl) rfl)
    (each_none_stops (n - 1) (w.heap.size + 1) w.heap.size W0 (by omega) bE.cell) belowK_t (belowK_b (by omega)) (Below.refl _ _) (fun _ => rfl)
    (fun pre W => Boxed W w.heap.size 3 (.int .i64 0) ∧ Below w.heap.size w W)
    (fun c pre W => False)
    (OwnFrom.and (Own.from (boxed_own _ _ _) _) (ownFrom_below (Nat.le_refl _) (by omega)))
    (fun _ _ _ _ _ hs _ _ => hs)
    ⟨bN, hB0⟩
    (fun x a' W => False)
    (fun x a' _ X Y row hs hg hr => hs)
    ?assign ?body ?done ?stop
  case assign =>
    rintro l pre ⟨x, hx⟩
    cases hx
  case body =>
    rintro l pre ⟨x, hx⟩
    cases hx
  case done =>
    rintro D zs W hD rfl ⟨bN1, hB1⟩ hK
    have cN := bN1.cell
    gi_wp2
    rw [Exit.noGoto_ret]
    refine ⟨by simp, .inl ⟨_, _, rfl, run_takeDeferred hK, ?_⟩⟩
    exact ⟨_, results_tmp rfl _ _ _, hB1.trans (belowK_b (w := w) (Nat.le_refl _) W D _ _ (by omega) hK rfl rfl), rfl⟩
  case stop =>
    rintro D c pre W _ _ h _
    exact h.elim

set_option maxRecDepth 100000 in
set_option maxHeartbeats 2000000 in
theorem regions_nil (w : World) : Calls Try.prog 16 #[.pointer none] w fun e w' => Below w.heap.size w w' ∧ e = .returned (.slice none 0 0) := by
  obtain ⟨n, hn⟩ : ∃ n : Nat, 5 ≤ n := ⟨10, by decide⟩
  refine (callsIn_wide (n := n)).1 ?_
  have hfn : ∀ k, Fence.wide.fn k := fun _ => trivial
  have hn1 : 1 ≤ n := by omega
  refine callsIn_of_wp_marks Try.func16 rfl trivial ?_ rfl
  simp only [Try.ntmps16, List.size_toArray, List.length_cons, List.length_nil, Nat.reduceAdd, Nat.reduceSub, Array.replicate_succ, Array.replicate_zero, List.push_toArray, List.append_toArray, List.nil_append, List.cons_append]
  gi_wp2_with (gi_at_call 73; refine (each_in (n - 1) _ _).mono ?_; rintro e w' ⟨rfl, rfl⟩)
  have bN := (Boxed.new w 36 (.slice none 0 0)).alloc (.cells #[.pointer none] 52)
  have bE := Boxed.new (w.alloc (.cells #[.slice none 0 0] 36)) 52 (.pointer none)
  simp only [World.size_alloc] at bE
  have hB0 : Below w.heap.size w ((w.alloc (.cells #[.slice none 0 0] 36)).alloc (.cells #[.pointer none] 52)) := ((Below.refl _ w).alloc (Nat.le_refl _) _).alloc (by simp) _
  have hsz : ((w.alloc (.cells #[.slice none 0 0] 36)).alloc (.cells #[.pointer none] 52)).heap.size = w.heap.size + 2 := by simp
  obtain ⟨W0, hW0⟩ : ∃ W0, (w.alloc (.cells #[.slice none 0 0] 36)).alloc (.cells #[.pointer none] 52) = W0 := ⟨_, rfl⟩
  rw [hW0] at bN bE hB0 hsz ⊢
  clear hW0
  refine wpIn_rangeFunc_ownH (F := Fence.wide) rfl (by omega) (gf := 123) (lb := #[.pointer (some ⟨w.heap.size + 1, 0, none⟩)]) rfl trivial (enters_of Try.func123 (by kernel_rfl) rfl)
    (each_none_stops (n - 1) (w.heap.size + 1) w.heap.size W0 (by omega) bE.cell) belowK_t (belowK_b (by omega)) (Below.refl _ _) (fun _ => rfl)
    (fun pre W => Boxed W w.heap.size 36 (.slice none 0 0) ∧ Below w.heap.size w W)
    (fun c pre W => False)
    (OwnFrom.and (Own.from (boxed_own _ _ _) _) (ownFrom_below (Nat.le_refl _) (by omega)))
    (fun _ _ _ _ _ hs _ _ => hs)
    ⟨bN, hB0⟩
    (fun x a' W => False)
    (fun x a' _ X Y row hs hg hr => hs)
    ?assign ?body ?done ?stop
  case assign =>
    rintro l pre ⟨x, hx⟩
    cases hx
  case body =>
    rintro l pre ⟨x, hx⟩
    cases hx
  case done =>
    rintro D zs W hD rfl ⟨bN1, hB1⟩ hK
    have cN := bN1.cell
    gi_wp2
    refine ⟨by simp, .inl ⟨_, _, rfl, run_takeDeferred hK, ?_⟩⟩
    exact ⟨_, results_tmp rfl _ _ _, hB1.trans (belowK_b (w := w) (Nat.le_refl _) W D _ _ (by omega) hK rfl rfl), rfl⟩
  case stop =>
    rintro D c pre W _ _ h _
    exact h.elim
end Go.Proofs.Ytnlblnljcmoihaa
