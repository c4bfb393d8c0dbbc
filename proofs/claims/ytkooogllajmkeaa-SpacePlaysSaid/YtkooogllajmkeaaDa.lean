/- A play's step (layer 21), kinds 1, 2, 4, 5: both calls, one answer. -/
import Derived.Test.YtkooogllajmkeaaTw
import Derived.Deep.RegionHeld3
import Derived.Deep.DrawnRows
namespace Go.Proofs.Ytkooogllajmkeaa
open Go.RowKit
set_option pp.deepTerms true
attribute [local go_sem ↓] Go.wp_at_zero Go.wp_at_succ
/-- a play's block -/
def plo (p pr : Nat) : Obj := .cells #[.pointer (some ⟨p, 0, none⟩), .pointer (some ⟨pr, 0, none⟩)] 58
/-- an operation's block, and its value -/
def opo (k n a b t v : Int) : Obj := .cells #[.int .i64 k, .int .i64 n, .int .i64 a, .int .i64 b, .int .i64 t, .int .i64 v] 31
def opv (k n a b t v : Int) : Value := .agg #[.int .i64 k, .int .i64 n, .int .i64 a, .int .i64 b, .int .i64 t, .int .i64 v]
/-- what a step leaves -/
def DoPost (w : World) (q p pr : Nat) (S : Sp) (e : Ending) (w' : World) : Prop := e = .returned (.bool true) ∧ Two w p pr S S [(q, plo p pr)] w'
theorem undrew {W W' : World} (h : Below W.drew.heap.size W.drew W') : Below W.heap.size W W' := ⟨h.os, h.tape, h.output, h.size, h.block⟩
section
variable {w W : World} {q B p pr : Nat} {S R : Sp} {k n a b t v : Int}
theorem Two.qs (h : Two w p pr S R [(B, opo k n a b t v), (q, plo p pr)] W) : W.cell? ⟨q, 0, none⟩ = some (.pointer (some ⟨p, 0, none⟩)) ∧ W.cell? ⟨q, 1, none⟩ = some (.pointer (some ⟨pr, 0, none⟩)) :=
  ⟨h.box (List.Mem.tail _ (List.Mem.head _)) rfl, h.box (List.Mem.tail _ (List.Mem.head _)) rfl⟩
theorem Two.os (h : Two w p pr S R [(B, opo k n a b t v), (q, plo p pr)] W) : W.cell? ⟨B, 0, none⟩ = some (.int .i64 k) ∧ W.cell? ⟨B, 1, none⟩ = some (.int .i64 n) ∧ W.cell? ⟨B, 2, none⟩ = some (.int .i64 a) ∧ W.cell? ⟨B, 3, none⟩ = some (.int .i64 b) ∧ W.cell? ⟨B, 4, none⟩ = some (.int .i64 t) ∧ W.cell? ⟨B, 5, none⟩ = some (.int .i64 v) :=
  ⟨h.box (List.Mem.head _) rfl, h.box (List.Mem.head _) rfl, h.box (List.Mem.head _) rfl, h.box (List.Mem.head _) rfl, h.box (List.Mem.head _) rfl, h.box (List.Mem.head _) rfl⟩
theorem Two.lst (h : Two w p pr S R [(B, opo k n a b t v), (q, plo p pr)] W) : Two w p pr S R [(q, plo p pr)] W := h.sub (by simp)

set_option maxRecDepth 100000 in
set_option maxHeartbeats 4000000 in
theorem do1_any (h : Two w p pr S S [(q, plo p pr)] W) (n a b t v : Int) : Calls Try.prog 20 #[.pointer (some ⟨q, 0, none⟩), opv 1 n a b t v] W (DoPost w q p pr (S.let_ a).2) := by
  have hB := Two.alloc h (opo 1 n a b t v)
  have b0 := hB.keep (Below.refl _ _).drew
  have x0 := hB.qs
  have x1 := hB.os
  obtain ⟨x2, x3⟩ := x0
  obtain ⟨x4, x5, x6, x7, x8, x9⟩ := x1
  unfold opo at x2 x3 x4 x5 x6 x7 x8 x9
  unfold opv
  go_enter Try.func20, Try.ntmps20
  go_wp2_with fail
  go_region_held3 (fun W' => W'.cell? ⟨q, 0, none⟩ = some (.pointer (some ⟨p, 0, none⟩)) ∧ W'.cell? ⟨q, 1, none⟩ = some (.pointer (some ⟨pr, 0, none⟩)) ∧ W'.cell? ⟨W.heap.size, 2, none⟩ = some (.int .i64 a)) (first | exact ⟨hy.qs.1, hy.qs.2, hy.os.2.2.1⟩ | exact ⟨hx.qs.1, hx.qs.2, hx.os.2.2.1⟩ | exact ⟨b0.qs.1, b0.qs.2, b0.os.2.2.1⟩) (first | (go_at_call 13; refine (let_two (w := w) (pr := pr) (S := S) (R := S) (E := [(W.heap.size, opo 1 n a b t v), (q, plo p pr)]) ?_ a).mono ?_; exact b0; rintro e wx ⟨hx, rfl⟩) | (go_at_call 13; refine (let_two (w := w) (pr := pr) (S := S) (R := (S.let_ a).2) (E := [(W.heap.size, opo 1 n a b t v), (q, plo p pr)]) ?_ a).mono ?_; exact hy; rintro e wx ⟨hx, rfl⟩) | (go_at_call 50; refine (rlet_two (w := w) (p := p) (S := S) (R := S) (E := [(W.heap.size, opo 1 n a b t v), (q, plo p pr)]) ?_ a).mono ?_; exact b0; rintro e wy ⟨hy, rfl⟩) | (go_at_call 50; refine (rlet_two (w := w) (p := p) (S := (S.let_ a).2) (R := S) (E := [(W.heap.size, opo 1 n a b t v), (q, plo p pr)]) ?_ a).mono ?_; exact hx; rintro e wy ⟨hy, rfl⟩))
  all_goals
    go_wp2_with fail
    go_ret
    exact ⟨rfl, (by first | exact hy.lst | exact hx.lst)⟩
set_option maxRecDepth 100000 in
set_option maxHeartbeats 4000000 in
theorem do2_any (h : Two w p pr S S [(q, plo p pr)] W) (n a b t v : Int) (ha : I64 a) : Calls Try.prog 20 #[.pointer (some ⟨q, 0, none⟩), opv 2 n a b t v] W (DoPost w q p pr (S.put a (t, v)).2) := by
  have hB := Two.alloc h (opo 2 n a b t v)
  have b0 := hB.keep (Below.refl _ _).drew
  have x0 := hB.qs
  have x1 := hB.os
  obtain ⟨x2, x3⟩ := x0
  obtain ⟨x4, x5, x6, x7, x8, x9⟩ := x1
  unfold opo at x2 x3 x4 x5 x6 x7 x8 x9
  unfold opv
  go_enter Try.func20, Try.ntmps20
  go_wp2_with fail
  go_region_held3 (fun W' => W'.cell? ⟨q, 0, none⟩ = some (.pointer (some ⟨p, 0, none⟩)) ∧ W'.cell? ⟨q, 1, none⟩ = some (.pointer (some ⟨pr, 0, none⟩)) ∧ W'.cell? ⟨W.heap.size, 2, none⟩ = some (.int .i64 a) ∧ W'.cell? ⟨W.heap.size, 4, none⟩ = some (.int .i64 t) ∧ W'.cell? ⟨W.heap.size, 5, none⟩ = some (.int .i64 v)) (first | exact ⟨hy.qs.1, hy.qs.2, hy.os.2.2.1, hy.os.2.2.2.2.1, hy.os.2.2.2.2.2⟩ | exact ⟨hx.qs.1, hx.qs.2, hx.os.2.2.1, hx.os.2.2.2.2.1, hx.os.2.2.2.2.2⟩ | exact ⟨b0.qs.1, b0.qs.2, b0.os.2.2.1, b0.os.2.2.2.2.1, b0.os.2.2.2.2.2⟩) (first | (go_at_call 17; refine (put_two (w := w) (pr := pr) (S := S) (R := S) (E := [(W.heap.size, opo 2 n a b t v), (q, plo p pr)]) ?_ a t v).mono ?_; exact b0; rintro e wx ⟨hx, rfl⟩) | (go_at_call 17; refine (put_two (w := w) (pr := pr) (S := S) (R := (S.put a (t, v)).2) (E := [(W.heap.size, opo 2 n a b t v), (q, plo p pr)]) ?_ a t v).mono ?_; exact hy; rintro e wx ⟨hx, rfl⟩) | (go_at_call 51; refine (rput_two (w := w) (p := p) (S := S) (R := S) (E := [(W.heap.size, opo 2 n a b t v), (q, plo p pr)]) ?_ a t v ha).mono ?_; exact b0; rintro e wy ⟨hy, rfl⟩) | (go_at_call 51; refine (rput_two (w := w) (p := p) (S := (S.put a (t, v)).2) (R := S) (E := [(W.heap.size, opo 2 n a b t v), (q, plo p pr)]) ?_ a t v ha).mono ?_; exact hx; rintro e wy ⟨hy, rfl⟩))
  all_goals
    go_wp2_with fail
    go_ret
    exact ⟨rfl, (by first | exact hy.lst | exact hx.lst)⟩
set_option maxRecDepth 100000 in
set_option maxHeartbeats 4000000 in
theorem do4_any (h : Two w p pr S S [(q, plo p pr)] W) (n a b t v : Int) (ha : I64 a) : Calls Try.prog 20 #[.pointer (some ⟨q, 0, none⟩), opv 4 n a b t v] W (DoPost w q p pr (S.drop a n).2) := by
  have hB := Two.alloc h (opo 4 n a b t v)
  have b0 := hB.keep (Below.refl _ _).drew
  have x0 := hB.qs
  have x1 := hB.os
  obtain ⟨x2, x3⟩ := x0
  obtain ⟨x4, x5, x6, x7, x8, x9⟩ := x1
  unfold opo at x2 x3 x4 x5 x6 x7 x8 x9
  unfold opv
  go_enter Try.func20, Try.ntmps20
  go_wp2_with fail
  go_region_held3 (fun W' => W'.cell? ⟨q, 0, none⟩ = some (.pointer (some ⟨p, 0, none⟩)) ∧ W'.cell? ⟨q, 1, none⟩ = some (.pointer (some ⟨pr, 0, none⟩)) ∧ W'.cell? ⟨W.heap.size, 1, none⟩ = some (.int .i64 n) ∧ W'.cell? ⟨W.heap.size, 2, none⟩ = some (.int .i64 a)) (first | exact ⟨hy.qs.1, hy.qs.2, hy.os.2.1, hy.os.2.2.1⟩ | exact ⟨hx.qs.1, hx.qs.2, hx.os.2.1, hx.os.2.2.1⟩ | exact ⟨b0.qs.1, b0.qs.2, b0.os.2.1, b0.os.2.2.1⟩) (first | (go_at_call 18; refine (drop_two (w := w) (pr := pr) (S := S) (R := S) (E := [(W.heap.size, opo 4 n a b t v), (q, plo p pr)]) ?_ a n).mono ?_; exact b0; rintro e wx ⟨hx, rfl⟩) | (go_at_call 18; refine (drop_two (w := w) (pr := pr) (S := S) (R := (S.drop a n).2) (E := [(W.heap.size, opo 4 n a b t v), (q, plo p pr)]) ?_ a n).mono ?_; exact hy; rintro e wx ⟨hx, rfl⟩) | (go_at_call 53; refine (rdrop_two (w := w) (p := p) (S := S) (R := S) (E := [(W.heap.size, opo 4 n a b t v), (q, plo p pr)]) ?_ a n ha).mono ?_; exact b0; rintro e wy ⟨hy, rfl⟩) | (go_at_call 53; refine (rdrop_two (w := w) (p := p) (S := (S.drop a n).2) (R := S) (E := [(W.heap.size, opo 4 n a b t v), (q, plo p pr)]) ?_ a n ha).mono ?_; exact hx; rintro e wy ⟨hy, rfl⟩))
  all_goals
    go_wp2_with fail
    go_ret
    exact ⟨rfl, (by first | exact hy.lst | exact hx.lst)⟩
set_option maxRecDepth 100000 in
set_option maxHeartbeats 4000000 in
theorem do5_any (h : Two w p pr S S [(q, plo p pr)] W) (n a b t v : Int) (hb : I64 b) (ha : I64 a) : Calls Try.prog 20 #[.pointer (some ⟨q, 0, none⟩), opv 5 n a b t v] W (DoPost w q p pr (S.move b a n).2) := by
  have hB := Two.alloc h (opo 5 n a b t v)
  have b0 := hB.keep (Below.refl _ _).drew
  have x0 := hB.qs
  have x1 := hB.os
  obtain ⟨x2, x3⟩ := x0
  obtain ⟨x4, x5, x6, x7, x8, x9⟩ := x1
  unfold opo at x2 x3 x4 x5 x6 x7 x8 x9
  unfold opv
  go_enter Try.func20, Try.ntmps20
  go_wp2_with fail
  go_region_held3 (fun W' => W'.cell? ⟨q, 0, none⟩ = some (.pointer (some ⟨p, 0, none⟩)) ∧ W'.cell? ⟨q, 1, none⟩ = some (.pointer (some ⟨pr, 0, none⟩)) ∧ W'.cell? ⟨W.heap.size, 1, none⟩ = some (.int .i64 n) ∧ W'.cell? ⟨W.heap.size, 2, none⟩ = some (.int .i64 a) ∧ W'.cell? ⟨W.heap.size, 3, none⟩ = some (.int .i64 b)) (first | exact ⟨hy.qs.1, hy.qs.2, hy.os.2.1, hy.os.2.2.1, hy.os.2.2.2.1⟩ | exact ⟨hx.qs.1, hx.qs.2, hx.os.2.1, hx.os.2.2.1, hx.os.2.2.2.1⟩ | exact ⟨b0.qs.1, b0.qs.2, b0.os.2.1, b0.os.2.2.1, b0.os.2.2.2.1⟩) (first | (go_at_call 23; refine (move_two (w := w) (pr := pr) (S := S) (R := S) (E := [(W.heap.size, opo 5 n a b t v), (q, plo p pr)]) ?_ b a n).mono ?_; exact b0; rintro e wx ⟨hx, rfl⟩) | (go_at_call 23; refine (move_two (w := w) (pr := pr) (S := S) (R := (S.move b a n).2) (E := [(W.heap.size, opo 5 n a b t v), (q, plo p pr)]) ?_ b a n).mono ?_; exact hy; rintro e wx ⟨hx, rfl⟩) | (go_at_call 54; refine (rmove_two (w := w) (p := p) (S := S) (R := S) (E := [(W.heap.size, opo 5 n a b t v), (q, plo p pr)]) ?_ b a n hb ha).mono ?_; exact b0; rintro e wy ⟨hy, rfl⟩) | (go_at_call 54; refine (rmove_two (w := w) (p := p) (S := (S.move b a n).2) (R := S) (E := [(W.heap.size, opo 5 n a b t v), (q, plo p pr)]) ?_ b a n hb ha).mono ?_; exact hx; rintro e wy ⟨hy, rfl⟩))
  all_goals
    go_wp2_with fail
    go_ret
    exact ⟨rfl, (by first | exact hy.lst | exact hx.lst)⟩
end
end Go.Proofs.Ytkooogllajmkeaa
