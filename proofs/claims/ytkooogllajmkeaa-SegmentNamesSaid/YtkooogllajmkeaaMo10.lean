/- Parts Dd De Ke, put together. -/
import Derived.Test.YtkooogllajmkeaaMo5
import Derived.Test.YtkooogllajmkeaaMo8
import Derived.Test.YtkooogllajmkeaaMo9
import Derived.LoopN
import Derived.Outline
import Derived.Deep.DeepCutAuto
import Derived.Deep.CutBlock
import Derived.RegionTactic
import Derived.BigRegion
/- A play's step (layer 21), kinds 0 and 3, and whatever is no kind. -/
namespace Go.Proofs.Ytkooogllajmkeaa
open Go.RowKit
set_option pp.deepTerms true
attribute [local go_sem ↓] Go.wp_at_zero Go.wp_at_succ
section
variable {w W : World} {q B p pr : Nat} {S R : Sp} {k n a b t v : Int}
theorem set_far {W : World} {x y : Addr} {u u' : Value} (h : W.cell? y = some u) (hne : x.block ≠ y.block) : (W.setCell x u').cell? y = some u := (World.cell?_setCell_other _ _ _ _ (fun e => hne (by rw [e]))).trans h
theorem Two.ltE {E : List (Nat × Obj)} (h : Two w p pr S R E W) : ∀ x ∈ E, x.1 < W.heap.size := by
  obtain ⟨fs, gs, h1, h2, h3, h4, h5, h6, h7⟩ := h
  exact fun x hx => lt_of_heap (h7 x hx).2.2
/-- a store into a block of the call's own -/
theorem Two.store {E : List (Nat × Obj)} {cs : Array Value} {T : TypeId} (h : Two w p pr S R ((B, .cells cs T) :: E) W) (hw : w.heap.size ≤ B) (hE : ∀ x ∈ E, x.1 ≠ B) (j : Nat) (u : Value) : Two w p pr S R ((B, .cells (cs.setIfInBounds j u) T) :: E) (W.setCell ⟨B, j, none⟩ u) := by
  obtain ⟨fs, gs, h1, h2, h3, h4, h5, h6, h7⟩ := h
  have hB := h7 _ (List.Mem.head _)
  have k : Kp [B] W (W.setCell ⟨B, j, none⟩ u) := (Kp.refl _ _).setCell (.inl (by simp)) _
  have hn : ∀ b ∈ fs, b ∉ [B] := fun b hb q => by simp only [List.mem_singleton] at q; subst q; exact hB.1 hb
  have hn' : ∀ b ∈ gs, b ∉ [B] := fun b hb q => by simp only [List.mem_singleton] at q; subst q; exact hB.2.1 hb
  refine ⟨fs, gs, h1.kp k hn, h2.kp k hn', h3, h4, h5, h6.setCell (p := ⟨B, j, none⟩) hw _, fun x hx => ?_⟩
  rcases List.mem_cons.1 hx with rfl | hx
  · exact ⟨hB.1, hB.2.1, by have := heap_setCell_same W B j _ _ u hB.2.2; simpa using this⟩
  · have := h7 x (List.mem_cons_of_mem _ hx)
    exact ⟨this.1, this.2.1, k.at this.2.2 (by simpa using hE x hx)⟩
set_option maxRecDepth 100000 in
set_option maxHeartbeats 4000000 in
theorem do0_any (h : Two w p pr S S [(q, plo p pr)] W) (n a b t v : Int) (hl : S.last ≤ 1152921504606846976) : Calls Try.prog 20 #[.pointer (some ⟨q, 0, none⟩), opv 0 n a b t v] W (DoPost w q p pr (S.take n).2) := by
  have hB := Two.alloc h (opo 0 n a b t v)
  have b0 := hB.keep (Below.refl _ _).drew
  obtain ⟨x2, x3⟩ := hB.qs
  obtain ⟨x4, x5, x6, x7, x8, x9⟩ := hB.os
  unfold opo at x2 x3 x4 x5 x6 x7 x8 x9
  unfold opv
  go_enter Try.func20, Try.ntmps20
  go_wp2_with fail
  go_region_held3 (fun W' => W'.cell? ⟨q, 0, none⟩ = some (.pointer (some ⟨p, 0, none⟩)) ∧ W'.cell? ⟨W.heap.size, 1, none⟩ = some (.int .i64 n)) (first | exact ⟨hx.qs.1, hx.os.2.1⟩ | exact ⟨b0.qs.1, b0.os.2.1⟩) ((go_at_call 12; refine (take_two (w := w) (pr := pr) (S := S) (R := S) (E := [(W.heap.size, opo 0 n a b t v), (q, plo p pr)]) ?_ n hl).mono ?_; exact b0; rintro e wx ⟨hx, rfl⟩))
  have b1 := hx.keep (Below.refl _ _).drew
  obtain ⟨y2, y3⟩ := hx.qs
  obtain ⟨y4, y5, y6, y7, y8, y9⟩ := hx.os
  clear x2 x3 x4 x5 x6 x7 x8 x9
  go_wp2_with fail
  go_region_held3 (fun W' => W'.cell? ⟨q, 1, none⟩ = some (.pointer (some ⟨pr, 0, none⟩)) ∧ W'.cell? ⟨W.heap.size, 1, none⟩ = some (.int .i64 n)) (first | exact ⟨hy.qs.2, hy.os.2.1⟩ | exact ⟨b1.qs.2, b1.os.2.1⟩) ((go_at_call 49; refine (rtake_two (w := w) (p := p) (S := (S.take n).2) (R := S) (E := [(W.heap.size, opo 0 n a b t v), (q, plo p pr)]) ?_ n hl).mono ?_; exact b1; rintro e wy ⟨hy, rfl⟩))
  clear y2 y3 y4 y5 y6 y7 y8 y9
  go_wp2_with fail
  go_ret
  exact ⟨rfl, hy.lst⟩
/-- a value in a box of its own, beside E -/
def Got (w W : World) (p pr : Nat) (S : Sp) (E : List (Nat × Obj)) (vt vn : Int) (x : Value) (W' : World) : Prop :=
  ∃ B', x = .pointer (some ⟨B', 0, none⟩) ∧ Two w p pr S S ((B', .cells #[.int .i64 vt, .int .i64 vn] 29) :: E) W' ∧ Below W.heap.size W W' ∧ ∀ x ∈ E, x.1 ≠ B'
theorem got_first {E : List (Nat × Obj)} {Wx : World} {vt vn : Int} (h : Two w p pr S S E W) (hx : Two w p pr S S ((W.heap.size, (Obj.cells #[.int .i64 0, .int .i64 0] 29)) :: E) Wx) (hb : Below (W.alloc (Obj.cells #[.int .i64 0, .int .i64 0] 29)).heap.size (W.alloc (Obj.cells #[.int .i64 0, .int .i64 0] 29)) Wx) :
    Got w W p pr S E vt vn (.pointer (some ⟨W.heap.size, 0, none⟩)) ((Wx.setCell ⟨W.heap.size, 0, none⟩ (.int .i64 vt)).setCell ⟨W.heap.size, 1, none⟩ (.int .i64 vn)) := by
  have hE : ∀ x ∈ E, x.1 ≠ W.heap.size := fun x hx => by have := h.ltE x hx; omega
  have h1 := (hx.store h.size.size hE 0 (.int .i64 vt)).store h.size.size hE 1 (.int .i64 vn)
  refine ⟨_, rfl, h1, ?_, hE⟩
  exact ((((Below.refl W.heap.size W).alloc (Nat.le_refl _) _).trans (hb.mono (by simp))).setCell (p := ⟨W.heap.size, 0, none⟩) (Nat.le_refl _) _).setCell (p := ⟨W.heap.size, 1, none⟩) (Nat.le_refl _) _
theorem got_second {E : List (Nat × Obj)} {Wx : World} {vt vn : Int} (_h : Two w p pr S S E W) (hx : Two w p pr S S E Wx) (hb : Below W.heap.size W Wx) :
    Got w W p pr S E vt vn (.pointer (some ⟨Wx.heap.size, 0, none⟩)) (Wx.alloc (.cells #[.int .i64 vt, .int .i64 vn] 29)) :=
  ⟨_, rfl, Two.alloc hx _, hb.alloc hb.size _, fun x hx' => by have := hx.ltE x hx'; omega⟩
theorem Two.facts {E : List (Nat × Obj)} (h : Two w p pr S R E W) (hb : (B, opo k n a b t v) ∈ E) (hq : (q, plo p pr) ∈ E) : W.cell? ⟨q, 0, none⟩ = some (.pointer (some ⟨p, 0, none⟩)) ∧ W.cell? ⟨q, 1, none⟩ = some (.pointer (some ⟨pr, 0, none⟩)) ∧ W.cell? ⟨B, 2, none⟩ = some (.int .i64 a) :=
  ⟨h.box hq rfl, h.box hq rfl, h.box hb rfl⟩
set_option maxRecDepth 100000 in
set_option maxHeartbeats 4000000 in
theorem do3_any (h : Two w p pr S S [(q, plo p pr)] W) (n a b t v : Int) (ha : I64 a) : Calls Try.prog 20 #[.pointer (some ⟨q, 0, none⟩), opv 3 n a b t v] W fun e w' => DoPost w q p pr S e w' ∧ Below W.heap.size W w' := by
  have hB := Two.alloc h (opo 3 n a b t v)
  have hbb := (Below.refl W.heap.size W).alloc (Nat.le_refl _) (opo 3 n a b t v)
  obtain ⟨x2, x3⟩ := hB.qs
  obtain ⟨x4, x5, x6, x7, x8, x9⟩ := hB.os
  unfold opo at x2 x3 x4 x5 x6 x7 x8 x9
  unfold opv
  have hq := h.ltE _ (List.Mem.head _)
  simp only at hq
  go_enter Try.func20, Try.ntmps20
  go_upto_region 11 with (fail)
  go_cut [9, 10] (fun x e W' => Hid (e = .int .i64 (S.get a).2 ∧ Got w (W.alloc (opo 3 n a b t v)) p pr S [(W.heap.size, opo 3 n a b t v), (q, plo p pr)] (S.get a).1.1 (S.get a).1.2 x W'))
  case first =>
    have b0 := (Two.alloc hB (Obj.cells #[.int .i64 0, .int .i64 0] 29)).keep (Below.refl _ _).drew
    have c0 := hB.keep (Below.refl _ _).drew
    have f0 := b0.facts (q := q) (B := W.heap.size) (List.Mem.tail _ (List.Mem.head _)) (List.Mem.tail _ (List.Mem.tail _ (List.Mem.head _)))
    have h1q : (⟨W.heap.size + 1, 0, none⟩ : Addr).block ≠ (⟨q, 0, none⟩ : Addr).block := by simp; omega
    have h1b : (⟨W.heap.size + 1, 0, none⟩ : Addr).block ≠ (⟨W.heap.size, 2, none⟩ : Addr).block := by simp
    go_region_held3 (fun W' => W'.cell? ⟨q, 0, none⟩ = some (.pointer (some ⟨p, 0, none⟩)) ∧ W'.cell? ⟨W.heap.size, 2, none⟩ = some (.int .i64 a)) (first | exact ⟨set_far (set_far f2.1 h1q) h1q, set_far (set_far f2.2.2 h1b) h1b⟩ | exact ⟨alloc_cell f2.1, alloc_cell f2.2.2⟩ | exact ⟨f2.1, f2.2.2⟩ | exact ⟨f0.1, f0.2.2⟩ | exact ⟨x2, x6⟩) (first | (go_at_call 19; refine (get_two (w := w) (pr := pr) (S := S) (R := S) (E := [((W.alloc (opo 3 n a b t v)).heap.size, (Obj.cells #[.int .i64 0, .int .i64 0] 29)), (W.heap.size, opo 3 n a b t v), (q, plo p pr)]) ?_ a).mono ?_; exact b0; rintro e wx ⟨hx, hbx, rfl⟩; have f2 := hx.facts (q := q) (B := W.heap.size) (List.Mem.tail _ (List.Mem.head _)) (List.Mem.tail _ (List.Mem.tail _ (List.Mem.head _))); have z0 := hx.box (j := 0) (List.Mem.head _) rfl; have z1 := hx.box (j := 1) (List.Mem.head _) rfl; have z2 := hx.free (List.Mem.head _) 0; have z3 := hx.free (List.Mem.head _) 1; have HG := Hid.mk (got_first hB hx (undrew hbx) (vt := (S.get a).1.1) (vn := (S.get a).1.2)); simp only [World.size_alloc] at z0 z1 z2 z3) | (go_at_call 19; refine (get_two (w := w) (pr := pr) (S := S) (R := S) (E := [(W.heap.size, opo 3 n a b t v), (q, plo p pr)]) ?_ a).mono ?_; exact c0; rintro e wx ⟨hx, hbx, rfl⟩; have f2 := hx.facts (q := q) (B := W.heap.size) (List.Mem.head _) (List.Mem.tail _ (List.Mem.head _)); have HG := Hid.mk (got_second hB hx (undrew hbx) (vt := (S.get a).1.1) (vn := (S.get a).1.2))))
    all_goals
      go_wp2_with fail
      go_meet
      case rel => exact ⟨rfl, by simpa using HG.out⟩
  case rest =>
    clear x2 x3 x4 x5 x6 x7 x8 x9
    obtain ⟨rfl, B1, rfl, h1, hb1, hE1⟩ := hcut.out
    clear hcut hB
    have hbW : Below W.heap.size W wc := hbb.trans (hb1.mono hbb.size)
    obtain ⟨x2, x3, x6⟩ := h1.facts (q := q) (B := W.heap.size) (List.Mem.tail _ (List.Mem.head _)) (List.Mem.tail _ (List.Mem.tail _ (List.Mem.head _)))
    have hqc := h1.ltE _ (List.Mem.tail _ (List.Mem.tail _ (List.Mem.head _)))
    have hoc := h1.ltE _ (List.Mem.tail _ (List.Mem.head _))
    simp only at hqc hoc
    go_upto_region 12 with (fail)
    go_cut [11, 12] (fun x e W' => Hid (e = .int .i64 (S.get a).2 ∧ Got w wc p pr S [(B1, Obj.cells #[.int .i64 (S.get a).1.1, .int .i64 (S.get a).1.2] 29), (W.heap.size, opo 3 n a b t v), (q, plo p pr)] (S.get a).1.1 (S.get a).1.2 x W'))
    case first =>
      have b0 := (Two.alloc h1 (Obj.cells #[.int .i64 0, .int .i64 0] 29)).keep (Below.refl _ _).drew
      have c0 := h1.keep (Below.refl _ _).drew
      have f0 := b0.facts (q := q) (B := W.heap.size) (List.Mem.tail _ (List.Mem.tail _ (List.Mem.head _))) (List.Mem.tail _ (List.Mem.tail _ (List.Mem.tail _ (List.Mem.head _))))
      have h1q : (⟨wc.heap.size, 0, none⟩ : Addr).block ≠ (⟨q, 0, none⟩ : Addr).block := by simp; omega
      have h1b : (⟨wc.heap.size, 0, none⟩ : Addr).block ≠ (⟨W.heap.size, 2, none⟩ : Addr).block := by simp; omega
      go_region_held3 (fun W' => W'.cell? ⟨q, 1, none⟩ = some (.pointer (some ⟨pr, 0, none⟩)) ∧ W'.cell? ⟨W.heap.size, 2, none⟩ = some (.int .i64 a)) (first | exact ⟨set_far (set_far f2.2.1 h1q) h1q, set_far (set_far f2.2.2 h1b) h1b⟩ | exact ⟨alloc_cell f2.2.1, alloc_cell f2.2.2⟩ | exact ⟨f2.2.1, f2.2.2⟩ | exact ⟨f0.2.1, f0.2.2⟩ | exact ⟨x3, x6⟩) (first | (go_at_call 52; refine (rget_two (w := w) (p := p) (S := S) (R := S) (E := [(wc.heap.size, (Obj.cells #[.int .i64 0, .int .i64 0] 29)), (B1, Obj.cells #[.int .i64 (S.get a).1.1, .int .i64 (S.get a).1.2] 29), (W.heap.size, opo 3 n a b t v), (q, plo p pr)]) ?_ a ha).mono ?_; exact b0; rintro e wx ⟨hx, hbx, rfl⟩; have f2 := hx.facts (q := q) (B := W.heap.size) (List.Mem.tail _ (List.Mem.tail _ (List.Mem.head _))) (List.Mem.tail _ (List.Mem.tail _ (List.Mem.tail _ (List.Mem.head _)))); have z0 := hx.box (j := 0) (List.Mem.head _) rfl; have z1 := hx.box (j := 1) (List.Mem.head _) rfl; have z2 := hx.free (List.Mem.head _) 0; have z3 := hx.free (List.Mem.head _) 1; have HG := Hid.mk (got_first h1 hx (undrew hbx) (vt := (S.get a).1.1) (vn := (S.get a).1.2))) | (go_at_call 52; refine (rget_two (w := w) (p := p) (S := S) (R := S) (E := [(B1, Obj.cells #[.int .i64 (S.get a).1.1, .int .i64 (S.get a).1.2] 29), (W.heap.size, opo 3 n a b t v), (q, plo p pr)]) ?_ a ha).mono ?_; exact c0; rintro e wx ⟨hx, hbx, rfl⟩; have f2 := hx.facts (q := q) (B := W.heap.size) (List.Mem.tail _ (List.Mem.head _)) (List.Mem.tail _ (List.Mem.tail _ (List.Mem.head _))); have HG := Hid.mk (got_second h1 hx (undrew hbx) (vt := (S.get a).1.1) (vn := (S.get a).1.2))))
      all_goals
        go_wp2_with fail
        go_meet
        case rel => exact ⟨rfl, HG.out⟩
    case rest =>
      obtain ⟨rfl, B2, rfl, h2, hb2, hE2⟩ := hcut.out
      clear hcut x2 x3 x6 hqc hoc
      have y0 := h2.box (j := 0) (List.Mem.head _) rfl
      have y1 := h2.box (j := 1) (List.Mem.head _) rfl
      have y2 := h2.box (j := 0) (List.Mem.tail _ (List.Mem.head _)) rfl
      have y3 := h2.box (j := 1) (List.Mem.tail _ (List.Mem.head _)) rfl
      have HF := Hid.mk (h2.sub (E' := [(q, plo p pr)]) (by simp))
      have HB := Hid.mk (hbW.trans (hb2.mono hbW.size))
      clear h2 hb2 hE2 h1 hb1 hE1 hbW hbb h
      go_wp2_with fail
      go_ret
      exact ⟨⟨rfl, HF.out⟩, HB.out⟩
set_option maxRecDepth 100000 in
set_option maxHeartbeats 4000000 in
theorem dox_any (h : Two w p pr S S [(q, plo p pr)] W) (k n a b t v : Int) (hk : k < 0 ∨ 7 < k) : Calls Try.prog 20 #[.pointer (some ⟨q, 0, none⟩), opv k n a b t v] W (DoPost w q p pr S) := by
  have hB := Two.alloc h (opo k n a b t v)
  obtain ⟨x4, -⟩ := hB.os
  unfold opo at x4
  unfold opv
  have HB := Hid.mk hB.lst
  have e0 : (k == 0) = false := by simp; omega
  have e1 : (k == 1) = false := by simp; omega
  have e2 : (k == 2) = false := by simp; omega
  have e3 : (k == 3) = false := by simp; omega
  have e4 : (k == 4) = false := by simp; omega
  have e5 : (k == 5) = false := by simp; omega
  have e6 : (k == 6) = false := by simp; omega
  have e7 : (k == 7) = false := by simp; omega
  clear hk hB h
  go_enter Try.func20, Try.ntmps20
  go_wp2_with fail
  go_ret
  exact ⟨rfl, HB.out⟩

end
end Go.Proofs.Ytkooogllajmkeaa
/- A play's step (layer 21), kind 6: words' values. -/
namespace Go.Proofs.Ytkooogllajmkeaa
open Go.RowKit
set_option pp.deepTerms true
attribute [local go_sem ↓] Go.wp_at_zero Go.wp_at_succ
section
variable {w W : World} {q B p pr : Nat} {S R : Sp} {k n a b t v : Int}
theorem run_few (hok : ∃ ls, S.regs = ls.map LReg.reg ∧ RegsOk S.last ls) {l : List (Int × Int)} {r : Int} (h : S.run a n = (some l, r)) : 1 ≤ l.length ∧ l.length ≤ 1048576 := by
  obtain ⟨ls, hr, ok⟩ := hok
  unfold Sp.run at h
  split at h
  · simp at h
  · split at h
    · simp at h
    · rw [hr] at h
      split at h
      · rename_i i j hloc
        obtain ⟨hi', h1, h2⟩ := locate_spec hloc
        have hi : i < ls.length := by simpa using hi'
        obtain ⟨q1, q2, q3⟩ := hasB_iff.1 h1
        simp only [List.getElem_map, LReg.reg] at q1 q2 q3 h2
        have hln := (ok.lo _ (List.getElem_mem hi)).2.2.1
        split at h
        · simp at h
        · simp only [Prod.mk.injEq, Option.some.injEq] at h
          obtain ⟨rfl, _⟩ := h
          rw [wordsAt_map hi, seg_len (by omega)]
          omega
      · simp at h
set_option maxRecDepth 100000 in
set_option maxHeartbeats 4000000 in
theorem do6n_any (h : Two w p pr S S [(q, plo p pr)] W) (n a b t v : Int) (ha : I64 a) {r : Int} (hr : S.run a n = (none, r)) : Calls Try.prog 20 #[.pointer (some ⟨q, 0, none⟩), opv 6 n a b t v] W (DoPost w q p pr S) := by
  have hB := Two.alloc h (opo 6 n a b t v)
  have b0 := hB.keep (Below.refl _ _).drew
  obtain ⟨x2, x3⟩ := hB.qs
  obtain ⟨x4, x5, x6, x7, x8, x9⟩ := hB.os
  unfold opo at x2 x3 x4 x5 x6 x7 x8 x9
  unfold opv
  go_enter Try.func20, Try.ntmps20
  go_wp2_with fail
  go_region_held3 (fun W' => W'.cell? ⟨q, 0, none⟩ = some (.pointer (some ⟨p, 0, none⟩)) ∧ W'.cell? ⟨W.heap.size, 1, none⟩ = some (.int .i64 n) ∧ W'.cell? ⟨W.heap.size, 2, none⟩ = some (.int .i64 a)) (first | exact ⟨hx.qs.1, hx.os.2.1, hx.os.2.2.1⟩ | exact ⟨b0.qs.1, b0.os.2.1, b0.os.2.2.1⟩) ((go_at_call 24; refine (run_two (w := w) (pr := pr) (S := S) (R := S) (E := [(W.heap.size, opo 6 n a b t v), (q, plo p pr)]) ?_ a n).mono ?_; exact b0; rintro e wx ⟨hx, hbx, hro⟩; rw [hr] at hro; have hro2 : e = .returned (.tuple #[.slice none 0 0, .int .i64 r]) := hro; subst hro2))
  have b1 := hx.keep (Below.refl _ _).drew
  obtain ⟨y2, y3⟩ := hx.qs
  obtain ⟨y4, y5, y6, y7, y8, y9⟩ := hx.os
  clear x2 x3 x4 x5 x6 x7 x8 x9
  go_wp2_with fail
  go_region_held3 (fun W' => W'.cell? ⟨q, 1, none⟩ = some (.pointer (some ⟨pr, 0, none⟩)) ∧ W'.cell? ⟨W.heap.size, 1, none⟩ = some (.int .i64 n) ∧ W'.cell? ⟨W.heap.size, 2, none⟩ = some (.int .i64 a)) (first | exact ⟨hy.qs.2, hy.os.2.1, hy.os.2.2.1⟩ | exact ⟨b1.qs.2, b1.os.2.1, b1.os.2.2.1⟩) ((go_at_call 55; refine (rrun_two (w := w) (p := p) (S := S) (R := S) (E := [(W.heap.size, opo 6 n a b t v), (q, plo p pr)]) ?_ a n ha).mono ?_; exact b1; rintro e wy ⟨hy, hby, vv, rfl, hvv⟩; rw [hr] at hvv ⊢; have HV := Hid.mk hvv; obtain ⟨ao, c, rfl⟩ := hvv.shape; clear hvv))
  clear y2 y3 y4 y5 y6 y7 y8 y9
  have hs := same_Same02 (.inl ⟨rfl, rfl⟩ : Rd wy (.slice none 0 0) []) HV.out (by simp)
  go_wp2_with fail
  refine hs.mono ?_
  rintro e w3 ⟨hb3, rfl⟩
  have HF := Hid.mk ((hy.keep hb3).lst)
  go_wp2_with fail
  refine wp_loop_rounds 1 ?_; rw [rounds_succ]
  go_wp2_with fail
  go_ret
  exact ⟨rfl, HF.out⟩
set_option maxRecDepth 100000 in
set_option maxHeartbeats 4000000 in
theorem do6s_any (h : Two w p pr S S [(q, plo p pr)] W) (n a b t v : Int) (ha : I64 a) {r : Int} {l : List (Int × Int)} (hr : S.run a n = (some l, r)) : Calls Try.prog 20 #[.pointer (some ⟨q, 0, none⟩), opv 6 n a b t v] W (DoPost w q p pr S) := by
  have hfew : 1 ≤ l.length ∧ l.length ≤ 1048576 := by
    obtain ⟨fs, gs, h1, -⟩ := h
    exact run_few (spc_reg h1) hr
  have hB := Two.alloc h (opo 6 n a b t v)
  have b0 := hB.keep (Below.refl _ _).drew
  obtain ⟨x2, x3⟩ := hB.qs
  obtain ⟨x4, x5, x6, x7, x8, x9⟩ := hB.os
  unfold opo at x2 x3 x4 x5 x6 x7 x8 x9
  unfold opv
  obtain ⟨m, hm⟩ : ∃ m, l.length = m := ⟨_, rfl⟩
  rw [hm] at hfew
  have HM := Hid.mk hm
  clear hm
  go_enter Try.func20, Try.ntmps20
  go_wp2_with fail
  go_region_held3 (fun W' => W'.cell? ⟨q, 0, none⟩ = some (.pointer (some ⟨p, 0, none⟩)) ∧ W'.cell? ⟨W.heap.size, 1, none⟩ = some (.int .i64 n) ∧ W'.cell? ⟨W.heap.size, 2, none⟩ = some (.int .i64 a)) (first | exact ⟨hx.qs.1, hx.os.2.1, hx.os.2.2.1⟩ | exact ⟨b0.qs.1, b0.os.2.1, b0.os.2.2.1⟩) ((go_at_call 24; refine (run_two (w := w) (pr := pr) (S := S) (R := S) (E := [(W.heap.size, opo 6 n a b t v), (q, plo p pr)]) ?_ a n).mono ?_; exact b0; rintro e wx ⟨hx, hbx, hro⟩; rw [hr] at hro; obtain ⟨g, c, hrow, hro2⟩ := hro; rw [HM.out] at hrow hro2; subst hro2))
  have b1 := hx.keep (Below.refl _ _).drew
  obtain ⟨y2, y3⟩ := hx.qs
  obtain ⟨y4, y5, y6, y7, y8, y9⟩ := hx.os
  clear x2 x3 x4 x5 x6 x7 x8 x9
  go_wp2_with fail
  go_region_held3 (fun W' => W'.cell? ⟨q, 1, none⟩ = some (.pointer (some ⟨pr, 0, none⟩)) ∧ W'.cell? ⟨W.heap.size, 1, none⟩ = some (.int .i64 n) ∧ W'.cell? ⟨W.heap.size, 2, none⟩ = some (.int .i64 a)) (first | exact ⟨hy.qs.2, hy.os.2.1, hy.os.2.2.1⟩ | exact ⟨b1.qs.2, b1.os.2.1, b1.os.2.2.1⟩) ((go_at_call 55; refine (rrun_two (w := w) (p := p) (S := S) (R := S) (E := [(W.heap.size, opo 6 n a b t v), (q, plo p pr)]) ?_ a n ha).mono ?_; exact b1; rintro e wy ⟨hy, hby, vv, rfl, hvv⟩; rw [hr] at hvv ⊢; have HV := Hid.mk hvv; obtain ⟨ao, c', rfl⟩ := hvv.shape; clear hvv))
  clear y2 y3 y4 y5 y6 y7 y8 y9
  have hrow2 : wy.ownsRow (W.alloc (opo 6 n a b t v)).heap.size 29 2 (.slice (some ⟨g, 0, none⟩) m c) m (wcells l) := Kp.row (fs := []) (Kp.of_below (undrew hby) _) hrow (by simp)
  have hs := same_Same02 (Rd.of_row hrow2 HM.out.symm) HV.out (by rw [HM.out]; omega)
  have hb0 : Below (W.alloc (opo 6 n a b t v)).heap.size (W.alloc (opo 6 n a b t v)) wy := (undrew hbx).trans ((undrew hby).mono (undrew hbx).size)
  have HB0 := Hid.mk hB
  clear hrow HV hx hy hB b0 b1 h ha hr hbx hby
  go_wp2_with fail
  refine hs.mono ?_
  rintro e w3 ⟨hb3, rfl⟩
  clear hs
  have hrow3 : w3.ownsRow (W.alloc (opo 6 n a b t v)).heap.size 29 2 (.slice (some ⟨g, 0, none⟩) m c) m (wcells l) := Kp.row (fs := []) (Kp.of_below hb3 _) hrow2 (by simp)
  have hb4 := hb0.trans (hb3.mono hb0.size)
  clear hrow2 hb3 hb0
  have hgw := (hrow3.lt g rfl).1
  have HR := Hid.mk hrow3
  have hdec : decide (l = (some l).getD []) = true := by simp
  obtain ⟨N0, hN0⟩ : ∃ N0, (W.alloc (opo 6 n a b t v)).heap.size = N0 := ⟨_, rfl⟩
  rw [hN0] at hgw HR hb4
  have HN0 := Hid.mk hN0
  clear hN0 hrow3
  go_wp2_with fail
  go_loopw [202] (fun i wr => ∃ (k : Nat) (cs : List Value), i = .int .i64 k ∧ k ≤ m ∧ Hid (wr.ownsRow N0 29 2 (.slice (some ⟨g, 0, none⟩) m c) m cs ∧ ∀ j, k ≤ j → (hj : j < l.length) → cs[j * 2 + 1]? = some (.int .i64 l[j].2)) ∧ Below N0 (W.alloc (opo 6 n a b t v)) wr) (fun i _ => m - (intOf i).toNat)
  case atStart => exact ⟨0, _, rfl, by omega, ⟨HR.out, fun j _ hj => wcells_snd hj⟩, hb4⟩
  case round =>
    clear hb4 HR
    obtain ⟨k, cs, rfl, hk, HX, hbw⟩ := hrel
    by_cases hlt : k < m
    · have h1 : k < l.length := by rw [HM.out]; exact hlt
      have hc := row_cell HX.out.1 (HX.out.2 k (Nat.le_refl _) h1)
      have hf := row_free HX.out.1 (k * 2 + 1)
      obtain ⟨y, hy⟩ : ∃ y, l[k].2 = y := ⟨_, rfl⟩
      rw [hy] at hc
      have HN : Hid (∀ u, (wr.setCell ⟨g, k * 2 + 1, none⟩ u).ownsRow N0 29 2 (.slice (some ⟨g, 0, none⟩) m c) m (cs.set (k * 2 + 1) u) ∧ ∀ j, k + 1 ≤ j → (hj : j < l.length) → (cs.set (k * 2 + 1) u)[j * 2 + 1]? = some (.int .i64 l[j].2)) := by
        intro u
        refine ⟨(HX.out.1.stored (k * 2 + 1) u).1, fun j hj hjl => ?_⟩
        rw [List.getElem?_set_ne (by omega)]
        exact HX.out.2 j (by omega) hjl
      clear hy HX
      go_wp2_with fail
      exact ⟨⟨k + 1, _, by go_num, by omega, HN.out _, hbw.setCell (p := ⟨g, k * 2 + 1, none⟩) hgw _⟩, by simp [intOf]; omega⟩
    · obtain rfl : k = m := by omega
      have HF := Hid.mk ((HB0.out.keep (by rw [HN0.out]; exact hbw)).lst)
      clear HX
      go_wp2_with fail
      go_ret
      exact ⟨by simp, HF.out⟩
end
end Go.Proofs.Ytkooogllajmkeaa
/- SpaceKeeps: the operations' loop. -/
namespace Go.Proofs.Ytkooogllajmkeaa
open Go.RowKit Go.Maps
set_option pp.deepTerms true
/-- the map holds what the space's words hold -/
def KR (w : World) (p m k : Nat) (W : World) : Prop := ∃ S o D, S.last ≤ 202 * (k : Int) ∧ Loc w p S [(m, o)] W ∧ MObj o k D ∧ MapIs D (full S)
theorem KR.mk {w W : World} {p m k : Nat} {S : Sp} {o : Obj} {D : DataW Unit} {f : Int → Option (Int × Int)} (h1 : S.last ≤ 202 * ((k + 1 : Nat) : Int)) {E : List (Nat × Obj)} (h2 : Loc w p S E W) (hm : (m, o) ∈ E) (h3 : MObj o k D) (h4 : MapIs D f) (h5 : ∀ a, full S a = f a) : KR w p m (k + 1) W :=
  ⟨S, o, D, h1, h2.weak (by intro x hx; simp only [List.mem_singleton] at hx; subst hx; exact hm), h3.mono (by omega), mapIs_ext h4 h5⟩
theorem KR.mk' {w W : World} {p m k : Nat} {S : Sp} {o : Obj} {D : DataW Unit} {f : Int → Option (Int × Int)} (h1 : S.last ≤ 202 * ((k + 1 : Nat) : Int)) {E : List (Nat × Obj)} (h2 : Loc w p S E W) (hm : (m, o) ∈ E) (h3 : MObj o (k + 1) D) (h4 : MapIs D f) (h5 : ∀ a, full S a = f a) : KR w p m (k + 1) W :=
  ⟨S, o, D, h1, h2.weak (by intro x hx; simp only [List.mem_singleton] at hx; subst hx; exact hm), h3, mapIs_ext h4 h5⟩
theorem let_spok {S : Sp} (ok : Spok S) (a : Int) : Spok (S.let_ a).2 := by
  unfold Sp.let_
  split
  · rename_i i _
    obtain ⟨ls, hl, okl⟩ := ok
    exact ⟨ls.eraseIdx i, by simp only [hl]; exact map_erase _ _ _, okl.erase i⟩
  · exact ok
theorem mapIs_step {D : DataW Unit} {S : Sp} {a : Int} {j : Nat} (h : MapIs D (fun b => if a ≤ b ∧ b < a + j then none else full S b)) : MapIs (D.del (.int .i64 (a + j))) (fun b => if a ≤ b ∧ b < a + ((j + 1 : Nat) : Int) then none else full S b) := by
  refine mapIs_ext (mapIs_del h (a + j)) fun b => ?_
  by_cases e : b = a + j
  · rw [if_pos e, if_pos (by omega)]
  · rw [if_neg e]
    by_cases q : a ≤ b ∧ b < a + j
    · rw [if_pos q, if_pos (by omega)]
    · rw [if_neg q, if_neg (by omega)]
theorem mapIs_start {D : DataW Unit} {S : Sp} {a : Int} (h : MapIs D (full S)) : MapIs D (fun b => if a ≤ b ∧ b < a + ((0 : Nat) : Int) then none else full S b) := mapIs_ext h fun b => by rw [if_neg (by omega)]
theorem cntAll_le : ∀ rs : List Reg, cntAll rs ≤ total rs
  | [] => Nat.le_refl _
  | r :: rs => by
    have h1 := cnt_le r.words
    have h2 := cntAll_le rs
    simp only [cntAll, total, List.map_cons, List.sum_cons] at h2 ⊢
    omega
theorem cntTo_le (rs : List Reg) : ∀ d i : Nat, i + d = rs.length → cntTo rs i ≤ cntAll rs := by
  intro d
  induction d with
  | zero => intro i hi; rw [← cntTo_all, ← hi]; exact Nat.le_refl _
  | succ d ih =>
    intro i hi
    have h2 := ih (i + 1) (by omega)
    rw [cntTo_succ (by omega)] at h2
    omega
theorem total_le {S : Sp} (ok : Spok S) : total S.regs ≤ 4194304 := by
  obtain ⟨ls, hl, okl⟩ := ok
  rw [hl, total_map]
  exact okl.live
theorem cnt_bound {S : Sp} (ok : Spok S) {j : Nat} (hj : j < S.regs.length) (q : Nat) : cntTo S.regs j + cnt (S.regs[j].words.take q) ≤ 4194304 := by
  have h1 : cnt (S.regs[j].words.take q) ≤ cnt S.regs[j].words := (List.take_sublist q _).countP_le
  have h2 := cntTo_le S.regs (S.regs.length - (j + 1)) (j + 1) (by omega)
  rw [cntTo_succ hj] at h2
  have h3 := cntAll_le S.regs
  have h4 := total_le ok
  omega
theorem get_locb {w W : World} {p : Nat} {S : Sp} {E : List (Nat × Obj)} (h : Loc w p S E W) (a : Int) {t n r : Int} (he : S.get a = ((t, n), r)) :
    Calls Try.prog 19 #[.pointer (some ⟨p, 0, none⟩), .int .i64 a] W fun e w' => Loc w p S E w' ∧ Below W.heap.size W w' ∧ e = .returned (.tuple #[.agg #[.int .i64 t, .int .i64 n], .int .i64 r]) := by
  have h0 := h
  obtain ⟨fs, h1, h2, h3, h4⟩ := h
  refine (get_spc h1 a).mono ?_
  rw [he]
  rintro e w' ⟨hb, rfl⟩
  exact ⟨h0.keep hb, hb, rfl⟩
/-- what the last loops read -/
def KF (S : Sp) (l : List (Int × Int)) (D : DataW Unit) : Prop := ∀ j (hj : j < l.length), ∃ (x1 : Int) (ws : List (Int × Int)), l[j] = (x1, (ws.length : Int)) ∧ 1 ≤ x1 ∧ x1 + ws.length ≤ S.last + 1 ∧ cntTo S.regs (j + 1) = cntTo S.regs j + cnt ws ∧
  (∀ q, cntTo S.regs j + cnt (ws.take q) ≤ 4194304) ∧ ∀ q (hq : q < ws.length), (ws[q] = (0, 0) ∧ has D (.int .i64 (x1 + q)) = false ∧ D.atKey (.int .i64 (x1 + q)) (pd (0, 0)) = pd (0, 0) ∧ (∃ e, e ≠ 0 ∧ S.get (x1 + q) = ((0, 0), e)) ∧ cnt (ws.take (q + 1)) = cnt (ws.take q)) ∨
    (∃ t v : Int, has D (.int .i64 (x1 + q)) = true ∧ D.atKey (.int .i64 (x1 + q)) (pd (0, 0)) = pd (t, v) ∧ S.get (x1 + q) = ((t, v), 0) ∧ cnt (ws.take (q + 1)) = cnt (ws.take q) + 1)
theorem kf_mk {S : Sp} (ok : Spok S) {D : DataW Unit} (h : MapIs D (full S)) : KF S (tells S.regs) D := by
  intro j hj
  obtain ⟨hr, e⟩ := tells_get hj
  obtain ⟨b1, b2, b3, -, -⟩ := tells_at ok hj
  rw [e] at b1 b2 b3
  refine ⟨S.regs[j].base, S.regs[j].words, e, b1, b3, cntTo_succ hr, cnt_bound ok hr, fun q hq => ?_⟩
  have hf := full_at ok hr hq
  obtain ⟨m1, m2⟩ := h.2 (S.regs[j].base + q)
  have hc := cnt_take hq
  by_cases hz : S.regs[j].words[q] = (0, 0)
  · rw [if_pos hz] at hf hc
    rw [hf] at m1 m2
    exact .inl ⟨hz, m1, m2, get_none hf, hc⟩
  · rw [if_neg hz] at hf hc
    rw [hf] at m1 m2
    exact .inr ⟨S.regs[j].words[q].1, S.regs[j].words[q].2, m1, m2, get_full hf, hc⟩
theorem drop_last (S : Sp) (a m : Int) : (S.drop a m).2.last = S.last := by
  unfold Sp.drop
  split
  · rfl
  · split
    · rfl
    · split <;> rfl
theorem put_last (S : Sp) (a : Int) (v : Int × Int) : (S.put a v).2.last = S.last := by
  unfold Sp.put
  split
  · split <;> rfl
  · rfl

set_option maxRecDepth 100000 in
set_option maxHeartbeats 2000000 in
theorem keeps_any {w : World} {v : Value} {os : List Opr} (h : OpsAt w v os) : Calls Try.prog 4 #[v] w fun e w' => e = .returned (.bool true) ∧ Below w.heap.size w w' := by
  have hmm := @run_makeMap Try.prog
  have h2 := h
  obtain ⟨⟨ao, c, rfl⟩, hml, hok, hc⟩ := h
  clear hml
  go_enter Try.func4, Try.ntmps4
  go_wp2_with fail
  refine (alive21_any _).mono ?_
  rintro e w1 ⟨rfl, hb1⟩
  go_wp2_with fail
  refine (great21_any (h2.below hb1)).mono ?_
  rintro e w2 ⟨hb2, hg⟩
  have hb := hb1.trans (hb2.mono hb1.size)
  clear hb1 hb2 h2
  rcases hg with rfl | ⟨rfl, hs⟩
  · go_wp2
    go_ret
    exact ⟨rfl, hb⟩
  · obtain ⟨n, hn⟩ : ∃ n, os.length = n := ⟨_, rfl⟩
    have HN := Hid.mk hn
    have hn150 : n ≤ 150 := by rw [← hn]; exact hs.1
    have HS := Hid.mk hs.2
    have HOK := Hid.mk hok
    have HC : Hid (∀ i (hi : i < os.length), ∃ b o, ao = some ⟨b, o, none⟩ ∧ b < w.heap.size ∧ OprAt w b (o + i * 6) os[i]) := by
      intro i hi
      obtain ⟨b, o, c', e, hb, ha⟩ := hc (by omega)
      simp only [Value.slice.injEq] at e
      exact ⟨b, o, e.1, hb, ha i hi⟩
    clear hc hs hok
    rw [hn]
    clear hn
    have L0 := Loc.alloc (Loc.new hb) (.map #[] 0)
    have hwm : w.heap.size ≤ w2.heap.size + 1 := Nat.le_succ_of_le hb.size
    have hm0 : (w2.alloc (.cells #[.slice none 0 0, .int .i64 0] 27)).heap.size = w2.heap.size + 1 := by simp
    rw [hm0] at L0
    obtain ⟨p, hp⟩ : ∃ p, w2.heap.size = p := ⟨_, rfl⟩
    rw [hp] at L0 hwm
    clear hm0
    have K0 : Hid (KR w p (p + 1) 0 ((w2.alloc (.cells #[.slice none 0 0, .int .i64 0] 27)).alloc (.map #[] 0))) :=
      ⟨_, _, .map [], by simp, L0, ⟨#[], 0, rfl, ⟨by simp, Go.MapKept.stamped_empty 0, by simp⟩, Nat.le_refl _, rfl⟩, mapIs_ext mapIs_empty (fun a => by simp [full, locate])⟩
    clear L0
    go_wp2_with fail
    go_loopw [33] (fun i wr => ∃ k : Nat, i = .int .i64 k ∧ k ≤ n ∧ Hid (KR w p (p + 1) k wr)) (fun i _ => n - (intOf i).toNat)
    case atStart => exact ⟨0, rfl, by omega, K0⟩
    case round =>
      clear K0
      obtain ⟨k, rfl, hk, HK⟩ := hrel
      obtain ⟨m, hpm⟩ : ∃ m, p + 1 = m := ⟨_, rfl⟩
      rw [hpm] at HK hwm ⊢
      obtain ⟨S, o, D, hl, HL, HMO, HMI⟩ := HK.out
      clear HK
      by_cases hlt : k < n
      · have h1 : k < os.length := by rw [HN.out]; exact hlt
        obtain ⟨b, o', rfl, hbl, a0, a1, a2, a3, a4, a5⟩ := HC.out k h1
        have hbw := HL.size
        have c0 := (hbw.cell (p := ⟨b, o' + k * 6, none⟩) hbl).trans a0
        have c1 := (hbw.cell (p := ⟨b, o' + k * 6 + 1, none⟩) hbl).trans a1
        have c2 := (hbw.cell (p := ⟨b, o' + k * 6 + 2, none⟩) hbl).trans a2
        have c3 := (hbw.cell (p := ⟨b, o' + k * 6 + 3, none⟩) hbl).trans a3
        have c4 := (hbw.cell (p := ⟨b, o' + k * 6 + 4, none⟩) hbl).trans a4
        have c5 := (hbw.cell (p := ⟨b, o' + k * 6 + 5, none⟩) hbl).trans a5
        clear a0 a1 a2 a3 a4 a5 hbw
        obtain ⟨x, hx⟩ : ∃ x, x = os[k] := ⟨_, rfl⟩
        have hsm : x.k = 0 → x.n ≤ 200 ∨ 1048576 < x.n := by rw [hx]; exact HS.out _ (List.getElem_mem h1)
        have hxo : OprOk x := by rw [hx]; exact HOK.out _ (List.getElem_mem h1)
        rw [← hx] at c0 c1 c2 c3 c4 c5
        clear hx h1
        have ok := HL.ok
        have hlast := ok.last0
        have H1 := Loc.alloc HL (.cells #[.int .i64 x.k, .int .i64 x.n, .int .i64 x.a, .int .i64 x.b, .int .i64 x.t, .int .i64 x.v] 31)
        have hwm' : wr.heap.size ≠ m := by have := lt_of_heap (HL.obj (List.Mem.head _)); omega
        by_cases hk0 : x.k = 0
        · have hx0 : (x.k == 0) = true := by simp [hk0]
          have hm := hsm hk0
          obtain ⟨r1, r2, S', e⟩ : ∃ r1 r2 S', S.take x.n = ((r1, r2), S') := ⟨_, _, _, rfl⟩
          have hl' : S'.last ≤ 202 * ((k + 1 : Nat) : Int) := by
            rcases take_cases S x.n with q | ⟨m1, m2, q, el⟩
            · rw [e] at q; simp only [Prod.mk.injEq] at q; rw [q.2]; omega
            · rw [e] at el; simp only at el; rw [el]; unfold nextBase; split <;> omega
          have hf : Spok S' → ∀ a, full S' a = full S a := fun q a => by have := full_take ok x.n (by rw [e]; exact q) a; rw [e] at this; exact this
          clear hk0 hsm hm
          go_wp2_with fail
          refine (take_loc (w := w) H1 x.n (by omega) e).mono ?_
          rintro e w3 ⟨h3, rfl⟩
          have HKR := Hid.mk (KR.mk hl' h3 (List.Mem.tail _ (List.Mem.head _)) HMO HMI (hf h3.ok))
          clear HL H1 h3 HMO HMI
          go_wp2_with fail
          exact ⟨⟨k + 1, by go_num, by omega, HKR⟩, by simp [intOf]; omega⟩
        · have hx0 : (x.k == 0) = false := by simp [hk0]
          clear hsm
          by_cases hk1 : x.k = 1
          · have hx1 : (x.k == 1) = true := by simp [hk1]
            clear hk0 hk1
            by_cases hr : (S.let_ x.a).1 = 0
            · obtain ⟨S', e⟩ : ∃ S', S.let_ x.a = (0, S') := ⟨_, Prod.ext hr rfl⟩
              have ok' : Spok S' := by have := let_spok ok x.a; rw [e] at this; exact this
              have el : S'.last = S.last := by have := let_last S x.a; rw [e] at this; exact this
              obtain ⟨nw, n1, n2, n3, n4, eo, hf⟩ := full_let ok e ok'
              have HF := Hid.mk hf
              clear hf hr
              go_wp2_with fail
              refine (of_locb (w := w) H1 x.a eo).mono ?_
              rintro e' w3 ⟨h3, hb3, rfl⟩
              have hs3 : wr.heap.size < w3.heap.size := by have := hb3.size; simp at this; omega
              have hm3 : m < wr.heap.size := lt_of_heap (HL.obj (List.Mem.head _))
              have g2 := fun ob => (Loc.alloc h3 ob).box (j := 2) (List.Mem.tail _ (List.Mem.head _)) rfl
              go_wp2_with fail
              refine (let_loc (w := w) (Loc.alloc h3 _) x.a e).mono ?_
              rintro e' w4 ⟨h4, rfl⟩
              clear g2
              have r0 := h4.box (j := 0) (List.Mem.head _) rfl
              have r1 := h4.box (j := 1) (List.Mem.head _) rfl
              have g2 := h4.box (j := 2) (List.Mem.tail _ (List.Mem.head _)) rfl
              have HM0 := Hid.mk (mapIs_start (a := x.a) HMI)
              clear HL H1 h3 hb3 HMI c0 c1 c2 c3 c4 c5
              go_wp2_with fail
              go_loopw [67] (fun i wq => ∃ (j : Nat) (o' : Obj) (D' : DataW Unit), i = .int .i64 j ∧ j ≤ nw ∧ Loc w p S' ([(w3.heap.size, .cells #[.int .i64 x.a, .int .i64 nw] 39), (wr.heap.size, .cells #[.int .i64 x.k, .int .i64 x.n, .int .i64 x.a, .int .i64 x.b, .int .i64 x.t, .int .i64 x.v] 31)] ++ [(m, o')]) wq ∧ MObj o' k D' ∧ Hid (MapIs D' (fun b => if x.a ≤ b ∧ b < x.a + (j : Int) then none else full S b))) (fun i _ => nw - (intOf i).toNat)
              case atStart => exact ⟨0, o, D, rfl, by omega, h4, HMO, HM0⟩
              case round =>
                clear h4 HMO HM0 r0 r1 g2
                obtain ⟨j, o1, D1, rfl, hj, HL, HMO, HM⟩ := hrel
                by_cases hjn : j < nw
                · have r0 := HL.box (j := 0) (List.Mem.head _) rfl
                  have own := HMO.owns (HL.obj (List.Mem.tail _ (List.Mem.tail _ (List.Mem.head _))))
                  have ew : IntKind.i64.wrap (x.a + (j : Int)) = x.a + j := by rw [IntKind.wrap_i64]; omega
                  go_wp2_with (first | (at_delete; refine wpList_delete_own _ rfl _ _ 45 2 rfl 29 law64 Try.underlying45 pairElem m k D1 rfl own _ _ rfl (key64 (a := x.a + (j : Int)) ⟨by omega, by omega⟩) ?_; intro w9 hown9 hturn9) | fail)
                  obtain ⟨o9, ho9, hM9⟩ := owns_obj hown9
                  exact ⟨⟨j + 1, o9, _, by go_num, by omega, map_loc HL (by simp; omega) hwm hturn9.grown ho9, hM9, mapIs_step HM.out⟩, by simp [intOf]; omega⟩
                · obtain rfl : j = nw := by omega
                  have HKR := Hid.mk (KR.mk (by omega) HL (List.Mem.tail _ (List.Mem.tail _ (List.Mem.head _))) HMO HM.out HF.out)
                  clear HL HMO HM HF
                  go_wp2_with fail
                  exact ⟨⟨k + 1, by go_num, by omega, HKR⟩, by simp [intOf]; omega⟩
            · obtain ⟨r, hr1⟩ : ∃ r, (S.let_ x.a).1 = r := ⟨_, rfl⟩
              have e : S.let_ x.a = (r, S) := Prod.ext hr1 (let_err hr)
              rw [hr1] at hr
              have hr2 : (r == 0) = false := by simp [hr]
              obtain ⟨q1, q2, q3, eo⟩ : ∃ q1 q2 q3, S.of x.a = ((q1, q2), q3) := ⟨_, _, _, rfl⟩
              go_wp2_with fail
              refine (of_locb (w := w) H1 x.a eo).mono ?_
              rintro e' w3 ⟨h3, hb3, rfl⟩
              have g2 := fun ob => (Loc.alloc h3 ob).box (j := 2) (List.Mem.tail _ (List.Mem.head _)) rfl
              go_wp2_with fail
              refine (let_loc (w := w) (Loc.alloc h3 _) x.a e).mono ?_
              rintro e' w4 ⟨h4, rfl⟩
              have HKR := Hid.mk (KR.mk (by omega) h4 (List.Mem.tail _ (List.Mem.tail _ (List.Mem.head _))) HMO HMI (fun _ => rfl))
              clear HL H1 h3 h4 HMO HMI
              go_wp2_with fail
              exact ⟨⟨k + 1, by go_num, by omega, HKR⟩, by simp [intOf]; omega⟩
          · have hx1 : (x.k == 1) = false := by simp [hk1]
            by_cases hk2 : x.k = 2
            · have hx2 : (x.k == 2) = true := by simp [hk2]
              clear hk0 hk1 hk2
              by_cases hr : (S.put x.a (x.t, x.v)).1 = 0
              · obtain ⟨S', e⟩ : ∃ S', S.put x.a (x.t, x.v) = (0, S') := ⟨_, Prod.ext hr rfl⟩
                have el : S'.last = S.last := by have := put_last S x.a (x.t, x.v); rw [e] at this; exact this
                go_wp2_with fail
                refine (put_loc (w := w) H1 x.a x.t x.v e).mono ?_
                rintro e' w4 ⟨h4, rfl⟩
                have hm3 : m < wr.heap.size := lt_of_heap (HL.obj (List.Mem.head _))
                have g2 := h4.box (j := 2) (List.Mem.head _) rfl
                have g4 := h4.box (j := 4) (List.Mem.head _) rfl
                have g5 := h4.box (j := 5) (List.Mem.head _) rfl
                have own := HMO.owns (h4.obj (List.Mem.tail _ (List.Mem.head _)))
                have HM := Hid.mk (mapIs_put HMI hxo.2.2.1 (x.t, x.v))
                have HF := Hid.mk (full_put ok e h4.ok)
                clear HL H1 HMO HMI c0 c1 c2 c3 c4 c5
                go_wp2_with (first | (at_mapUpdate; refine wpList_mapUpdate_own _ rfl _ _ _ 45 rfl 2 29 law64 Try.underlying45 pairElem m k D rfl own (by unfold maxLen; omega) _ _ _ rfl rfl (key64 hxo.2.2.1) _ [] (pairElem_mk _ _) ?_; intro w9 hown9 hgrow9) | fail)
                obtain ⟨o9, ho9, hM9⟩ := owns_obj hown9
                have h9 := map_loc (E := [_]) h4 (by simp; omega) hwm hgrow9 ho9
                exact ⟨⟨k + 1, by go_num, by omega, KR.mk' (by omega) h9 (List.Mem.tail _ (List.Mem.head _)) hM9 HM.out HF.out⟩, by simp [intOf]; omega⟩
              · obtain ⟨r, hr1⟩ : ∃ r, (S.put x.a (x.t, x.v)).1 = r := ⟨_, rfl⟩
                have e : S.put x.a (x.t, x.v) = (r, S) := Prod.ext hr1 (put_err hr)
                rw [hr1] at hr
                have hr2 : (r == 0) = false := by simp [hr]
                go_wp2_with fail
                refine (put_loc (w := w) H1 x.a x.t x.v e).mono ?_
                rintro e' w4 ⟨h4, rfl⟩
                have HKR := Hid.mk (KR.mk (by omega) h4 (List.Mem.tail _ (List.Mem.head _)) HMO HMI (fun _ => rfl))
                clear HL H1 h4 HMO HMI
                go_wp2_with fail
                exact ⟨⟨k + 1, by go_num, by omega, HKR⟩, by simp [intOf]; omega⟩
            · have hx2 : (x.k == 2) = false := by simp [hk2]
              by_cases hk4 : x.k = 4
              · have hx4 : (x.k == 4) = true := by simp [hk4]
                clear hk0 hk1 hk2 hk4
                by_cases hr : (S.drop x.a x.n).1 = 0
                · obtain ⟨S', e⟩ : ∃ S', S.drop x.a x.n = (0, S') := ⟨_, Prod.ext hr rfl⟩
                  have el : S'.last = S.last := by have := drop_last S x.a x.n; rw [e] at this; exact this
                  clear hr
                  go_wp2_with fail
                  refine (drop_loc (w := w) H1 x.a x.n e).mono ?_
                  rintro e' w4 ⟨h4, rfl⟩
                  obtain ⟨n1, n2, n3, hf⟩ := full_drop ok e h4.ok
                  obtain ⟨nw, hnw⟩ : ∃ nw : Nat, x.n = nw := ⟨x.n.toNat, by omega⟩
                  rw [hnw] at hf n1 n2 n3
                  have HF := Hid.mk hf
                  have hm3 : m < wr.heap.size := lt_of_heap (HL.obj (List.Mem.head _))
                  have g1 := h4.box (j := 1) (List.Mem.head _) rfl
                  rw [hnw] at g1
                  have HM0 := Hid.mk (mapIs_start (a := x.a) HMI)
                  clear HL H1 HMI hf c0 c1 c2 c3 c4 c5 e
                  go_wp2_with fail
                  go_loopw [99] (fun i wq => ∃ (j : Nat) (o' : Obj) (D' : DataW Unit), i = .int .i64 j ∧ j ≤ nw ∧ Loc w p S' ([(wr.heap.size, .cells #[.int .i64 x.k, .int .i64 x.n, .int .i64 x.a, .int .i64 x.b, .int .i64 x.t, .int .i64 x.v] 31)] ++ [(m, o')]) wq ∧ MObj o' k D' ∧ Hid (MapIs D' (fun b => if x.a ≤ b ∧ b < x.a + (j : Int) then none else full S b))) (fun i _ => nw - (intOf i).toNat)
                  case atStart => exact ⟨0, o, D, rfl, by omega, h4, HMO, HM0⟩
                  case round =>
                    clear h4 HMO HM0 g1
                    obtain ⟨j, o1, D1, rfl, hj, HL, HMO, HM⟩ := hrel
                    by_cases hjn : j < nw
                    · have r0 := HL.box (j := 2) (List.Mem.head _) rfl
                      have own := HMO.owns (HL.obj (List.Mem.tail _ (List.Mem.head _)))
                      have n4 := n3 (by omega)
                      have ew : IntKind.i64.wrap (x.a + (j : Int)) = x.a + j := by rw [IntKind.wrap_i64]; omega
                      go_wp2_with (first | (at_delete; refine wpList_delete_own _ rfl _ _ 45 2 rfl 29 law64 Try.underlying45 pairElem m k D1 rfl own _ _ rfl (key64 (a := x.a + (j : Int)) ⟨by omega, by omega⟩) ?_; intro w9 hown9 hturn9) | fail)
                      obtain ⟨o9, ho9, hM9⟩ := owns_obj hown9
                      exact ⟨⟨j + 1, o9, _, by go_num, by omega, map_loc HL (by simp; omega) hwm hturn9.grown ho9, hM9, mapIs_step HM.out⟩, by simp [intOf]; omega⟩
                    · obtain rfl : j = nw := by omega
                      have HKR := Hid.mk (KR.mk (by omega) HL (List.Mem.tail _ (List.Mem.head _)) HMO HM.out HF.out)
                      clear HL HMO HM HF
                      go_wp2_with fail
                      exact ⟨⟨k + 1, by go_num, by omega, HKR⟩, by simp [intOf]; omega⟩
                · obtain ⟨r, hr1⟩ : ∃ r, (S.drop x.a x.n).1 = r := ⟨_, rfl⟩
                  have e : S.drop x.a x.n = (r, S) := Prod.ext hr1 (drop_err hr)
                  rw [hr1] at hr
                  have hr2 : (r == 0) = false := by simp [hr]
                  go_wp2_with fail
                  refine (drop_loc (w := w) H1 x.a x.n e).mono ?_
                  rintro e' w4 ⟨h4, rfl⟩
                  have HKR := Hid.mk (KR.mk (by omega) h4 (List.Mem.tail _ (List.Mem.head _)) HMO HMI (fun _ => rfl))
                  clear HL H1 h4 HMO HMI
                  go_wp2_with fail
                  exact ⟨⟨k + 1, by go_num, by omega, HKR⟩, by simp [intOf]; omega⟩
              · have hx4 : (x.k == 4) = false := by simp [hk4]
                clear hk0 hk1 hk2 hk4
                have HKR := Hid.mk (KR.mk (by omega) H1 (List.Mem.tail _ (List.Mem.head _)) HMO HMI (fun _ => rfl))
                clear HL H1 HMO HMI
                go_wp2_with fail
                exact ⟨⟨k + 1, by go_num, by omega, HKR⟩, by simp [intOf]; omega⟩
      · obtain rfl : k = n := by omega
        have ok := HL.ok
        have hlast := ok.last0
        have HKF := Hid.mk (kf_mk ok HMI)
        have own0 := HMO.owns (HL.obj (List.Mem.head _))
        have HCN := Hid.mk (map_count ok (own0.tidy law64) HMI)
        have hcnt := tells_count ok
        have HA := Hid.mk (cntTo_all S.regs)
        clear own0
        go_wp2_with fail
        refine (regions_loc (w := w) HL rfl).mono ?_
        rintro e w3 ⟨h3, v, hv, rfl⟩
        obtain ⟨l, hl'⟩ : ∃ l, tells S.regs = l := ⟨_, rfl⟩
        rw [← tells_len S.regs] at HA
        rw [hl'] at hv HKF hcnt HA
        clear hl' HL HMI
        obtain ⟨nl, hnl⟩ : ∃ nl, l.length = nl := ⟨_, rfl⟩
        obtain ⟨av, cv, rfl⟩ := hv.shape
        rw [hnl] at hv hcnt HA
        have HNL := Hid.mk hnl
        rw [hnl]
        clear hnl
        go_wp2_with fail
        go_loopw [111, 12] (fun i f wq => ∃ j : Nat, i = .int .i64 j ∧ f = .int .i64 (cntTo S.regs j : Nat) ∧ j ≤ nl ∧ Loc w p S [(m, o)] wq ∧ Rd wq (.slice av nl cv) l) (fun i _ _ => nl - (intOf i).toNat)
        case atStart => exact ⟨0, rfl, by rw [cntTo_zero]; rfl, by omega, h3, hv⟩
        case round =>
          clear h3 hv
          obtain ⟨j, rfl, rfl, hj, HL, HR⟩ := hrel
          by_cases hjl : j < nl
          · have hj1 : j < l.length := by rw [HNL.out]; exact hjl
            obtain ⟨ba, oa, ca, ev, hba, hcell⟩ := HR.some (by omega)
            rw [HNL.out] at ev
            simp only [Value.slice.injEq, true_and] at ev
            obtain ⟨rfl, rfl⟩ := ev
            obtain ⟨x1, ws, hx, f1, f2, f3, f4, f5⟩ := HKF.out j hj1
            have d0 := (hcell j hj1).1
            have d1 := (hcell j hj1).2
            rw [hx] at d0 d1
            simp only at d0 d1
            obtain ⟨cj, hcj⟩ : ∃ cj, cntTo S.regs j = cj := ⟨_, rfl⟩
            obtain ⟨nw, hnw⟩ : ∃ nw, ws.length = nw := ⟨_, rfl⟩
            rw [hcj] at f3 f4
            rw [hnw] at f2 d1
            have F3 := Hid.mk f3
            have F4 := Hid.mk f4
            have F5 := Hid.mk f5
            have HNW := Hid.mk hnw
            have hcj0 := f4 0
            rw [hcj]
            clear hcell hx hcj f3 f4 f5 hnw
            have HB := Loc.alloc HL (.cells #[.int .i64 x1, .int .i64 nw] 39)
            have HRB := HR.below ((Below.refl wr.heap.size wr).alloc (Nat.le_refl _) (.cells #[.int .i64 x1, .int .i64 nw] 39))
            clear HL HR
            go_wp2_with fail
            go_loopw [117, 12] (fun i f wz => ∃ q : Nat, i = .int .i64 q ∧ f = .int .i64 ((cj + cnt (ws.take q) : Nat) : Int) ∧ q ≤ nw ∧ Loc w p S [(wr.heap.size, .cells #[.int .i64 x1, .int .i64 nw] 39), (m, o)] wz ∧ Rd wz (.slice (some ⟨ba, oa, none⟩) nl cv) l) (fun i _ _ => nw - (intOf i).toNat)
            case atStart => exact ⟨0, rfl, by simp [cnt], by omega, HB, HRB⟩
            case round =>
              clear HB HRB d0 d1
              obtain ⟨q, rfl, rfl, hq, HL, HR⟩ := hrel
              by_cases hqn : q < nw
              · have r0 := HL.box (j := 0) (List.Mem.head _) rfl
                have ew : IntKind.i64.wrap (x1 + (q : Int)) = x1 + q := by rw [IntKind.wrap_i64]; omega
                have hin : In64 (x1 + (q : Int)) := ⟨by omega, by omega⟩
                have hb4 := F4.out q
                rcases F5.out q (by rw [HNW.out]; exact hqn) with ⟨-, k1, k2, ⟨er, her, k3⟩, k4⟩ | ⟨t, v, k1, k2, k3, k4⟩
                · have HK4 := Hid.mk k4
                  clear k4
                  obtain ⟨cq, hcq⟩ : ∃ cq, cj + cnt (ws.take q) = cq := ⟨_, rfl⟩
                  rw [hcq] at hb4
                  have HCQ := Hid.mk hcq
                  rw [hcq]
                  clear hcq
                  have he0 : (er == 0) = false := by simp [her]
                  go_wp2_with fail
                  refine (get_locb (w := w) HL (x1 + (q : Int)) k3).mono ?_
                  rintro e w5 ⟨h5, hb5, rfl⟩
                  have own := fun ob => HMO.owns ((Loc.alloc h5 ob).obj (List.Mem.tail _ (List.Mem.tail _ (List.Mem.head _))))
                  have v0 := fun ob => (Loc.alloc (Loc.alloc h5 (.cells #[.int .i64 0, .int .i64 0] 29)) ob).box (j := 0) (List.Mem.tail _ (List.Mem.head _)) rfl
                  have v1 := fun ob => (Loc.alloc (Loc.alloc h5 (.cells #[.int .i64 0, .int .i64 0] 29)) ob).box (j := 1) (List.Mem.tail _ (List.Mem.head _)) rfl
                  have HE := Hid.mk (Loc.alloc (Loc.alloc h5 (.cells #[.int .i64 0, .int .i64 0] 29)) (.cells #[.int .i64 0, .int .i64 0] 29))
                  have HRE := Hid.mk (((HR.below hb5).below ((Below.refl w5.heap.size w5).alloc (Nat.le_refl _) (.cells #[.int .i64 0, .int .i64 0] 29))).below ((Below.refl _ _).alloc (Nat.le_refl _) (.cells #[.int .i64 0, .int .i64 0] 29)))
                  clear HL HR h5 hb5 r0 k3 her
                  go_wp2_with (first | (at_lookup; refine wpList_lookup_own_ok _ rfl _ _ 45 rfl 2 29 law64 Try.underlying45 pairElem (zeroV29 _) (pd (0, 0)) [] (pairElem_mk 0 0) m k D rfl (own _) _ _ rfl (key64 hin) ?_; intro v5 ps hv5; rw [k2] at hv5; obtain rfl := pairElem_inv hv5; rw [k1]) | fail)
                  exact ⟨⟨q + 1, by go_num, by rw [HK4.out, HCQ.out], by omega, HE.out.weak (by intro x hx; exact List.mem_cons_of_mem _ (List.mem_cons_of_mem _ hx)), HRE.out⟩, by simp [intOf]; omega⟩
                · have HK4 := Hid.mk k4
                  have hb5 := F4.out (q + 1)
                  rw [k4] at hb5
                  clear k4
                  obtain ⟨cq, hcq⟩ : ∃ cq, cj + cnt (ws.take q) = cq := ⟨_, rfl⟩
                  rw [← Nat.add_assoc, hcq] at hb5
                  rw [hcq] at hb4
                  have HCQ := Hid.mk hcq
                  rw [hcq]
                  clear hcq
                  go_wp2_with fail
                  refine (get_locb (w := w) HL (x1 + (q : Int)) k3).mono ?_
                  rintro e w5 ⟨h5, hb6, rfl⟩
                  have own := fun ob => HMO.owns ((Loc.alloc h5 ob).obj (List.Mem.tail _ (List.Mem.tail _ (List.Mem.head _))))
                  have v0 := fun ob => (Loc.alloc (Loc.alloc h5 (.cells #[.int .i64 t, .int .i64 v] 29)) ob).box (j := 0) (List.Mem.tail _ (List.Mem.head _)) rfl
                  have v1 := fun ob => (Loc.alloc (Loc.alloc h5 (.cells #[.int .i64 t, .int .i64 v] 29)) ob).box (j := 1) (List.Mem.tail _ (List.Mem.head _)) rfl
                  have HE := Hid.mk (Loc.alloc (Loc.alloc h5 (.cells #[.int .i64 t, .int .i64 v] 29)) (.cells #[.int .i64 t, .int .i64 v] 29))
                  have HRE := Hid.mk (((HR.below hb6).below ((Below.refl w5.heap.size w5).alloc (Nat.le_refl _) (.cells #[.int .i64 t, .int .i64 v] 29))).below ((Below.refl _ _).alloc (Nat.le_refl _) (.cells #[.int .i64 t, .int .i64 v] 29)))
                  clear HL HR h5 hb6 r0 k3
                  go_wp2_with (first | (at_lookup; refine wpList_lookup_own_ok _ rfl _ _ 45 rfl 2 29 law64 Try.underlying45 pairElem (zeroV29 _) (pd (0, 0)) [] (pairElem_mk 0 0) m k D rfl (own _) _ _ rfl (key64 hin) ?_; intro v5 ps hv5; rw [k2] at hv5; obtain rfl := pairElem_inv hv5; rw [k1]) | fail)
                  exact ⟨⟨q + 1, by go_num, by rw [HK4.out, ← HCQ.out]; push_cast; congr 1, by omega, HE.out.weak (by intro x hx; exact List.mem_cons_of_mem _ (List.mem_cons_of_mem _ hx)), HRE.out⟩, by simp [intOf]; omega⟩
              · obtain rfl : q = nw := by omega
                have e3 : cj + cnt (ws.take q) = cntTo S.regs (j + 1) := by rw [F3.out, ← HNW.out, List.take_length]
                have HE3 := Hid.mk e3
                clear e3
                have HLL := Hid.mk (HL.weak (E' := [(m, o)]) (by intro x hx; exact List.mem_cons_of_mem _ hx))
                clear HL
                go_wp2_with fail
                exact ⟨⟨j + 1, by go_num, by rw [HE3.out], by omega, HLL.out, HR⟩, by simp [intOf]; omega⟩
          · obtain rfl : j = nl := by omega
            have own := HMO.owns (HL.obj (List.Mem.head _))
            have hlen := fun ty => own.len (t := 45) Try.underlying45 ty
            have e9 : cntTo S.regs j = Maps.size D := by rw [HCN.out, HA.out]
            rw [e9]
            have hz := HL.size
            clear own HL HR
            go_wp2_with fail
            go_ret
            exact ⟨rfl, hz⟩
end Go.Proofs.Ytkooogllajmkeaa
