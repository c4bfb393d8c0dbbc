/- A play's step (layer 21), kinds 0 and 3, and whatever is no kind. -/
import Derived.Test.YtkooogllajmkeaaDa
import Derived.Test.YtkooogllajmkeaaCp
namespace Go.Proofs.Ytkooogllajmkeaa
open Go.RowKit
set_option pp.deepTerms true
attribute [local go_sem ↓] Go.wp_at_zero Go.wp_at_succ
section
variable {w W : World} {q B p pr : Nat} {S R : Sp} {k n a b t v : Int}
theorem set_far {W : World} {x y : Addr} {u u' : Value} (h : W.cell? y = some u) (hne : x.block ≠ y.block) : (W.setCell x u').cell? y = some u := (World.cell?_setCell_other _ _ _ _ (fun e => hne (by rw [e]))).trans h
theorem Two.ltE {E : List (Nat × Obj)} (h : Two w p pr S R E W) : ∀ x ∈ E, x.1 < W.heap.size := by
  obtain ⟨fs, gs, h1, h2, h3, h4, h5, h6, h7⟩ := h
  exact fun x hx => lt_of_heap (h7 x hx).2.2
/-- a store into a block of the call's own -/
theorem Two.store {E : List (Nat × Obj)} {cs : Array Value} {T : TypeId} (h : Two w p pr S R ((B, .cells cs T) :: E) W) (hw : w.heap.size ≤ B) (hE : ∀ x ∈ E, x.1 ≠ B) (j : Nat) (u : Value) : Two w p pr S R ((B, .cells (cs.setIfInBounds j u) T) :: E) (W.setCell ⟨B, j, none⟩ u) := by
  obtain ⟨fs, gs, h1, h2, h3, h4, h5, h6, h7⟩ := h
  have hB := h7 _ (List.Mem.head _)
  have k : Kp [B] W (W.setCell ⟨B, j, none⟩ u) := (Kp.refl _ _).setCell (.inl (by simp)) _
  have hn : ∀ b ∈ fs, b ∉ [B] := fun b hb q => by simp only [List.mem_singleton] at q; subst q; exact hB.1 hb
  have hn' : ∀ b ∈ gs, b ∉ [B] := fun b hb q => by simp only [List.mem_singleton] at q; subst q; exact hB.2.1 hb
  refine ⟨fs, gs, h1.kp k hn, h2.kp k hn', h3, h4, h5, h6.setCell (p := ⟨B, j, none⟩) hw _, fun x hx => ?_⟩
  rcases List.mem_cons.1 hx with rfl | hx
  · exact ⟨hB.1, hB.2.1, by have := heap_setCell_same W B j _ _ u hB.2.2; simpa using this⟩
  · have := h7 x (List.mem_cons_of_mem _ hx)
    exact ⟨this.1, this.2.1, k.at this.2.2 (by simpa using hE x hx)⟩
set_option maxRecDepth 100000 in
set_option maxHeartbeats 4000000 in
theorem do0_any (h : Two w p pr S S [(q, plo p pr)] W) (n a b t v : Int) (hl : S.last ≤ 1152921504606846976) : Calls Try.prog 20 #[.pointer (some ⟨q, 0, none⟩), opv 0 n a b t v] W (DoPost w q p pr (S.take n).2) := by
  have hB := Two.alloc h (opo 0 n a b t v)
  have b0 := hB.keep (Below.refl _ _).drew
  obtain ⟨x2, x3⟩ := hB.qs
  obtain ⟨x4, x5, x6, x7, x8, x9⟩ := hB.os
  unfold opo at x2 x3 x4 x5 x6 x7 x8 x9
  unfold opv
  go_enter Try.func20, Try.ntmps20
  go_wp2_with fail
  go_region_held3 (fun W' => W'.cell? ⟨q, 0, none⟩ = some (.pointer (some ⟨p, 0, none⟩)) ∧ W'.cell? ⟨W.heap.size, 1, none⟩ = some (.int .i64 n)) (first | exact ⟨hx.qs.1, hx.os.2.1⟩ | exact ⟨b0.qs.1, b0.os.2.1⟩) ((go_at_call 12; refine (take_two (w := w) (pr := pr) (S := S) (R := S) (E := [(W.heap.size, opo 0 n a b t v), (q, plo p pr)]) ?_ n hl).mono ?_; exact b0; rintro e wx ⟨hx, rfl⟩))
  have b1 := hx.keep (Below.refl _ _).drew
  obtain ⟨y2, y3⟩ := hx.qs
  obtain ⟨y4, y5, y6, y7, y8, y9⟩ := hx.os
  clear x2 x3 x4 x5 x6 x7 x8 x9
  go_wp2_with fail
  go_region_held3 (fun W' => W'.cell? ⟨q, 1, none⟩ = some (.pointer (some ⟨pr, 0, none⟩)) ∧ W'.cell? ⟨W.heap.size, 1, none⟩ = some (.int .i64 n)) (first | exact ⟨hy.qs.2, hy.os.2.1⟩ | exact ⟨b1.qs.2, b1.os.2.1⟩) ((go_at_call 49; refine (rtake_two (w := w) (p := p) (S := (S.take n).2) (R := S) (E := [(W.heap.size, opo 0 n a b t v), (q, plo p pr)]) ?_ n hl).mono ?_; exact b1; rintro e wy ⟨hy, rfl⟩))
  clear y2 y3 y4 y5 y6 y7 y8 y9
  go_wp2_with fail
  go_ret
  exact ⟨rfl, hy.lst⟩
/-- a value in a box of its own, beside E -/
def Got (w W : World) (p pr : Nat) (S : Sp) (E : List (Nat × Obj)) (vt vn : Int) (x : Value) (W' : World) : Prop :=
  ∃ B', x = .pointer (some ⟨B', 0, none⟩) ∧ Two w p pr S S ((B', .cells #[.int .i64 vt, .int .i64 vn] 29) :: E) W' ∧ Below W.heap.size W W' ∧ ∀ x ∈ E, x.1 ≠ B'
theorem got_first {E : List (Nat × Obj)} {Wx : World} {vt vn : Int} (h : Two w p pr S S E W) (hx : Two w p pr S S ((W.heap.size, (Obj.cells #[.int .i64 0, .int .i64 0] 29)) :: E) Wx) (hb : Below (W.alloc (Obj.cells #[.int .i64 0, .int .i64 0] 29)).heap.size (W.alloc (Obj.cells #[.int .i64 0, .int .i64 0] 29)) Wx) :
    Got w W p pr S E vt vn (.pointer (some ⟨W.heap.size, 0, none⟩)) ((Wx.setCell ⟨W.heap.size, 0, none⟩ (.int .i64 vt)).setCell ⟨W.heap.size, 1, none⟩ (.int .i64 vn)) := by
  have hE : ∀ x ∈ E, x.1 ≠ W.heap.size := fun x hx => by have := h.ltE x hx; omega
  have h1 := (hx.store h.size.size hE 0 (.int .i64 vt)).store h.size.size hE 1 (.int .i64 vn)
  refine ⟨_, rfl, h1, ?_, hE⟩
  exact ((((Below.refl W.heap.size W).alloc (Nat.le_refl _) _).trans (hb.mono (by simp))).setCell (p := ⟨W.heap.size, 0, none⟩) (Nat.le_refl _) _).setCell (p := ⟨W.heap.size, 1, none⟩) (Nat.le_refl _) _
theorem got_second {E : List (Nat × Obj)} {Wx : World} {vt vn : Int} (_h : Two w p pr S S E W) (hx : Two w p pr S S E Wx) (hb : Below W.heap.size W Wx) :
    Got w W p pr S E vt vn (.pointer (some ⟨Wx.heap.size, 0, none⟩)) (Wx.alloc (.cells #[.int .i64 vt, .int .i64 vn] 29)) :=
  ⟨_, rfl, Two.alloc hx _, hb.alloc hb.size _, fun x hx' => by have := hx.ltE x hx'; omega⟩
theorem Two.facts {E : List (Nat × Obj)} (h : Two w p pr S R E W) (hb : (B, opo k n a b t v) ∈ E) (hq : (q, plo p pr) ∈ E) : W.cell? ⟨q, 0, none⟩ = some (.pointer (some ⟨p, 0, none⟩)) ∧ W.cell? ⟨q, 1, none⟩ = some (.pointer (some ⟨pr, 0, none⟩)) ∧ W.cell? ⟨B, 2, none⟩ = some (.int .i64 a) :=
  ⟨h.box hq rfl, h.box hq rfl, h.box hb rfl⟩
set_option maxRecDepth 100000 in
set_option maxHeartbeats 4000000 in
theorem do3_any (h : Two w p pr S S [(q, plo p pr)] W) (n a b t v : Int) (ha : I64 a) : Calls Try.prog 20 #[.pointer (some ⟨q, 0, none⟩), opv 3 n a b t v] W fun e w' => DoPost w q p pr S e w' ∧ Below W.heap.size W w' := by
  have hB := Two.alloc h (opo 3 n a b t v)
  have hbb := (Below.refl W.heap.size W).alloc (Nat.le_refl _) (opo 3 n a b t v)
  obtain ⟨x2, x3⟩ := hB.qs
  obtain ⟨x4, x5, x6, x7, x8, x9⟩ := hB.os
  unfold opo at x2 x3 x4 x5 x6 x7 x8 x9
  unfold opv
  have hq := h.ltE _ (List.Mem.head _)
  simp only at hq
  go_enter Try.func20, Try.ntmps20
  go_upto_region 11 with (fail)
  go_cut [9, 10] (fun x e W' => Hid (e = .int .i64 (S.get a).2 ∧ Got w (W.alloc (opo 3 n a b t v)) p pr S [(W.heap.size, opo 3 n a b t v), (q, plo p pr)] (S.get a).1.1 (S.get a).1.2 x W'))
  case first =>
    have b0 := (Two.alloc hB (Obj.cells #[.int .i64 0, .int .i64 0] 29)).keep (Below.refl _ _).drew
    have c0 := hB.keep (Below.refl _ _).drew
    have f0 := b0.facts (q := q) (B := W.heap.size) (List.Mem.tail _ (List.Mem.head _)) (List.Mem.tail _ (List.Mem.tail _ (List.Mem.head _)))
    have h1q : (⟨W.heap.size + 1, 0, none⟩ : Addr).block ≠ (⟨q, 0, none⟩ : Addr).block := by simp; omega
    have h1b : (⟨W.heap.size + 1, 0, none⟩ : Addr).block ≠ (⟨W.heap.size, 2, none⟩ : Addr).block := by simp
    go_region_held3 (fun W' => W'.cell? ⟨q, 0, none⟩ = some (.pointer (some ⟨p, 0, none⟩)) ∧ W'.cell? ⟨W.heap.size, 2, none⟩ = some (.int .i64 a)) (first | exact ⟨set_far (set_far f2.1 h1q) h1q, set_far (set_far f2.2.2 h1b) h1b⟩ | exact ⟨alloc_cell f2.1, alloc_cell f2.2.2⟩ | exact ⟨f2.1, f2.2.2⟩ | exact ⟨f0.1, f0.2.2⟩ | exact ⟨x2, x6⟩) (first | (go_at_call 19; refine (get_two (w := w) (pr := pr) (S := S) (R := S) (E := [((W.alloc (opo 3 n a b t v)).heap.size, (Obj.cells #[.int .i64 0, .int .i64 0] 29)), (W.heap.size, opo 3 n a b t v), (q, plo p pr)]) ?_ a).mono ?_; exact b0; rintro e wx ⟨hx, hbx, rfl⟩; have f2 := hx.facts (q := q) (B := W.heap.size) (List.Mem.tail _ (List.Mem.head _)) (List.Mem.tail _ (List.Mem.tail _ (List.Mem.head _))); have z0 := hx.box (j := 0) (List.Mem.head _) rfl; have z1 := hx.box (j := 1) (List.Mem.head _) rfl; have z2 := hx.free (List.Mem.head _) 0; have z3 := hx.free (List.Mem.head _) 1; have HG := Hid.mk (got_first hB hx (undrew hbx) (vt := (S.get a).1.1) (vn := (S.get a).1.2)); simp only [World.size_alloc] at z0 z1 z2 z3) | (go_at_call 19; refine (get_two (w := w) (pr := pr) (S := S) (R := S) (E := [(W.heap.size, opo 3 n a b t v), (q, plo p pr)]) ?_ a).mono ?_; exact c0; rintro e wx ⟨hx, hbx, rfl⟩; have f2 := hx.facts (q := q) (B := W.heap.size) (List.Mem.head _) (List.Mem.tail _ (List.Mem.head _)); have HG := Hid.mk (got_second hB hx (undrew hbx) (vt := (S.get a).1.1) (vn := (S.get a).1.2))))
    all_goals
      go_wp2_with fail
      go_meet
      case rel => exact ⟨rfl, by simpa using HG.out⟩
  case rest =>
    clear x2 x3 x4 x5 x6 x7 x8 x9
    obtain ⟨rfl, B1, rfl, h1, hb1, hE1⟩ := hcut.out
    clear hcut hB
    have hbW : Below W.heap.size W wc := hbb.trans (hb1.mono hbb.size)
    obtain ⟨x2, x3, x6⟩ := h1.facts (q := q) (B := W.heap.size) (List.Mem.tail _ (List.Mem.head _)) (List.Mem.tail _ (List.Mem.tail _ (List.Mem.head _)))
    have hqc := h1.ltE _ (List.Mem.tail _ (List.Mem.tail _ (List.Mem.head _)))
    have hoc := h1.ltE _ (List.Mem.tail _ (List.Mem.head _))
    simp only at hqc hoc
    go_upto_region 12 with (fail)
    go_cut [11, 12] (fun x e W' => Hid (e = .int .i64 (S.get a).2 ∧ Got w wc p pr S [(B1, Obj.cells #[.int .i64 (S.get a).1.1, .int .i64 (S.get a).1.2] 29), (W.heap.size, opo 3 n a b t v), (q, plo p pr)] (S.get a).1.1 (S.get a).1.2 x W'))
    case first =>
      have b0 := (Two.alloc h1 (Obj.cells #[.int .i64 0, .int .i64 0] 29)).keep (Below.refl _ _).drew
      have c0 := h1.keep (Below.refl _ _).drew
      have f0 := b0.facts (q := q) (B := W.heap.size) (List.Mem.tail _ (List.Mem.tail _ (List.Mem.head _))) (List.Mem.tail _ (List.Mem.tail _ (List.Mem.tail _ (List.Mem.head _))))
      have h1q : (⟨wc.heap.size, 0, none⟩ : Addr).block ≠ (⟨q, 0, none⟩ : Addr).block := by simp; omega
      have h1b : (⟨wc.heap.size, 0, none⟩ : Addr).block ≠ (⟨W.heap.size, 2, none⟩ : Addr).block := by simp; omega
      go_region_held3 (fun W' => W'.cell? ⟨q, 1, none⟩ = some (.pointer (some ⟨pr, 0, none⟩)) ∧ W'.cell? ⟨W.heap.size, 2, none⟩ = some (.int .i64 a)) (first | exact ⟨set_far (set_far f2.2.1 h1q) h1q, set_far (set_far f2.2.2 h1b) h1b⟩ | exact ⟨alloc_cell f2.2.1, alloc_cell f2.2.2⟩ | exact ⟨f2.2.1, f2.2.2⟩ | exact ⟨f0.2.1, f0.2.2⟩ | exact ⟨x3, x6⟩) (first | (go_at_call 52; refine (rget_two (w := w) (p := p) (S := S) (R := S) (E := [(wc.heap.size, (Obj.cells #[.int .i64 0, .int .i64 0] 29)), (B1, Obj.cells #[.int .i64 (S.get a).1.1, .int .i64 (S.get a).1.2] 29), (W.heap.size, opo 3 n a b t v), (q, plo p pr)]) ?_ a ha).mono ?_; exact b0; rintro e wx ⟨hx, hbx, rfl⟩; have f2 := hx.facts (q := q) (B := W.heap.size) (List.Mem.tail _ (List.Mem.tail _ (List.Mem.head _))) (List.Mem.tail _ (List.Mem.tail _ (List.Mem.tail _ (List.Mem.head _)))); have z0 := hx.box (j := 0) (List.Mem.head _) rfl; have z1 := hx.box (j := 1) (List.Mem.head _) rfl; have z2 := hx.free (List.Mem.head _) 0; have z3 := hx.free (List.Mem.head _) 1; have HG := Hid.mk (got_first h1 hx (undrew hbx) (vt := (S.get a).1.1) (vn := (S.get a).1.2))) | (go_at_call 52; refine (rget_two (w := w) (p := p) (S := S) (R := S) (E := [(B1, Obj.cells #[.int .i64 (S.get a).1.1, .int .i64 (S.get a).1.2] 29), (W.heap.size, opo 3 n a b t v), (q, plo p pr)]) ?_ a ha).mono ?_; exact c0; rintro e wx ⟨hx, hbx, rfl⟩; have f2 := hx.facts (q := q) (B := W.heap.size) (List.Mem.tail _ (List.Mem.head _)) (List.Mem.tail _ (List.Mem.tail _ (List.Mem.head _))); have HG := Hid.mk (got_second h1 hx (undrew hbx) (vt := (S.get a).1.1) (vn := (S.get a).1.2))))
      all_goals
        go_wp2_with fail
        go_meet
        case rel => exact ⟨rfl, HG.out⟩
    case rest =>
      obtain ⟨rfl, B2, rfl, h2, hb2, hE2⟩ := hcut.out
      clear hcut x2 x3 x6 hqc hoc
      have y0 := h2.box (j := 0) (List.Mem.head _) rfl
      have y1 := h2.box (j := 1) (List.Mem.head _) rfl
      have y2 := h2.box (j := 0) (List.Mem.tail _ (List.Mem.head _)) rfl
      have y3 := h2.box (j := 1) (List.Mem.tail _ (List.Mem.head _)) rfl
      have HF := Hid.mk (h2.sub (E' := [(q, plo p pr)]) (by simp))
      have HB := Hid.mk (hbW.trans (hb2.mono hbW.size))
      clear h2 hb2 hE2 h1 hb1 hE1 hbW hbb h
      go_wp2_with fail
      go_ret
      exact ⟨⟨rfl, HF.out⟩, HB.out⟩
set_option maxRecDepth 100000 in
set_option maxHeartbeats 4000000 in
theorem dox_any (h : Two w p pr S S [(q, plo p pr)] W) (k n a b t v : Int) (hk : k < 0 ∨ 7 < k) : Calls Try.prog 20 #[.pointer (some ⟨q, 0, none⟩), opv k n a b t v] W (DoPost w q p pr S) := by
  have hB := Two.alloc h (opo k n a b t v)
  obtain ⟨x4, -⟩ := hB.os
  unfold opo at x4
  unfold opv
  have HB := Hid.mk hB.lst
  have e0 : (k == 0) = false := by simp; omega
  have e1 : (k == 1) = false := by simp; omega
  have e2 : (k == 2) = false := by simp; omega
  have e3 : (k == 3) = false := by simp; omega
  have e4 : (k == 4) = false := by simp; omega
  have e5 : (k == 5) = false := by simp; omega
  have e6 : (k == 6) = false := by simp; omega
  have e7 : (k == 7) = false := by simp; omega
  clear hk hB h
  go_enter Try.func20, Try.ntmps20
  go_wp2_with fail
  go_ret
  exact ⟨rfl, HB.out⟩

end
end Go.Proofs.Ytkooogllajmkeaa
