/- Parts Cp Dd De Ke Df Dg Ga Gb Gc Wl Gd, put together. -/
import Derived.Test.YtpfnnmcokbolhaaMe3
import Derived.LoopN
import Derived.Outline
import Derived.Deep.DeepCutAuto
import Derived.Deep.CutBlock
import Derived.RegionTactic
import Derived.BigRegion
import Derived.Deep.RegionWith
import Derived.Deep.RegionHeld3
import Derived.Deep.DrawnRows
import Derived.OrdersHeld
/- The program's Copy. -/
namespace Go.Proofs.Ytpfnnmcokbolhaa
open Go.RowKit Go.Shelf
set_option pp.deepTerms true
attribute [local go_sem] Oper.semAt_some
theorem SpAt.kept {W W' : World} {row : Option Nat} {C : Nat} {last : Int} {sl : Value} {ls : List LReg} (h : SpAt W C last sl ls) (hg : W.grownBy W' row) (hr : ∀ r, row = some r → ∃ o : Obj, W.heap[r]? = some o ∧ o.isCells = false) : SpAt W' C last sl ls := by
  have keep : ∀ (base T1 z : Nat) (v : Value) (n : Nat) (xs : List Value), W.ownsRow base T1 z v n xs → W'.ownsRow base T1 z v n xs := by
    intro base T1 z v n xs ho
    refine ho.kept hg ?_
    rcases ho.2 with ⟨rfl, _⟩ | ⟨g, cap, cur, rfl, _, hgb, _⟩
    · exact .inl rfl
    · refine .inr fun e' => ?_
      obtain ⟨o, ho, hc⟩ := hr g (by simpa [Value.ownBlock] using e'.symm)
      rw [hgb] at ho; cases ho; cases hc
  exact ⟨(grownBy_keeps_cells hg hr h.head rfl).trans h.head, keep _ _ _ _ _ _ h.row, fun r hr => keep _ _ _ _ _ _ (h.words r hr), h.nodup⟩
/-- the copy on its way: in block C, the variable's box in B -/
def CopyI (w : World) (C B : Nat) (last : Int) (rs : List LReg) (W : World) : Prop :=
  ∃ sl ls', Boxed W B 47 (.pointer (some ⟨C, 0, none⟩)) ∧ SpAt W C last sl ls' ∧ ls'.map LReg.reg = rs.map LReg.reg ∧ (∀ b ∈ foot C sl ls', w.heap.size ≤ b ∧ b ≠ B) ∧ (ls' = [] → sl = .slice none 0 0)
theorem CopyI.lt {w : World} {C B : Nat} {last : Int} {rs : List LReg} {W : World} (h : CopyI w C B last rs W) : B < W.heap.size := let ⟨_, _, h1, _⟩ := h; h1.lt
theorem CopyI.box {w : World} {C B : Nat} {last : Int} {rs : List LReg} {W : World} (h : CopyI w C B last rs W) : W.cell? ⟨B, 0, none⟩ = some (.pointer (some ⟨C, 0, none⟩)) := let ⟨_, _, h1, _⟩ := h; h1.cell
end Go.Proofs.Ytpfnnmcokbolhaa
/- A play's step (layer 21), kinds 0 and 3, and whatever is no kind. -/
namespace Go.Proofs.Ytpfnnmcokbolhaa
open Go.RowKit
set_option pp.deepTerms true
attribute [local go_sem ↓] Go.wp_at_zero Go.wp_at_succ
section
variable {w W : World} {q B p pr : Nat} {S R : Sp} {k n a b t v : Int}
theorem set_far {W : World} {x y : Addr} {u u' : Value} (h : W.cell? y = some u) (hne : x.block ≠ y.block) : (W.setCell x u').cell? y = some u := (World.cell?_setCell_other _ _ _ _ (fun e => hne (by rw [e]))).trans h
end
end Go.Proofs.Ytpfnnmcokbolhaa
/- A play's step (layer 21), kind 6: words' values. -/
namespace Go.Proofs.Ytpfnnmcokbolhaa
open Go.RowKit
set_option pp.deepTerms true
attribute [local go_sem ↓] Go.wp_at_zero Go.wp_at_succ
section
variable {w W : World} {q B p pr : Nat} {S R : Sp} {k n a b t v : Int}
end
end Go.Proofs.Ytpfnnmcokbolhaa
/- SpaceKeeps: the operations' loop. -/
namespace Go.Proofs.Ytpfnnmcokbolhaa
open Go.RowKit Go.Maps
set_option pp.deepTerms true
/-- the map holds what the space's words hold -/
def KR (w : World) (p m k : Nat) (W : World) : Prop := ∃ S o D, S.last ≤ 202 * (k : Int) ∧ Loc w p S [(m, o)] W ∧ MObj o k D ∧ MapIs D (full S)
theorem KR.mk {w W : World} {p m k : Nat} {S : Sp} {o : Obj} {D : DataW Unit} {f : Int → Option (Int × Int)} (h1 : S.last ≤ 202 * ((k + 1 : Nat) : Int)) {E : List (Nat × Obj)} (h2 : Loc w p S E W) (hm : (m, o) ∈ E) (h3 : MObj o k D) (h4 : MapIs D f) (h5 : ∀ a, full S a = f a) : KR w p m (k + 1) W :=
  ⟨S, o, D, h1, h2.weak (by intro x hx; simp only [List.mem_singleton] at hx; subst hx; exact hm), h3.mono (by omega), mapIs_ext h4 h5⟩
theorem drop_last (S : Sp) (a m : Int) : (S.drop a m).2.last = S.last := by
  unfold Sp.drop
  split
  · rfl
  · split
    · rfl
    · split <;> rfl
theorem put_last (S : Sp) (a : Int) (v : Int × Int) : (S.put a v).2.last = S.last := by
  unfold Sp.put
  split
  · split <;> rfl
  · rfl

end Go.Proofs.Ytpfnnmcokbolhaa
/- A play's step (layer 21), kind 7: copies go on in its place. -/
namespace Go.Proofs.Ytpfnnmcokbolhaa
open Go.RowKit
set_option pp.deepTerms true
attribute [local go_sem ↓] Go.wp_at_zero Go.wp_at_succ
section
variable {w W W' : World} {q p0 p pr : Nat} {S0 S0' S : Sp} {E : List (Nat × Obj)} {f0 : List Nat}
end
end Go.Proofs.Ytpfnnmcokbolhaa
/- A play's step (layer 21), whatever the operation. -/
namespace Go.Proofs.Ytpfnnmcokbolhaa
open Go.RowKit
end Go.Proofs.Ytpfnnmcokbolhaa
/- Which policies of segments may be: the program's answer, and the document's. -/
namespace Go.Proofs.Ytpfnnmcokbolhaa
open Go.RowKit
set_option pp.deepTerms true
attribute [local go_sem ↓] Go.wp_at_zero Go.wp_at_succ
theorem keep_dr {X W' : World} (hb : Below X.drew.heap.size X.drew W') {a : Addr} {v : Value} (h : X.cell? a = some v) : W'.cell? a = some v := ((undrew hb).cell (cell_lt h)).trans h
theorem keep_be {X W' : World} (hb : Below X.heap.size X W') {a : Addr} {v : Value} (h : X.cell? a = some v) : W'.cell? a = some v := (hb.cell (cell_lt h)).trans h
/-- a number's range -/
def rangeB (n lo hi : Int) : Bool := decide (lo ≤ n) && decide (n ≤ hi)
def segOk (s c : Int) : Bool := rangeB s 256 65536 && rangeB c 0 64
theorem beyond_any (hi lo : Int) (w : World) : Calls Try.prog 80 #[.int .i64 hi, .int .i64 lo] w fun e w' =>
    e = .returned (.func (.func 92) #[] #[.pointer (some ⟨w.heap.size + 1, 0, none⟩), .pointer (some ⟨w.heap.size, 0, none⟩)]) ∧ w' = (w.alloc (.cells #[.int .i64 hi] 139)).alloc (.cells #[.int .i64 lo] 3) := by
  go_enter Try.func80, Try.ntmps80
  go_wp2
  go_ret
  exact ⟨rfl, rfl⟩
theorem beyond1_any {w : World} {b1 b2 : Nat} {lo hi : Int} (h1 : w.cell? ⟨b1, 0, none⟩ = some (.int .i64 lo)) (h2 : w.cell? ⟨b2, 0, none⟩ = some (.int .i64 hi)) (n : Int) :
    Calls Try.prog 92 #[.int .i64 n, .pointer (some ⟨b1, 0, none⟩), .pointer (some ⟨b2, 0, none⟩)] w fun e w' => e = .returned (.bool (!rangeB n lo hi)) ∧ w' = w := by
  by_cases q : n < lo
  · have z : decide (n < lo) = true := by simpa using q
    have HR : Hid ((!rangeB n lo hi) = true) := by show (!rangeB n lo hi) = true; unfold rangeB; simp; omega
    clear q
    go_enter Try.func92, Try.ntmps92
    go_wp2
    go_ret
    exact ⟨by rw [HR.out]; rfl, rfl⟩
  · have z : decide (n < lo) = false := by simpa using q
    have HR : Hid ((!rangeB n lo hi) = decide (hi < n)) := by
      show (!rangeB n lo hi) = decide (hi < n)
      unfold rangeB
      by_cases q2 : hi < n
      · simp [q2]
      · simp [q2]; omega
    clear q
    go_enter Try.func92, Try.ntmps92
    go_wp2
    go_ret
    exact ⟨by rw [HR.out]; rfl, rfl⟩
/-- a function that tells whether a number is out of a range -/
def FnAt (w : World) (b1 b2 : Nat) (lo hi : Int) : Prop := w.cell? ⟨b1, 0, none⟩ = some (.int .i64 lo) ∧ w.cell? ⟨b2, 0, none⟩ = some (.int .i64 hi)
def fnV (b1 b2 : Nat) : Value := .func (.func 92) #[] #[.pointer (some ⟨b1, 0, none⟩), .pointer (some ⟨b2, 0, none⟩)]
theorem FnAt.below {w w' : World} {b1 b2 : Nat} {lo hi : Int} (h : FnAt w b1 b2 lo hi) (k : Below w.heap.size w w') : FnAt w' b1 b2 lo hi := ⟨(k.cell (cell_lt h.1)).trans h.1, (k.cell (cell_lt h.2)).trans h.2⟩
theorem within1_any {w : World} {b0 b1 b2 : Nat} {lo hi : Int} (h : FnAt w b1 b2 lo hi) (h0 : w.cell? ⟨b0, 0, none⟩ = some (fnV b1 b2)) (n : Int) :
    Calls Try.prog 91 #[.int .i64 n, .pointer (some ⟨b0, 0, none⟩)] w fun e w' => e = .returned (.bool (!rangeB n lo hi)) ∧ w' = w := by
  have hc := beyond1_any h.1 h.2 n
  unfold fnV at h0
  go_enter Try.func91, Try.ntmps91
  go_wp2_with fail
  refine hc.mono ?_
  rintro e w' ⟨rfl, rfl⟩
  go_wp2_with fail
  go_ret
  exact ⟨rfl, rfl⟩
theorem indexF_one {w : World} {b b0 b1 b2 c : Nat} {lo hi n : Int} (h : FnAt w b1 b2 lo hi) (h0 : w.cell? ⟨b0, 0, none⟩ = some (fnV b1 b2)) (hb : w.cell? ⟨b, 0, none⟩ = some (.int .i64 n)) :
    Calls Try.prog 103 #[.slice (some ⟨b, 0, none⟩) 1 c, .func (.func 91) #[] #[.pointer (some ⟨b0, 0, none⟩)]] w fun e w' => e = .returned (.int .i64 (if rangeB n lo hi then -1 else 0)) ∧ w' = w := by
  have hc := within1_any h h0 n
  clear h h0
  cases hr : rangeB n lo hi
  · rw [hr] at hc
    go_enter Try.func103, Try.ntmps103
    go_wp2_with fail
    refine wp_loop_rounds 1 ?_; rw [rounds_succ]
    go_wp2_with fail
    refine hc.mono ?_
    rintro e w' ⟨rfl, rfl⟩
    go_wp2_with fail
    go_ret
    exact ⟨rfl, rfl⟩
  · rw [hr] at hc
    go_enter Try.func103, Try.ntmps103
    go_wp2_with fail
    refine wp_loop_rounds 2 ?_; rw [rounds_succ]
    go_wp2_with fail
    refine hc.mono ?_
    rintro e w' ⟨rfl, rfl⟩
    go_wp2_with fail
    rw [rounds_succ]
    go_wp2_with fail
    go_ret
    exact ⟨rfl, rfl⟩
theorem containsF_one {w : World} {b b0 b1 b2 c : Nat} {lo hi n : Int} (h : FnAt w b1 b2 lo hi) (h0 : w.cell? ⟨b0, 0, none⟩ = some (fnV b1 b2)) (hb : w.cell? ⟨b, 0, none⟩ = some (.int .i64 n)) :
    Calls Try.prog 90 #[.slice (some ⟨b, 0, none⟩) 1 c, .func (.func 91) #[] #[.pointer (some ⟨b0, 0, none⟩)]] w fun e w' => e = .returned (.bool (!rangeB n lo hi)) ∧ w' = w := by
  have hc := indexF_one (c := c) h h0 hb
  clear h h0 hb
  cases hr : rangeB n lo hi <;> rw [hr] at hc
  all_goals
    go_enter Try.func90, Try.ntmps90
    go_wp2_with fail
    refine hc.mono ?_
    rintro e w' ⟨rfl, rfl⟩
    go_wp2_with fail
    go_ret
    exact ⟨rfl, rfl⟩
theorem within_one {w : World} {b b1 b2 c : Nat} {lo hi n : Int} (h : FnAt w b1 b2 lo hi) (hb : w.cell? ⟨b, 0, none⟩ = some (.int .i64 n)) :
    Calls Try.prog 79 #[fnV b1 b2, .slice (some ⟨b, 0, none⟩) 1 c] w fun e w' => Below w.heap.size w w' ∧ e = .returned (.bool (rangeB n lo hi)) := by
  have hb0 : Below w.heap.size w (w.alloc (.cells #[fnV b1 b2] 83)) := (Below.refl _ _).alloc (Nat.le_refl _) _
  have hc := containsF_one (c := c) (h.below hb0) (b0 := w.heap.size) (by simp) (alloc_cell hb)
  unfold fnV at hc hb0 ⊢
  clear h hb
  go_enter Try.func79, Try.ntmps79
  go_wp2_with fail
  refine hc.mono ?_
  rintro e w' ⟨rfl, rfl⟩
  go_wp2_with fail
  go_ret
  exact ⟨hb0, by simp⟩
theorem pwords_one {w : World} {b c : Nat} {n : Int} (hb : w.cell? ⟨b, 0, none⟩ = some (.int .i64 n)) :
    Calls Try.prog 78 #[.slice (some ⟨b, 0, none⟩) 1 c] w fun e w' => Below w.heap.size w w' ∧ e = .returned (.bool (rangeB n 256 65536)) := by
  have hc := beyond_any 65536 256 w
  have hb0 : Below w.heap.size w ((w.alloc (.cells #[.int .i64 65536] 139)).alloc (.cells #[.int .i64 256] 3)) := ((Below.refl _ _).alloc (Nat.le_refl _) _).alloc (by simp) _
  have hd := within_one (w := (w.alloc (.cells #[.int .i64 65536] 139)).alloc (.cells #[.int .i64 256] 3)) (b := b) (c := c) (n := n) (b1 := w.heap.size + 1) (b2 := w.heap.size) (lo := 256) (hi := 65536) ⟨by simp, by simp⟩ (alloc_cell (alloc_cell hb))
  unfold fnV at hd
  go_enter Try.func78, Try.ntmps78
  go_wp2_with fail
  refine hc.mono ?_
  rintro e w' ⟨rfl, rfl⟩
  go_wp2_with fail
  refine hd.mono ?_
  rintro e w' ⟨hb1, rfl⟩
  go_wp2_with fail
  go_ret
  exact ⟨hb0.trans (hb1.mono (by simp; omega)), rfl⟩
theorem within_cells {w : World} {b b1 b2 c : Nat} {lo hi n : Int} (h1 : w.cell? ⟨b1, 0, none⟩ = some (.int .i64 lo)) (h2 : w.cell? ⟨b2, 0, none⟩ = some (.int .i64 hi)) (hb : w.cell? ⟨b, 0, none⟩ = some (.int .i64 n)) :
    Calls Try.prog 79 #[.func (.func 92) #[] #[.pointer (some ⟨b1, 0, none⟩), .pointer (some ⟨b2, 0, none⟩)], .slice (some ⟨b, 0, none⟩) 1 c] w fun e w' => Below w.heap.size w w' ∧ e = .returned (.bool (rangeB n lo hi)) := within_one ⟨h1, h2⟩ hb
end Go.Proofs.Ytpfnnmcokbolhaa
/- Which policies of segments may be: the program's CheckSegments. -/
namespace Go.Proofs.Ytpfnnmcokbolhaa
open Go.RowKit
set_option pp.deepTerms true
attribute [local go_sem ↓] Go.wp_at_zero Go.wp_at_succ
theorem three_new (w : World) (a b c : Value) (T1 T2 T3 : TypeId) : (((w.alloc (.cells #[a] T1)).alloc (.cells #[b] T2)).alloc (.cells #[c] T3)).cell? ⟨w.heap.size + 1, 0, none⟩ = some b ∧ (((w.alloc (.cells #[a] T1)).alloc (.cells #[b] T2)).alloc (.cells #[c] T3)).cell? ⟨w.heap.size, 0, none⟩ = some a ∧
    (((w.alloc (.cells #[a] T1)).alloc (.cells #[b] T2)).alloc (.cells #[c] T3)).cell? ⟨w.heap.size + 1 + 1, 0, none⟩ = some c := by
  refine ⟨alloc_cell ?_, alloc_cell (alloc_cell ?_), ?_⟩
  · have := heap_alloc_new (w.alloc (.cells #[a] T1)) (.cells #[b] T2)
    simp only [World.size_alloc] at this
    rw [cell_of_row _ (w.heap.size + 1) 0 _ _ _ this]; rfl
  · rw [cell_of_row _ w.heap.size 0 _ _ _ (heap_alloc_new w (.cells #[a] T1))]; rfl
  · have := heap_alloc_new ((w.alloc (.cells #[a] T1)).alloc (.cells #[b] T2)) (.cells #[c] T3)
    simp only [World.size_alloc] at this
    rw [cell_of_row _ (w.heap.size + 1 + 1) 0 _ _ _ this]; rfl
def segChk (s c : Int) : Int := if segOk s c then 0 else 200
set_option maxRecDepth 100000 in
set_option maxHeartbeats 2000000 in
theorem checkSeg_any (s c : Int) (w : World) : Calls Try.prog 59 #[.agg #[.int .i64 s, .int .i64 c]] w fun e w' => Below w.heap.size w w' ∧ e = .returned (.int .i64 (segChk s c)) := by
  have hB : Below w.heap.size w (w.alloc (.cells #[.int .i64 s, .int .i64 c] 23)) := (Below.refl _ _).alloc (Nat.le_refl _) _
  have c0 : (w.alloc (.cells #[.int .i64 s, .int .i64 c] 23)).cell? ⟨w.heap.size, 0, none⟩ = some (.int .i64 s) := by simp
  have c1 : (w.alloc (.cells #[.int .i64 s, .int .i64 c] 23)).cell? ⟨w.heap.size, 1, none⟩ = some (.int .i64 c) := by simp
  unfold segChk segOk
  have HB := Hid.mk hB
  clear hB
  cases h1 : rangeB s 256 65536
  · go_enter Try.func59, Try.ntmps59
    go_wp2_with fail
    refine wp_region_held_drew (S := (fun W' => W'.cell? ⟨w.heap.size, 0, none⟩ = some (.int .i64 s) ∧ W'.cell? ⟨w.heap.size, 1, none⟩ = some (.int .i64 c))) (by kernel_rfl) ⟨c0, c1⟩ (fun hHeld => ?_)
    refine wpAnyH_take (i := 0) (v := ?_) rfl (by kernel_rfl) (by kernel_rfl) (by kernel_rfl) (fun _ _ _ h => h) (Or.inl ⟨by rfl, ?_⟩) (by assumption) ?_
    rotate_left
    · (intro w hSw; (try dsimp only at hSw); go_simp <;> with_reducible rfl)
    refine wpAnyH_take (i := 1) (v := ?_) rfl (by kernel_rfl) (by kernel_rfl) (by kernel_rfl) (fun _ _ _ h => h) (Or.inl ⟨by rfl, ?_⟩) (by assumption) ?_
    rotate_left
    · (intro w hSw; (try dsimp only at hSw); go_simp <;> with_reducible rfl)
    refine wpAnyH_ready (rs := [2]) (by kernel_rfl) (by simp) ?_
    refine AllReadyH.cons rfl (fun K hK => ?_) AllReadyH.nil
    go_simp
    refine hK.out _ _ ⟨alloc_cell c0, alloc_cell c1⟩ (fun hHeld => ?_)
    clear hK K
    refine wpAnyH_ready (rs := [3]) (by kernel_rfl) (by simp) ?_
    refine AllReadyH.cons rfl (fun K hK => ?_) AllReadyH.nil
    go_simp
    refine (pwords_one (n := s) ?_).mono ?_
    · simp
    rintro e w1 ⟨hb1, rfl⟩
    rw [h1]
    have s1 := And.intro (keep_dr hb1 (alloc_cell c0)) (keep_dr hb1 (alloc_cell c1))
    refine hK.out _ _ s1 (fun hHeld => ?_)
    clear hK K
    refine wpAnyH_take (i := 4) (v := ?_) rfl (by kernel_rfl) (by kernel_rfl) (by kernel_rfl) (fun _ _ _ h => h) (Or.inl ⟨by rfl, ?_⟩) (by assumption) ?_
    rotate_left
    · (intro w hSw; (try dsimp only at hSw); go_simp <;> with_reducible rfl)
    refine wpAnyH_take (i := 5) (v := ?_) rfl (by kernel_rfl) (by kernel_rfl) (by kernel_rfl) (fun _ _ _ h => h) (Or.inl ⟨by rfl, ?_⟩) (by assumption) ?_
    rotate_left
    · (intro w hSw; (try dsimp only at hSw); go_simp <;> with_reducible rfl)
    refine wpAnyH_take (i := 6) (v := undef) rfl (by kernel_rfl) (by kernel_rfl) (by kernel_rfl) (fun _ _ _ h => h) (Or.inr ⟨by rfl, rfl⟩) (by assumption) ?_
    refine wpAnyH_take (i := 7) (v := undef) rfl (by kernel_rfl) (by kernel_rfl) (by kernel_rfl) (fun _ _ _ h => h) (Or.inr ⟨by rfl, rfl⟩) (by assumption) ?_
    refine wpAnyH_take (i := 8) (v := undef) rfl (by kernel_rfl) (by kernel_rfl) (by kernel_rfl) (fun _ _ _ h => h) (Or.inr ⟨by rfl, rfl⟩) (by assumption) ?_
    refine wpAnyH_take (i := 9) (v := undef) rfl (by kernel_rfl) (by kernel_rfl) (by kernel_rfl) (fun _ _ _ h => h) (Or.inr ⟨by rfl, rfl⟩) (by assumption) ?_
    refine wpAnyH_take (i := 10) (v := undef) rfl (by kernel_rfl) (by kernel_rfl) (by kernel_rfl) (fun _ _ _ h => h) (Or.inr ⟨by rfl, rfl⟩) (by assumption) ?_
    refine wpAnyH_take (i := 11) (v := undef) rfl (by kernel_rfl) (by kernel_rfl) (by kernel_rfl) (fun _ _ _ h => h) (Or.inr ⟨by rfl, rfl⟩) (by assumption) ?_
    refine wpAnyH_ready (rs := [12]) (by kernel_rfl) (by simp) ?_
    refine AllReadyH.cons rfl (fun K hK => ?_) AllReadyH.nil
    go_simp
    refine hK.out _ _ s1 (fun hHeld => ?_)
    clear hK K
    refine wpAnyH_done (by kernel_rfl) ?_ _
    have hbF := HB.out.trans ((((Below.refl _ _).alloc (Nat.le_refl _) (.cells #[.int .i64 s] 3)).trans ((undrew hb1).mono (by simp))).mono HB.out.size)
    go_wp2_with fail
    go_ret
    exact ⟨hbF, rfl⟩
  · have HBW : Hid (∀ w1, Below ((w.alloc (.cells #[.int .i64 s, .int .i64 c] 23)).alloc (.cells #[.int .i64 s] 3)).heap.size ((w.alloc (.cells #[.int .i64 s, .int .i64 c] 23)).alloc (.cells #[.int .i64 s] 3)) w1 → Below w.heap.size w w1) := fun w1 hb1 => HB.out.trans ((((Below.refl _ _).alloc (Nat.le_refl _) (.cells #[.int .i64 s] 3)).trans (hb1.mono (by simp))).mono HB.out.size)
    cases h2 : rangeB c 0 64
    all_goals
      go_enter Try.func59, Try.ntmps59
      go_wp2_with fail
      go_region_held3 (fun W' => W'.cell? ⟨w.heap.size, 0, none⟩ = some (.int .i64 s) ∧ W'.cell? ⟨w.heap.size, 1, none⟩ = some (.int .i64 c)) (first | exact s2 | exact s1 | exact ⟨alloc_cell s1.1, alloc_cell s1.2⟩ | exact ⟨alloc_cell (alloc_cell s1.1), alloc_cell (alloc_cell s1.2)⟩ | exact ⟨alloc_cell (alloc_cell (alloc_cell s1.1)), alloc_cell (alloc_cell (alloc_cell s1.2))⟩ | exact ⟨c0, c1⟩ | exact ⟨alloc_cell c0, alloc_cell c1⟩) (first | (go_at_call 78; refine (pwords_one (n := s) ?_).mono ?_; simp; rintro e w1 ⟨hb1, rfl⟩; rw [h1]; have s1 := And.intro (keep_dr hb1 (alloc_cell c0)) (keep_dr hb1 (alloc_cell c1)); have hbw1 := HBW.out w1 (undrew hb1)) | (go_at_call 80; refine (beyond_any 64 0 _).mono ?_; rintro e w2 ⟨rfl, rfl⟩) | (go_at_call 79; refine (within_cells (n := c) (lo := 0) (hi := 64) ?_ ?_ ?_).mono ?_; (first | exact (three_new _ _ _ _ _ _ _).1 | exact (three_new _ _ _ _ _ _ _).2.1 | exact (three_new _ _ _ _ _ _ _).2.2); (first | exact (three_new _ _ _ _ _ _ _).1 | exact (three_new _ _ _ _ _ _ _).2.1 | exact (three_new _ _ _ _ _ _ _).2.2); (first | exact (three_new _ _ _ _ _ _ _).1 | exact (three_new _ _ _ _ _ _ _).2.1 | exact (three_new _ _ _ _ _ _ _).2.2); rintro e w3 ⟨hb3, rfl⟩; rw [h2]; have s2 := And.intro (keep_be hb3 (alloc_cell (alloc_cell (alloc_cell s1.1)))) (keep_be hb3 (alloc_cell (alloc_cell (alloc_cell s1.2))))))
      all_goals
        have hbF := hbw1.trans (Below.mono (Below.trans (Below.alloc (Below.alloc (Below.alloc (Below.refl _ w1) (Nat.le_refl _) _) (by simp) _) (by simp; omega) _) (Below.mono hb3 (by simp; omega))) hbw1.size)
        go_wp2_with fail
        go_ret
        exact ⟨hbF, rfl⟩
end Go.Proofs.Ytpfnnmcokbolhaa
/- A link of segments in memory, and New, the program's and the document's. -/
namespace Go.Proofs.Ytpfnnmcokbolhaa
open Go.RowKit
set_option pp.deepTerms true
/-- live segments, and kept ones -/
structure Lk where
  live : List (Int × Int)
  kept : List (Int × Int)
def lfoot (b : Nat) (lv kv : Value) : List Nat := b :: (lv.ownBlock.toList ++ kv.ownBlock.toList)
/-- a link at block b, over the space at p -/
structure LkAt (W : World) (b p : Nat) (sz ca : Int) (L : Lk) (lv kv : Value) : Prop where
  head : W.heap[b]? = some (.cells #[.pointer (some ⟨p, 0, none⟩), .int .i64 sz, .int .i64 ca, lv, kv] 122 (0, 0))
  live : W.ownsRow 0 88 2 lv L.live.length (wcells L.live)
  kept : W.ownsRow 0 88 2 kv L.kept.length (wcells L.kept)
  nodup : (lfoot b lv kv).Nodup
def Lkd (W : World) (b p : Nat) (sz ca : Int) (L : Lk) (hs : List Nat) : Prop := ∃ lv kv, LkAt W b p sz ca L lv kv ∧ hs = lfoot b lv kv
theorem LkAt.lt {W : World} {b p : Nat} {sz ca : Int} {L : Lk} {lv kv : Value} (h : LkAt W b p sz ca L lv kv) : ∀ x ∈ lfoot b lv kv, x < W.heap.size := by
  intro x hx
  simp only [lfoot, List.mem_cons, List.mem_append, Option.mem_toList] at hx
  rcases hx with rfl | hx | hx
  · exact lt_of_heap h.head
  · exact (h.live.lt x hx).2
  · exact (h.kept.lt x hx).2
theorem LkAt.kp {W W' : World} {b p : Nat} {sz ca : Int} {L : Lk} {lv kv : Value} {fs : List Nat} (h : LkAt W b p sz ca L lv kv) (k : Kp fs W W') (hd : ∀ x ∈ lfoot b lv kv, x ∉ fs) : LkAt W' b p sz ca L lv kv :=
  ⟨k.at h.head (hd b (by simp [lfoot])), k.row h.live (fun g hg => hd g (by simp [lfoot, hg])), k.row h.kept (fun g hg => hd g (by simp [lfoot, hg])), h.nodup⟩
theorem Lkd.kp {W W' : World} {b p : Nat} {sz ca : Int} {L : Lk} {fs hs : List Nat} (h : Lkd W b p sz ca L hs) (k : Kp fs W W') (hd : ∀ x ∈ hs, x ∉ fs) : Lkd W' b p sz ca L hs := by
  obtain ⟨lv, kv, h1, rfl⟩ := h
  exact ⟨lv, kv, h1.kp k hd, rfl⟩
theorem Lkd.below {W W' : World} {b p : Nat} {sz ca : Int} {L : Lk} {hs : List Nat} (h : Lkd W b p sz ca L hs) (k : Below W.heap.size W W') : Lkd W' b p sz ca L hs := h.kp (Kp.of_below k []) (by simp)
theorem Lkd.lt {W : World} {b p : Nat} {sz ca : Int} {L : Lk} {hs : List Nat} (h : Lkd W b p sz ca L hs) : ∀ x ∈ hs, x < W.heap.size := by
  obtain ⟨lv, kv, h1, rfl⟩ := h
  exact h1.lt
theorem Lkd.new (W : World) (p : Nat) (sz ca : Int) : Lkd (W.alloc (.cells #[.pointer (some ⟨p, 0, none⟩), .int .i64 sz, .int .i64 ca, .slice none 0 0, .slice none 0 0] 122)) W.heap.size p sz ca ⟨[], []⟩ [W.heap.size] :=
  ⟨_, _, ⟨heap_alloc_new W _, World.ownsRow_nil _ _ _ _, World.ownsRow_nil _ _ _ _, by simp [lfoot, Value.ownBlock]⟩, by simp [lfoot, Value.ownBlock]⟩
set_option maxRecDepth 100000 in
theorem sNew_any (p : Nat) (s c : Int) (w : World) : Calls Try.prog 36 #[.pointer (some ⟨p, 0, none⟩), .agg #[.int .i64 s, .int .i64 c]] w fun e w' => Below w.heap.size w w' ∧
    ((segOk s c = true ∧ ∃ b, w.heap.size ≤ b ∧ Lkd w' b p s c ⟨[], []⟩ [b] ∧ e = .returned (.tuple #[.pointer (some ⟨b, 0, none⟩), .int .i64 0])) ∨ (segOk s c = false ∧ e = .returned (.tuple #[.pointer none, .int .i64 240]))) := by
  have hB : Below w.heap.size w (w.alloc (.cells #[.int .i64 s, .int .i64 c] 23)) := (Below.refl _ _).alloc (Nat.le_refl _) _
  have hc := checkSeg_any s c (w.alloc (.cells #[.int .i64 s, .int .i64 c] 23))
  have c0 : (w.alloc (.cells #[.int .i64 s, .int .i64 c] 23)).cell? ⟨w.heap.size, 0, none⟩ = some (.int .i64 s) := by simp
  have c1 : (w.alloc (.cells #[.int .i64 s, .int .i64 c] 23)).cell? ⟨w.heap.size, 1, none⟩ = some (.int .i64 c) := by simp
  unfold segChk at hc
  cases hk : segOk s c <;> rw [hk] at hc
  · clear hk
    go_enter Try.func36, Try.ntmps36
    go_wp2_with fail
    refine hc.mono ?_
    rintro e w1 ⟨hb1, rfl⟩
    go_wp2_with fail
    go_ret2
    exact ⟨hB.trans (hb1.mono hB.size), .inr ⟨trivial, rfl⟩⟩
  · clear hk
    go_enter Try.func36, Try.ntmps36
    go_wp2_with fail
    refine hc.mono ?_
    rintro e w1 ⟨hb1, rfl⟩
    have d0 := keep_be hb1 c0
    have d1 := keep_be hb1 c1
    have hb2 := hB.trans (hb1.mono hB.size)
    have HN := Hid.mk (Lkd.new w1 p s c)
    clear c0 c1 hb1 hB
    go_wp2_with fail
    go_ret2
    exact ⟨hb2.alloc hb2.size _, .inl ⟨trivial, _, hb2.size, HN.out, rfl⟩⟩
end Go.Proofs.Ytpfnnmcokbolhaa
/- Regions that draw their order and end in one store: a condition on the world that is kept until that store. -/
namespace Go.Proofs.Ytpfnnmcokbolhaa
open Go.RowKit
section
variable {P : Program} {ops : Array Oper} {Q : Exit → Act → World → Prop} {md : Region.Mode} {S : World → Prop} {k : Nat}
/-- whatever order is picked, S holds behind every operation until operation k has come up -/
def wpAnyL (P : Program) (md : Region.Mode) (ops : Array Oper) (Q : Exit → Act → World → Prop) (S : World → Prop) (k : Nat) : Nat → Array Bool → Act → World → Prop
  | 0, listed, a, w => Region.ready md ops listed = [] ∧ Q .normal a w
  | fuel + 1, listed, a, w =>
    (Region.ready md ops listed = [] → Q .normal a w) ∧
    ∀ i ∈ Region.ready md ops listed, wpOp P ops Q i (fun a' w' => ((listed.setIfInBounds i true).getD k true = false → S w') ∧ wpAnyL P md ops Q S k fuel (listed.setIfInBounds i true) a' w') a w
theorem wpAny_of_L : ∀ (fuel : Nat) (listed : Array Bool) (a : Act) (w : World), wpAnyL P md ops Q S k fuel listed a w → wpAny P md ops Q fuel listed a w
  | 0, _, _, _, h => h
  | fuel + 1, _, _, _, h => ⟨h.1, fun i hi => wpOp_mono (fun a' w' h' => wpAny_of_L fuel _ a' w' h'.2) (h.2 i hi)⟩
theorem wpAnyL_first {i : Nat} {oi : Oper} {v : Value} (hi : ops[i]? = some oi) (hsel : ∀ (j : Nat) (o : Oper) cs b, ops[j]? = some o → o.op ≠ .select cs b)
    (hQ : ∀ c a w, Q (.panic c) (a.put oi.dst v) w → Q (.panic c) a w) (hk : ∃ ok, ops[k]? = some ok ∧ ∃ e ∈ ok.after, Region.binds md e = true ∧ e.on = i) :
    ∀ (fuel : Nat) (listed : Array Bool) (a : Act) (w : World), listed.getD k true = false →
      (∀ j oj, ops[j]? = some oj → j ≠ i → listed.getD j true = false → (∀ e ∈ oj.after, Region.binds md e = true → e.on ≠ i) → oi.apart ops oj = true) →
      i ∈ Region.ready md ops listed → YieldsIf P ops S oi v a → S w →
      wpAnyL P md ops Q S k fuel (listed.setIfInBounds i true) (a.put oi.dst v) w → wpAnyL P md ops Q S k (fuel + 1) listed a w := by
  intro fuel
  induction fuel with
  | zero =>
    intro listed a w _ _ hr hy hS H
    refine ⟨fun h => (by rw [h] at hr; cases hr), fun j hj => ?_⟩
    by_cases hji : j = i
    · subst hji; exact hy.wpOp hi hS ⟨fun _ => hS, H⟩
    · have := ready_mono hj hji
      rw [H.1] at this
      cases this
  | succ fuel ih =>
    intro listed a w hkl hfree hr hy hS H
    refine ⟨fun h => (by rw [h] at hr; cases hr), fun j hj => ?_⟩
    by_cases hji : j = i
    · subst hji; exact hy.wpOp hi hS ⟨fun _ => hS, H⟩
    · have h1 := H.2 j (ready_mono hj hji)
      obtain ⟨hjun, oj, hoj, hall⟩ := mem_ready.1 hj
      have hnot : ∀ e ∈ oj.after, Region.binds md e = true → e.on ≠ i := fun e he hb heq => by
        have h1 := hall e he hb
        have h0 := (mem_ready.1 hr).1
        rw [heq] at h1
        rcases Nat.lt_or_ge i listed.size with h' | h'
        · simp [h'] at h0 h1; rw [h0] at h1; cases h1
        · simp [Array.getElem?_eq_none h'] at h1
      have hjk : j ≠ k := by
        rintro rfl
        obtain ⟨ok, hok, e, he, hb, hei⟩ := hk
        rw [hoj] at hok
        cases hok
        exact hnot e he hb hei
      have hik : i ≠ k := by
        rintro rfl
        obtain ⟨ok, hok, e, he, hb, hei⟩ := hk
        obtain ⟨h0, oi', hoi', hall'⟩ := mem_ready.1 hr
        rw [hok] at hoi'
        cases hoi'
        have h1 := hall' e he hb
        rw [hei] at h1
        rcases Nat.lt_or_ge i listed.size with h' | h'
        · simp [h'] at h0 h1; rw [h0] at h1; cases h1
        · simp [Array.getElem?_eq_none h'] at h1
      have hkl' : (listed.setIfInBounds j true).getD k true = false := by rw [getD_set_ne true hjk]; exact hkl
      have hkl2 : ((listed.setIfInBounds i true).setIfInBounds j true).getD k true = false := by rw [getD_set_ne true hjk, getD_set_ne true hik]; exact hkl
      have h2 := wpOp_putIf hoj (hfree j oj hoj hji hjun hnot) (fun cs b => hsel i oi cs b hi) (fun cs b => hsel j oj cs b hoj) hQ hy h1
      have hfree' : ∀ k ok, ops[k]? = some ok → k ≠ i → (listed.setIfInBounds j true).getD k true = false →
          (∀ e ∈ ok.after, Region.binds md e = true → e.on ≠ i) → oi.apart ops ok = true := fun k ok hk hki hun hno => by
        refine hfree k ok hk hki ?_ hno
        by_cases hjk : j = k
        · subst hjk; exact hjun
        · rw [getD_set_ne true hjk] at hun; exact hun
      refine wpOp_mono (fun a' w' h3 => ⟨fun _ => h3.2.1 hkl2, ih (listed.setIfInBounds j true) a' w' hkl' hfree' (ready_mono hr (Ne.symm hji)) h3.1 (h3.2.1 hkl2) ?_⟩) h2
      rw [Array.setIfInBounds_comm _ _ hji]
      exact h3.2.2
/-- operation k waits for operation i, and has not come up -/
def waitsB (md : Region.Mode) (ops : Array Oper) (listed : Array Bool) (k i : Nat) : Bool := (match ops[k]? with | some ok => ok.after.any (fun e => Region.binds md e && e.on == i) | none => false) && !(listed.getD k true)
theorem wpAnyL_take {i : Nat} {oi : Oper} {v : Value} {fuel : Nat} {listed : Array Bool} {a : Act} {w : World} (hi : ops[i]? = some oi)
    (hs : Region.noSelect ops = true) (hf : Region.free md ops listed i = true) (hr : (Region.ready md ops listed).contains i = true) (hw : waitsB md ops listed k i = true)
    (hQ : ∀ c a w, Q (.panic c) (a.put oi.dst v) w → Q (.panic c) a w) (hy : YieldsIf P ops S oi v a) (hS : S w)
    (h : wpAnyL P md ops Q S k fuel (listed.setIfInBounds i true) (a.put oi.dst v) w) : wpAnyL P md ops Q S k (fuel + 1) listed a w := by
  unfold waitsB at hw
  rw [Bool.and_eq_true] at hw
  refine wpAnyL_first hi (Region.noSelect_spec hs) hQ ?_ fuel listed a w (by simpa using hw.2) (Region.free_spec hi hf) (by simpa using hr) hy hS h
  have h1 := hw.1
  split at h1
  · rename_i ok hok
    obtain ⟨j, hj, he⟩ := Array.any_eq_true.1 h1
    rw [Bool.and_eq_true] at he
    exact ⟨ok, hok, ok.after[j], Array.getElem_mem hj, he.1, by simpa using he.2⟩
  · cases h1
/-- the only one that may come up -/
theorem wpAnyL_only {i : Nat} {o : Oper} {fuel : Nat} {listed : Array Bool} {a : Act} {w : World} (hr : Region.ready md ops listed = [i]) (ho : ops[i]? = some o)
    (h : ∀ K : Act → World → Prop, (∀ a' w', ((listed.setIfInBounds i true).getD k true = false → S w') → ((((listed.setIfInBounds i true).getD k true = false → S w')) → wpAnyL P md ops Q S k fuel (listed.setIfInBounds i true) a' w') → K a' w') →
      if Region.wanted o (yielded ops a.tmps) = true then o.wp P a w K Q else K (a.put o.dst undef) w) : wpAnyL P md ops Q S k (fuel + 1) listed a w := by
  refine ⟨fun h0 => (by rw [hr] at h0; cases h0), fun j hj => ?_⟩
  rw [hr] at hj
  obtain rfl : j = i := by simpa using hj
  unfold wpOp
  rw [ho]
  simp only
  have h2 := h (fun a' w' => ((listed.setIfInBounds j true).getD k true = false → S w') ∧ wpAnyL P md ops Q S k fuel (listed.setIfInBounds j true) a' w') (fun a' w' h1 h2 => ⟨h1, h2 h1⟩)
  by_cases hw : Region.wanted o (yielded ops a.tmps) = true
  · rw [if_pos hw] at h2 ⊢
    exact .inl h2
  · rw [if_neg hw] at h2 ⊢
    exact h2
theorem wpAnyL_done {listed : Array Bool} {a : Act} {w : World} {fuel : Nat} (hr : Region.ready md ops listed = []) (h : Q .normal a w) : wpAnyL P md ops Q S k fuel listed a w := by
  cases fuel with
  | zero => exact ⟨hr, h⟩
  | succ n => exact ⟨fun _ => h, fun i hi => by rw [hr] at hi; cases hi⟩
theorem wp_region_L {id : Nat} {a : Act} {w : World} (k : Nat) (S : World → Prop) (hm : P.follows .mixedOrders = true) (hS : S w.drew) (h : S w.drew → wpAnyL P .any ops Q S k ops.size (Array.replicate ops.size false) a w.drew) : (Code.region id ops true).wp P Q a w :=
  wp_region_any hm (wpAny_of_L _ _ _ _ (h hS))
theorem region_round_L {l n : Nat} {id : Nat} {a : Act} {w : World} (k : Nat) (S : World → Prop) (hm : P.follows .mixedOrders = true) (hL : ¬ LetsOut Q) (hd : ∀ (i : Nat) (o : Oper) c, ops[i]? = some o → o.op ≠ .defer c) (hS : S w.drew)
    (h : S w.drew → wpAnyL P .any ops Q S k ops.size (Array.replicate ops.size false) a w.drew) : (Code.region id ops true).wpIn (Fence.wide.inRound l) n P Q a w :=
  wpIn_region_any hm (any_round hL hd _ _ _ _ (wpAny_of_L _ _ _ _ (h hS)))
end
end Go.Proofs.Ytpfnnmcokbolhaa
/- Rows of told regions: slices.Clone, slices.Delete, and the top of a row. -/
namespace Go.Proofs.Ytpfnnmcokbolhaa
open Go.RowKit
set_option pp.deepTerms true
theorem nilR (w : World) (a : Option Addr) (n c n' c' : Nat) : (binOp .eql 60 (.slice a n c) (.slice none n' c')).run Try.prog w = .ok (.bool a.isNone) w := Lib.run_eql_slice_nil w _ _ a n c n' c' Try.underlying60
set_option maxRecDepth 100000 in
theorem cloneR_nil (w : World) : Calls Try.prog 74 #[.slice none 0 0] w fun e w' => e = .returned (.slice none 0 0) ∧ w' = w := by
  have q := nilR
  go_enter Try.func74, Try.ntmps74
  go_wp2
  go_ret
  exact ⟨rfl, rfl⟩
/-- a copy of a row is a row of the call's own (or none) -/
def ClonePost (xs : List (Int × Int)) (w : World) (e : Ending) (w' : World) : Prop :=
  Below w.heap.size w w' ∧ ∃ v, e = .returned v ∧ w'.ownsRow w.heap.size 88 2 v xs.length (wcells xs)
set_option maxRecDepth 100000 in
theorem cloneR_any {w : World} {base : Nat} {v : Value} {xs : List (Int × Int)} (h : w.ownsRow base 88 2 v xs.length (wcells xs)) (hn : xs.length ≤ 4194304) :
    Calls Try.prog 74 #[v] w (ClonePost xs w) := by
  obtain ⟨i0, hi, hz0, hz1, hz2⟩ := info_parts infoR
  have q := nilR
  rcases h.2 with ⟨rfl, h0⟩ | ⟨g, cap, cur, rfl, _, hg, _⟩
  · obtain rfl := List.eq_nil_of_length_eq_zero h0
    refine (cloneR_nil w).mono ?_
    rintro e w' ⟨rfl, rfl⟩
    exact ⟨Below.refl _ _, _, rfl, World.ownsRow_nil _ _ _ _⟩
  · have hgl := lt_of_heap hg
    have HC : Hid (∀ (o : Obj) j u, (wcells xs)[j]? = some u → (w.alloc o).cell? ((⟨g, 0, none⟩ : Addr).add j) = some u) := by
      intro o j u hu
      have := alloc_cell (o := o) (row_cell h hu)
      cases j <;> simpa [Addr.add] using this
    obtain ⟨n, hn'⟩ : ∃ n, xs.length = n := ⟨_, rfl⟩
    have HN := Hid.mk hn'
    rw [hn'] at hn ⊢
    clear h hg hn'
    go_enter Try.func74, Try.ntmps74
    go_wp2_with (at_builtin; refine wpList_append_own _ rfl (.tmp 5) (.tmp 6) 60 rfl w.heap.size 88 i0 (.agg #[.int .i64 0, .int .i64 0]) 2 16 Try.underlying60 hi hz0 hz1 hz2 rfl (by decide) _ 0 [] rfl (World.ownsRow_lit _ _ _ ?c0 ?c01 ?c02) ⟨g, 0, none⟩ n cap (wcells xs) rfl ?c1 ?c2 ?c3 ?c4 ?c5 ?c6 ?_)
    case c0 => exact Nat.le_refl _
    case c01 => exact Nat.zero_le _
    case c02 => rfl
    case c1 => rw [wcells_len, HN.out]
    case c2 => exact HC.out _
    case c3 => exact wc_one
    case c4 => unfold maxLen; omega
    case c5 => omega
    case c6 => simp
    intro v' w' hown hgrow hnn
    obtain ⟨ao, c, rfl⟩ := own_shape hown
    go_wp2
    go_ret
    refine ⟨((Below.refl _ _).alloc (Nat.le_refl _) _).grown hgrow (by simp) (by intro k hk; simp [Value.ownBlock] at hk; omega), _, rfl, ?_⟩
    rw [HN.out]
    simpa using hown
theorem zeroR (w : World) : (zeroValue 88).run Try.prog w = .ok (.agg #[.int .i64 0, .int .i64 0]) w := by kernel_rfl
theorem zeroR1 : (Builtin.zeroCells (Value.agg #[Value.int .i64 0, .int .i64 0]).cells 1).toList = [Value.int .i64 0, .int .i64 0] := by simp [Builtin.zeroCells, Value.cells, Array.range, Array.toList_ofFn, List.ofFn_succ]
def DelPostR (base B cap i r : Nat) (xs : List Value) (w : World) (e : Ending) (w' : World) : Prop :=
  w'.ownsRow base 88 2 (.slice (some ⟨B, 0, none⟩) (i + r) cap) (i + r) (xs.take (i * 2) ++ xs.drop ((i + 1) * 2)) ∧ Kp [B] w w' ∧ e = .returned (.slice (some ⟨B, 0, none⟩) (i + r) cap)
set_option maxRecDepth 100000 in
set_option maxHeartbeats 2000000 in
theorem delR_any {w : World} {base B cap i r : Nat} {xs : List Value} (h : w.ownsRow base 88 2 (.slice (some ⟨B, 0, none⟩) (i + 1 + r) cap) (i + 1 + r) xs) (_hn : i + 1 + r ≤ 4194304) (hone : ∀ u ∈ xs, u.oneCell' = true) :
    Calls Try.prog 82 #[.slice (some ⟨B, 0, none⟩) (i + 1 + r) cap, .int .i64 i, .int .i64 (i + 1)] w (DelPostR base B cap i r xs w) := by
  obtain ⟨i0, hi0, hz0, hz1, hz2⟩ := info_parts infoR
  have hcap : i + 1 + r ≤ cap := by
    rcases h.2 with ⟨q, _⟩ | ⟨_, _, _, q, _, _, hc, _⟩
    · simp at q
    · simp at q; omega
  have hne : ((i : Int) == (i : Int) + 1) = false := by simp; omega
  obtain ⟨A, hA, hnews⟩ : ∃ A : Addr, (if cap = i + 1 then some (⟨B, 0, none⟩ : Addr) else some ⟨B, (i + 1) * 2, none⟩) = some A ∧ Hid (∀ j u, (xs.drop ((i + 1) * 2))[j]? = some u → w.cell? (A.add j) = some u) := by
    by_cases hc : cap = i + 1
    · refine ⟨_, by rw [if_pos hc], fun j u hu => ?_⟩
      rw [List.drop_of_length_le (by rw [h.1]; omega)] at hu
      simp at hu
    · refine ⟨_, by rw [if_neg hc], fun j u hu => ?_⟩
      have hadd : (⟨B, (i + 1) * 2, none⟩ : Addr).add j = ⟨B, (i + 1) * 2 + j, none⟩ := by unfold Addr.add; split <;> simp_all
      rw [hadd]
      rw [List.getElem?_drop] at hu
      exact row_cell h hu
  have HL : Hid ((xs.drop ((i + 1) * 2)).length = r * 2) := by unfold Hid; rw [List.length_drop, h.1]; omega
  have HO1 : Hid (∀ u ∈ xs.drop ((i + 1) * 2), u.oneCell' = true) := fun u hu => hone u (List.mem_of_mem_drop hu)
  have HX := Hid.mk h.1
  have HH := Hid.mk h
  clear hone h
  have b1 : (i : Int) + 1 ≤ (i : Int) + 1 + r := by omega
  have b3 : (i : Int) + 1 ≤ cap := by omega
  have b0 : i ≤ cap := by omega
  have b4 : i + 1 ≤ i + 1 + r := by omega
  have b5 : i + 1 ≤ cap := by omega
  have b6 : (0 : Int) ≤ (i : Int) + 1 := by omega
  have b7 : i + r ≤ i + 1 + r := by omega
  have b8 : 1 ≤ i + 1 + r - (i + r) := by omega
  go_enter Try.func82, Try.ntmps82
  go_wp2
  go_region_law (refine step_append_in rfl (.tmp 22) (.tmp 25) 60 rfl i0 Try.underlying60 hi0 hz1 HH.out.drew i (by simp [Act.eval, Act.put]) A r (cap - (i + 1)) (xs.drop ((i + 1) * 2)) (by simp [Act.eval, Act.put]) HL.out hnews.out HO1.out b7 ?_; intro w2 hr2 hg2)
  go_wp2_with (with_reducible refine wpList_clear_row rfl (.tmp 31) 60 rfl Try.underlying60 (.agg #[.int .i64 0, .int .i64 0]) zeroR ((i + r) * 2) (i + 1 + r - (i + r)) (cap - (i + r)) rfl b8 hr2 [.int .i64 0, .int .i64 0] ?c0 ?c1 ?c2 ?_)
  case c0 => rw [show i + 1 + r - (i + r) = 1 by omega]; exact zeroR1
  case c1 => simp; omega
  case c2 => intro u hu; simp only [List.mem_cons, List.not_mem_nil, or_false] at hu; obtain rfl | rfl := hu <;> rfl
  intro w3 hr3 hg3
  go_wp2
  go_ret
  refine ⟨?_, ?_, rfl⟩
  · have := row_cut hr3 (m := i + r) (by omega)
    rwa [del_take HX.out] at this
  · exact ((((Kp.refl _ _).drew).grown hg2 (by intro q hq; simp at hq; exact .inl (by simp [hq])))).grown hg3 (by intro q hq; simp at hq; exact .inl (by simp [hq]))


theorem wcells_erase {xs : List (Int × Int)} {i : Nat} : wcells (xs.eraseIdx i) = (wcells xs).take (i * 2) ++ (wcells xs).drop ((i + 1) * 2) := by
  induction xs generalizing i with
  | nil => simp [wcells]
  | cons x xs ih =>
    cases i with
    | zero => simp [wcells, wcell]
    | succ i =>
      have e1 : (i + 1) * 2 = i * 2 + 1 + 1 := by omega
      have e2 : (i + 1 + 1) * 2 = (i + 1) * 2 + 1 + 1 := by omega
      have hw : ∀ l, wcells (x :: l) = .int .i64 x.1 :: .int .i64 x.2 :: wcells l := fun l => rfl
      rw [List.eraseIdx_cons_succ, hw, hw, ih, e2]
      rw [show (i + 1) * 2 = i * 2 + 1 + 1 by omega, List.take_succ_cons, List.take_succ_cons, List.drop_succ_cons, List.drop_succ_cons]
      rfl
/-- the top of a row -/
def topOf (xs : List (Int × Int)) : (Int × Int) × Bool := match xs.getLast? with | some x => (x, true) | none => ((0, 0), false)
set_option maxRecDepth 100000 in
set_option maxHeartbeats 2000000 in
theorem hlast_any {w : World} {b o base : Nat} {v : Value} {xs : List (Int × Int)} (hc : w.cell? ⟨b, o, none⟩ = some v) (h : w.ownsRow base 88 2 v xs.length (wcells xs)) (hn : xs.length ≤ 4194304) :
    Calls Try.prog 64 #[.pointer (some ⟨b, o, none⟩)] w fun e w' => Below w.heap.size w w' ∧ e = .returned (.tuple #[.agg #[.int .i64 (topOf xs).1.1, .int .i64 (topOf xs).1.2], .bool (topOf xs).2]) := by
  have hbl := cell_lt hc
  have hb2 : ∀ o1 o2, Below w.heap.size w ((w.alloc o1).alloc o2) := fun o1 o2 => ((Below.refl _ _).alloc (Nat.le_refl _) _).alloc (by simp) _
  obtain ⟨ao, c, rfl⟩ := own_shape h
  have c1 := fun o1 o2 => alloc_cell (o := o2) (alloc_cell (o := o1) hc)
  rcases Nat.eq_zero_or_pos xs.length with h0 | h0
  · obtain rfl := List.eq_nil_of_length_eq_zero h0
    simp only [List.length_nil] at c1
    have e : topOf [] = ((0, 0), false) := rfl
    rw [e]
    clear h h0 hc
    go_enter Try.func64, Try.ntmps64
    go_wp2
    refine bodyPost_ret (v := .tuple #[.agg #[.int .i64 0, .int .i64 0], .bool false]) (by simp [results, Try.results64, go_sem]) rfl ⟨?_, rfl⟩
    exact hb2 _ _
  · obtain ⟨k, hk⟩ : ∃ k, xs.length = k + 1 := ⟨xs.length - 1, by omega⟩
    obtain ⟨x, hx⟩ : ∃ x, xs[k]? = some x := ⟨xs[k], by simp [hk]⟩
    have e : topOf xs = (x, true) := by
      unfold topOf
      rw [List.getLast?_eq_getElem?, hk]
      simp [hx]
    rw [e]
    simp only
    obtain ⟨hkl, rfl⟩ := List.getElem?_eq_some_iff.1 hx
    obtain ⟨g, cap, e2⟩ := row_shape h h0
    simp only [Value.slice.injEq, true_and] at e2
    obtain ⟨rfl, rfl⟩ := e2
    have r0 := row_cell h (wcells_fst hkl)
    have r1 := row_cell h (wcells_snd hkl)
    obtain ⟨y1, hy1⟩ : ∃ y1, xs[k].1 = y1 := ⟨_, rfl⟩
    obtain ⟨y2, hy2⟩ : ∃ y2, xs[k].2 = y2 := ⟨_, rfl⟩
    rw [hy1] at r0 ⊢
    rw [hy2] at r1 ⊢
    rw [hk] at c1
    have d0 := fun o1 o2 => alloc_cell (o := o2) (alloc_cell (o := o1) r0)
    have d1 := fun o1 o2 => alloc_cell (o := o2) (alloc_cell (o := o1) r1)
    have w1 : IntKind.i64.wrap (((k + 1 : Nat) : Int) - 1) = (k : Int) := by rw [IntKind.wrap_i64]; omega
    have w2 : IntKind.i64.wrap ((k : Int) + 1 - 1) = (k : Int) := by rw [IntKind.wrap_i64]; omega
    have hk2 : k ≤ 4194304 := by omega
    have hk3 : k < k + 1 := by omega
    have hk4 : (k : Int) < (k : Int) + 1 := by omega
    clear hc h h0 hk hx hy1 hy2 e r0 r1 hn hkl
    go_enter Try.func64, Try.ntmps64
    go_wp2
    go_region
    all_goals
      go_wp2
      refine bodyPost_ret (v := .tuple #[.agg #[.int .i64 y1, .int .i64 y2], .bool true]) (by simp [results, Try.results64, go_sem]) rfl ⟨?_, rfl⟩
      exact (hb2 _ _).drew
def RowAt (w : World) (b o : Nat) (cs : Array Value) (T : TypeId) (xs : List (Int × Int)) (w' : World) : Prop :=
  ∃ v', w'.heap[b]? = some (.cells (cs.setIfInBounds o v') T (0, 0)) ∧ w'.ownsRow w.heap.size 88 2 v' xs.length (wcells xs) ∧ Kp [b] w w'
set_option maxRecDepth 100000 in
set_option maxHeartbeats 4000000 in
theorem fewer_any {w : World} {b o base : Nat} {cs : Array Value} {T : TypeId} {v : Value} {xs : List (Int × Int)} (hb : w.heap[b]? = some (.cells cs T (0, 0))) (ho : cs[o]? = some v) (h : w.ownsRow base 88 2 v xs.length (wcells xs)) (h1 : 1 ≤ xs.length) (hn : xs.length ≤ 4194304) :
    Calls Try.prog 88 #[.pointer (some ⟨b, o, none⟩)] w fun e w' => RowAt w b o cs T xs.dropLast w' ∧ ∃ u, e = .returned u := by
  have hc : w.cell? ⟨b, o, none⟩ = some v := by rw [cell_of_row w b o _ _ _ hb, ho]
  have hbl := cell_lt hc
  obtain ⟨k, hk⟩ : ∃ k, xs.length = k + 1 := ⟨xs.length - 1, by omega⟩
  obtain ⟨g, cap, rfl⟩ := row_shape h h1
  have HCl := Hid.mk (cloneR_any (w := w.drew) h.drew hn)
  have HB := Hid.mk hb
  have HO := Hid.mk ho
  have HK := Hid.mk hk
  have HD : Hid (xs.dropLast = xs.eraseIdx k ∧ xs.dropLast.length = k) := by
    refine ⟨?_, by simp [hk]⟩
    rw [List.eraseIdx_eq_dropLast (by omega)]
  rw [hk] at hc HCl
  have w1 : IntKind.i64.wrap (k : Int) = (k : Int) := by rw [IntKind.wrap_i64]; omega
  have hk2 : k + 1 ≤ 4194304 := by omega
  have hdr : Below w.heap.size w w.drew := (Below.refl _ _).drew
  clear h h1 hn hb hk ho
  go_enter Try.func88, Try.ntmps88
  refine wp_region_L 20 (fun W' => W'.cell? ⟨b, o, none⟩ = some (.slice (some ⟨g, 0, none⟩) (k + 1) cap)) (by kernel_rfl) hc (fun hHeld => ?_)
  refine wpAnyL_take (i := 0) (v := ?_) rfl (by kernel_rfl) (by kernel_rfl) (by kernel_rfl) (by kernel_rfl) (fun _ _ _ h => h) (Or.inl ⟨by rfl, ?_⟩) (by assumption) ?_
  rotate_left
  · (intro w hSw; (try dsimp only at hSw); go_simp <;> with_reducible rfl)
  (try simp only [Act.put, List.getElem_toArray, List.getElem_cons_zero, List.setIfInBounds_toArray, List.set_cons_zero, List.set_cons_succ])
  refine wpAnyL_take (i := 1) (v := ?_) rfl (by kernel_rfl) (by kernel_rfl) (by kernel_rfl) (by kernel_rfl) (fun _ _ _ h => h) (Or.inl ⟨by rfl, ?_⟩) (by assumption) ?_
  rotate_left
  · (intro w hSw; (try dsimp only at hSw); go_simp <;> with_reducible rfl)
  (try simp only [Act.put, List.getElem_toArray, List.getElem_cons_zero, List.getElem_cons_succ, List.setIfInBounds_toArray, List.set_cons_zero, List.set_cons_succ])
  refine wpAnyL_take (i := 2) (v := ?_) rfl (by kernel_rfl) (by kernel_rfl) (by kernel_rfl) (by kernel_rfl) (fun _ _ _ h => h) (Or.inl ⟨by rfl, ?_⟩) (by assumption) ?_
  rotate_left
  · (intro w hSw; (try dsimp only at hSw); go_simp <;> with_reducible rfl)
  (try simp only [Act.put, List.getElem_toArray, List.getElem_cons_zero, List.getElem_cons_succ, List.setIfInBounds_toArray, List.set_cons_zero, List.set_cons_succ])
  refine wpAnyL_take (i := 3) (v := ?_) rfl (by kernel_rfl) (by kernel_rfl) (by kernel_rfl) (by kernel_rfl) (fun _ _ _ h => h) (Or.inl ⟨by rfl, ?_⟩) (by assumption) ?_
  rotate_left
  · (intro w hSw; (try dsimp only at hSw); go_simp <;> with_reducible rfl)
  (try simp only [Act.put, List.getElem_toArray, List.getElem_cons_zero, List.getElem_cons_succ, List.setIfInBounds_toArray, List.set_cons_zero, List.set_cons_succ])
  refine wpAnyL_take (i := 4) (v := ?_) rfl (by kernel_rfl) (by kernel_rfl) (by kernel_rfl) (by kernel_rfl) (fun _ _ _ h => h) (Or.inl ⟨by rfl, ?_⟩) (by assumption) ?_
  rotate_left
  · (intro w hSw; (try dsimp only at hSw); go_simp <;> with_reducible rfl)
  (try simp only [Act.put, List.getElem_toArray, List.getElem_cons_zero, List.getElem_cons_succ, List.setIfInBounds_toArray, List.set_cons_zero, List.set_cons_succ])
  refine wpAnyL_take (i := 6) (v := ?_) rfl (by kernel_rfl) (by kernel_rfl) (by kernel_rfl) (by kernel_rfl) (fun _ _ _ h => h) (Or.inl ⟨by rfl, ?_⟩) (by assumption) ?_
  rotate_left
  · (intro w hSw; (try dsimp only at hSw); go_simp <;> with_reducible rfl)
  (try simp only [Act.put, List.getElem_toArray, List.getElem_cons_zero, List.getElem_cons_succ, List.setIfInBounds_toArray, List.set_cons_zero, List.set_cons_succ])
  refine wpAnyL_take (i := 7) (v := ?_) rfl (by kernel_rfl) (by kernel_rfl) (by kernel_rfl) (by kernel_rfl) (fun _ _ _ h => h) (Or.inl ⟨by rfl, ?_⟩) (by assumption) ?_
  rotate_left
  · (intro w hSw; (try dsimp only at hSw); go_simp <;> with_reducible rfl)
  (try simp only [Act.put, List.getElem_toArray, List.getElem_cons_zero, List.getElem_cons_succ, List.setIfInBounds_toArray, List.set_cons_zero, List.set_cons_succ])
  refine wpAnyL_take (i := 8) (v := ?_) rfl (by kernel_rfl) (by kernel_rfl) (by kernel_rfl) (by kernel_rfl) (fun _ _ _ h => h) (Or.inl ⟨by rfl, ?_⟩) (by assumption) ?_
  rotate_left
  · (intro w hSw; (try dsimp only at hSw); go_simp <;> with_reducible rfl)
  (try simp only [Act.put, List.getElem_toArray, List.getElem_cons_zero, List.getElem_cons_succ, List.setIfInBounds_toArray, List.set_cons_zero, List.set_cons_succ])
  refine wpAnyL_take (i := 9) (v := ?_) rfl (by kernel_rfl) (by kernel_rfl) (by kernel_rfl) (by kernel_rfl) (fun _ _ _ h => h) (Or.inl ⟨by rfl, ?_⟩) (by assumption) ?_
  rotate_left
  · (intro w hSw; (try dsimp only at hSw); go_simp <;> with_reducible rfl)
  (try simp only [Act.put, List.getElem_toArray, List.getElem_cons_zero, List.getElem_cons_succ, List.setIfInBounds_toArray, List.set_cons_zero, List.set_cons_succ])
  refine wpAnyL_take (i := 10) (v := ?_) rfl (by kernel_rfl) (by kernel_rfl) (by kernel_rfl) (by kernel_rfl) (fun _ _ _ h => h) (Or.inl ⟨by rfl, ?_⟩) (by assumption) ?_
  rotate_left
  · (intro w hSw; (try dsimp only at hSw); go_simp <;> with_reducible rfl)
  (try simp only [Act.put, List.getElem_toArray, List.getElem_cons_zero, List.getElem_cons_succ, List.setIfInBounds_toArray, List.set_cons_zero, List.set_cons_succ])
  refine wpAnyL_take (i := 11) (v := ?_) rfl (by kernel_rfl) (by kernel_rfl) (by kernel_rfl) (by kernel_rfl) (fun _ _ _ h => h) (Or.inl ⟨by rfl, ?_⟩) (by assumption) ?_
  rotate_left
  · (intro w hSw; (try dsimp only at hSw); go_simp <;> with_reducible rfl)
  (try simp only [Act.put, List.getElem_toArray, List.getElem_cons_zero, List.getElem_cons_succ, List.setIfInBounds_toArray, List.set_cons_zero, List.set_cons_succ])
  refine wpAnyL_take (i := 12) (v := ?_) rfl (by kernel_rfl) (by kernel_rfl) (by kernel_rfl) (by kernel_rfl) (fun _ _ _ h => h) (Or.inl ⟨by rfl, ?_⟩) (by assumption) ?_
  rotate_left
  · (intro w hSw; (try dsimp only at hSw); go_simp <;> with_reducible rfl)
  (try simp only [Act.put, List.getElem_toArray, List.getElem_cons_zero, List.getElem_cons_succ, List.setIfInBounds_toArray, List.set_cons_zero, List.set_cons_succ])
  refine wpAnyL_take (i := 13) (v := ?_) rfl (by kernel_rfl) (by kernel_rfl) (by kernel_rfl) (by kernel_rfl) (fun _ _ _ h => h) (Or.inl ⟨by rfl, ?_⟩) (by assumption) ?_
  rotate_left
  · (intro w hSw; (try dsimp only at hSw); go_simp <;> with_reducible rfl)
  (try simp only [Act.put, List.getElem_toArray, List.getElem_cons_zero, List.getElem_cons_succ, List.setIfInBounds_toArray, List.set_cons_zero, List.set_cons_succ])
  refine wpAnyL_take (i := 14) (v := ?_) rfl (by kernel_rfl) (by kernel_rfl) (by kernel_rfl) (by kernel_rfl) (fun _ _ _ h => h) (Or.inl ⟨by rfl, ?_⟩) (by assumption) ?_
  rotate_left
  · (intro w hSw; (try dsimp only at hSw); go_simp <;> with_reducible rfl)
  (try simp only [Act.put, List.getElem_toArray, List.getElem_cons_zero, List.getElem_cons_succ, List.setIfInBounds_toArray, List.set_cons_zero, List.set_cons_succ])
  refine wpAnyL_take (i := 15) (v := ?_) rfl (by kernel_rfl) (by kernel_rfl) (by kernel_rfl) (by kernel_rfl) (fun _ _ _ h => h) (Or.inl ⟨by rfl, ?_⟩) (by assumption) ?_
  rotate_left
  · (intro w hSw; (try dsimp only at hSw); go_simp <;> with_reducible rfl)
  (try simp only [Act.put, List.getElem_toArray, List.getElem_cons_zero, List.getElem_cons_succ, List.setIfInBounds_toArray, List.set_cons_zero, List.set_cons_succ])
  refine wpAnyL_take (i := 16) (v := ?_) rfl (by kernel_rfl) (by kernel_rfl) (by kernel_rfl) (by kernel_rfl) (fun _ _ _ h => h) (Or.inl ⟨by rfl, ?_⟩) (by assumption) ?_
  rotate_left
  · (intro w hSw; (try dsimp only at hSw); go_simp <;> with_reducible rfl)
  (try simp only [Act.put, List.getElem_toArray, List.getElem_cons_zero, List.getElem_cons_succ, List.setIfInBounds_toArray, List.set_cons_zero, List.set_cons_succ])
  clear w1
  refine wpAnyL_only (i := 5) (by kernel_rfl) rfl (fun K hK => ?_)
  go_simp
  refine HCl.out.mono ?_
  rintro e wx ⟨hbx, vx, rfl, hown⟩
  rw [HK.out] at hown
  obtain ⟨gx, cx2, rfl⟩ := row_shape hown (by omega)
  have cx := keep_dr hbx hc
  refine hK _ _ (fun _ => cx) (fun hHeld0 => ?_)
  have hHeld := hHeld0 rfl
  clear hK K hHeld0
  (try simp only [Act.put, List.getElem_toArray, List.getElem_cons_zero, List.getElem_cons_succ, List.setIfInBounds_toArray, List.set_cons_zero, List.set_cons_succ])
  refine wpAnyL_only (i := 17) (by kernel_rfl) rfl (fun K hK => ?_)
  go_simp
  refine (delR_any (base := w.drew.heap.size) (i := k) (r := 0) (xs := wcells xs) hown hk2 wc_one).mono ?_
  rintro e wy ⟨hy1, hy2, rfl⟩
  have hgx := (hown.lt gx rfl).1
  have hhx : wx.heap[b]? = some (.cells cs T (0, 0)) := below_at (undrew hbx) HB.out hbl
  have hhy : wy.heap[b]? = some (.cells cs T (0, 0)) := hy2.at hhx (by simp only [List.mem_singleton]; intro e; have hbl2 : b < w.heap.size := hbl; simp at hgx; omega)
  have cy : wy.cell? ⟨b, o, none⟩ = some (.slice (some ⟨g, 0, none⟩) (k + 1) cap) := by rw [cell_of_row wy b o _ _ _ hhy, HO.out, HK.out]
  have fy : wy.frozen? ⟨b, o, none⟩ = false := frozen_of_row wy b o _ _ hhy
  refine hK _ _ (fun _ => cy) (fun hHeld0 => ?_)
  have hHeld := hHeld0 rfl
  clear hK K hHeld0
  (try simp only [Act.put, List.getElem_toArray, List.getElem_cons_zero, List.getElem_cons_succ, List.setIfInBounds_toArray, List.set_cons_zero, List.set_cons_succ])
  refine wpAnyL_only (i := 18) (by kernel_rfl) rfl (fun K hK => ?_)
  go_simp
  refine hK _ _ (fun _ => cy) (fun hHeld0 => ?_)
  have hHeld := hHeld0 rfl
  clear hK K hHeld0
  (try simp only [Act.put, List.getElem_toArray, List.getElem_cons_zero, List.getElem_cons_succ, List.setIfInBounds_toArray, List.set_cons_zero, List.set_cons_succ])
  refine wpAnyL_only (i := 19) (by kernel_rfl) rfl (fun K hK => ?_)
  go_simp
  refine hK _ _ (fun _ => cy) (fun hHeld0 => ?_)
  have hHeld := hHeld0 rfl
  clear hK K hHeld0
  (try simp only [Act.put, List.getElem_toArray, List.getElem_cons_zero, List.getElem_cons_succ, List.setIfInBounds_toArray, List.set_cons_zero, List.set_cons_succ])
  refine wpAnyL_only (i := 20) (by kernel_rfl) rfl (fun K hK => ?_)
  go_simp
  refine hK _ _ (fun q => by cases q) (fun hHeld0 => ?_)
  clear hK K hHeld0
  refine wpAnyL_done (by kernel_rfl) ?_
  have HF : Hid (RowAt w b o cs T xs.dropLast (wy.setCell ⟨b, o, none⟩ (.slice (some ⟨gx, 0, none⟩) (k + 0) cx2))) := by
    refine ⟨.slice (some ⟨gx, 0, none⟩) (k + 0) cx2, ?_, ?_, ?_⟩
    · have := heap_setCell_same wy b o _ _ (.slice (some ⟨gx, 0, none⟩) (k + 0) cx2) hhy
      simpa using this
    · rw [HD.out.2, HD.out.1, wcells_erase]
      exact ownsRow_setCell_other hy1 (by simp only [Value.ownBlock, ne_eq, Option.some.injEq]; intro e; have hbl2 : b < w.heap.size := hbl; simp at hgx; omega) _
    · exact ((((Kp.of_below (undrew hbx) [b])).trans hy2 (fun x hx => by simp only [List.mem_singleton] at hx; subst hx; exact .inr hgx))).setCell (.inl (by simp)) _
  simp only [Nat.add_zero] at HF
  clear hbx hown hy1 hy2 hhx hhy cy fy cx
  go_end0
  exact ⟨HF.out, _, rfl⟩
end Go.Proofs.Ytpfnnmcokbolhaa
