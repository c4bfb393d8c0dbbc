/- Parts Df Dg Ga Gb Gc Wl, put together. -/
import Derived.Test.YtkooogllajmkeaaMo8
import Derived.Test.YtkooogllajmkeaaMo9
import Derived.Test.YtkooogllajmkeaaMo10
import Derived.Deep.RegionWith
import Derived.Deep.RegionHeld3
import Derived.Deep.DrawnRows
import Derived.OrdersHeld
/- A play's step (layer 21), kind 7: copies go on in its place. -/
namespace Go.Proofs.Ytkooogllajmkeaa
open Go.RowKit
set_option pp.deepTerms true
attribute [local go_sem ↓] Go.wp_at_zero Go.wp_at_succ
/-- two spaces alike, and a third of the call's own -/
def Three (w : World) (p0 p pr : Nat) (S0 S : Sp) (E : List (Nat × Obj)) (W : World) : Prop := ∃ f0 fs gs, Spc W p0 S0 f0 ∧ Spc W p S fs ∧ RSpc W pr S gs ∧ (∀ b ∈ f0, b ∉ fs ∧ b ∉ gs) ∧ (∀ b ∈ fs, b ∉ gs) ∧
  (∀ b ∈ f0, w.heap.size ≤ b) ∧ (∀ b ∈ fs, w.heap.size ≤ b) ∧ (∀ b ∈ gs, w.heap.size ≤ b) ∧ Below w.heap.size w W ∧ ∀ x ∈ E, x.1 ∉ f0 ∧ x.1 ∉ fs ∧ x.1 ∉ gs ∧ W.heap[x.1]? = some x.2
section
variable {w W W' : World} {q p0 p pr : Nat} {S0 S0' S : Sp} {E : List (Nat × Obj)} {f0 : List Nat}
theorem Three.two (h : Three w p0 p pr S0 S E W) : Two w p pr S S E W := by
  obtain ⟨f0, fs, gs, h1, h2, h3, h4, h5, h6, h7, h8, h9, h10⟩ := h
  exact ⟨fs, gs, h2, h3, h5, h7, h8, h9, fun x hx => (h10 x hx).2⟩
theorem Three.step {r : Ending → Prop} {f : FuncId} {args : Array Value} (h : Three w p0 p pr S0 S E W) (hc : ∀ f0, Spc W p0 S0 f0 → Calls Try.prog f args W fun e w' => Stp W p0 f0 S0' w' ∧ r e) : Calls Try.prog f args W fun e w' => Three w p0 p pr S0' S E w' ∧ r e := by
  obtain ⟨f0, fs, gs, h1, h2, h3, h4, h5, h6, h7, h8, h9, h10⟩ := h
  refine (hc f0 h1).mono ?_
  rintro e W' ⟨⟨f0', k1, k2, k3⟩, he⟩
  have hfl := h2.lt
  have hgl := h3.lt
  refine ⟨⟨f0', fs, gs, k1, h2.kp k2 (fun b hb q => (h4 b q).1 hb), h3.kp k2 (fun b hb q => (h4 b q).2 hb), fun b hb => ?_, h5, fun b hb => (k3 b hb).elim (h6 b) (fun q => Nat.le_trans h9.size q), h7, h8, k2.to_below h9 h6, fun x hx => ⟨fun q => ?_, (h10 x hx).2.1, (h10 x hx).2.2.1, k2.at (h10 x hx).2.2.2 (h10 x hx).1⟩⟩, he⟩
  · rcases k3 b hb with c | c
    · exact h4 b c
    · exact ⟨fun q => by have := hfl b q; omega, fun q => by have := hgl b q; omega⟩
  · rcases k3 _ q with q | q
    · exact (h10 x hx).1 q
    · have := lt_of_heap (h10 x hx).2.2.2; omega
theorem three_mk {W1 X : World} {p2 pr2 : Nat} {fs2 gs2 : List Nat} (h : Two w p pr S S [(q, plo p pr)] W1) (hq : w.heap.size ≤ q) (hb : Below W1.heap.size W1 X) (hs2 : Spc X p2 S fs2) (hn2 : ∀ b ∈ fs2, W1.heap.size ≤ b) (hs3 : RSpc X pr2 S gs2) (hn3 : ∀ b ∈ gs2, W1.heap.size ≤ b) (hd : ∀ b ∈ fs2, b ∉ gs2) :
    Three w p p2 pr2 S S [(q, plo p2 pr2)] ((X.setCell ⟨q, 0, none⟩ (.pointer (some ⟨p2, 0, none⟩))).setCell ⟨q, 1, none⟩ (.pointer (some ⟨pr2, 0, none⟩))) := by
  obtain ⟨fs, gs, h1, h2, h3, h4, h5, h6, h7⟩ := h
  have hQ := h7 _ (List.Mem.head _)
  have hql := lt_of_heap hQ.2.2
  simp only at hql hQ
  have hwl := h6.size
  have k : Kp [q] X ((X.setCell ⟨q, 0, none⟩ (.pointer (some ⟨p2, 0, none⟩))).setCell ⟨q, 1, none⟩ (.pointer (some ⟨pr2, 0, none⟩))) := ((Kp.refl _ _).setCell (.inl (by simp)) _).setCell (.inl (by simp)) _
  have hh : X.heap[q]? = some (plo p pr) := below_at hb hQ.2.2 hql
  have hfl := h1.lt
  have hgl := h2.lt
  refine ⟨fs, fs2, gs2, (h1.below hb).kp k ?_, hs2.kp k ?_, hs3.kp k ?_, fun b hb' => ⟨fun c => ?_, fun c => ?_⟩, hd, h4, fun b c => Nat.le_trans hwl (hn2 b c), fun b c => Nat.le_trans hwl (hn3 b c), ?_, fun x hx => ?_⟩
  · intro b c d; simp only [List.mem_singleton] at d; subst d; exact hQ.1 c
  · intro b c d; simp only [List.mem_singleton] at d; subst d; have := hn2 b c; omega
  · intro b c d; simp only [List.mem_singleton] at d; subst d; have := hn3 b c; omega
  · have := hn2 b c; have := hfl b hb'; omega
  · have := hn3 b c; have := hfl b hb'; omega
  · exact ((h6.trans (hb.mono hwl)).setCell (p := ⟨q, 0, none⟩) hq _).setCell (p := ⟨q, 1, none⟩) hq _
  · obtain rfl : x = _ := by simpa using hx
    refine ⟨hQ.1, fun c => by have := hn2 _ c; omega, fun c => by have := hn3 _ c; omega, ?_⟩
    have e1 := heap_setCell_same X q 0 _ _ (.pointer (some ⟨p2, 0, none⟩)) hh
    have e2 := heap_setCell_same _ q 1 _ _ (.pointer (some ⟨pr2, 0, none⟩)) e1
    simpa [plo] using e2
set_option maxRecDepth 100000 in
set_option maxHeartbeats 4000000 in
theorem do7_any (h : Two w p pr S S [(q, plo p pr)] W) (n a b t v : Int) (hq : w.heap.size ≤ q) (hl : S.last ≤ 1152921504606846976) : Calls Try.prog 20 #[.pointer (some ⟨q, 0, none⟩), opv 7 n a b t v] W fun e w' => e = .returned (.bool true) ∧ ∃ p' pr', Two w p' pr' S S [(q, plo p' pr')] w' := by
  have hB := Two.alloc h (opo 7 n a b t v)
  have b0 := hB.keep (Below.refl _ _).drew
  obtain ⟨x2, x3⟩ := hB.qs
  obtain ⟨x4, x5, x6, x7, x8, x9⟩ := hB.os
  unfold opo at x2 x3 x4 x5 x6 x7 x8 x9
  unfold opv
  go_enter Try.func20, Try.ntmps20
  go_upto_region 30 with (fail)
  go_cut [] (fun W' => Hid (∃ p2 pr2, Three w p p2 pr2 S S [(q, plo p2 pr2)] W'))
  case first =>
    have HCA : Hid (∀ X, Below (W.alloc (opo 7 n a b t v)).heap.size (W.alloc (opo 7 n a b t v)) X → Calls Try.prog 28 #[.pointer (some ⟨p, 0, none⟩)] X (CopyRes X S)) := by
      intro X hX
      obtain ⟨fs, gs, h1, -⟩ := hB.keep hX
      exact copy_spc h1
    have HRA : Hid (∀ X, Below (W.alloc (opo 7 n a b t v)).heap.size (W.alloc (opo 7 n a b t v)) X → Calls Try.prog 56 #[.pointer (some ⟨pr, 0, none⟩)] X (CopyPost X S)) := by
      intro X hX
      obtain ⟨fs, gs, h1, h2, -⟩ := hB.keep hX
      exact rcopy_spc h2
    have hdr : Below (W.alloc (opo 7 n a b t v)).heap.size (W.alloc (opo 7 n a b t v)) (W.alloc (opo 7 n a b t v)).drew := (Below.refl _ _).drew
    go_region_with (first | (go_at_call 28; refine (HCA.out _ ?_).mono ?_; exact hdr; rintro e wx ⟨hbx, p2, fs2, rfl, hs2, hn2⟩; have hx := hB.keep (undrew hbx); have g2 := hx.qs.1; have g3 := hx.qs.2; have f2 := hx.free (List.Mem.tail _ (List.Mem.head _)) 0; have f3 := hx.free (List.Mem.tail _ (List.Mem.head _)) 1) | (go_at_call 28; refine (HCA.out _ ?_).mono ?_; exact undrew hby; rintro e wx ⟨hbx, p2, fs2, rfl, hs2, hn2⟩; have hx := (hB.keep (undrew hby)).keep hbx; have g2 := hx.qs.1; have g3 := hx.qs.2; have f2 := hx.free (List.Mem.tail _ (List.Mem.head _)) 0; have f3 := hx.free (List.Mem.tail _ (List.Mem.head _)) 1) | (go_at_call 56; refine (HRA.out _ ?_).mono ?_; exact hdr; rintro e wy ⟨hby, pr2, gs2, rfl, hs3, hn3⟩; have hy := hB.keep (undrew hby); have g2 := hy.qs.1; have g3 := hy.qs.2; have f2 := hy.free (List.Mem.tail _ (List.Mem.head _)) 0; have f3 := hy.free (List.Mem.tail _ (List.Mem.head _)) 1) | (go_at_call 56; refine (HRA.out _ ?_).mono ?_; exact undrew hbx; rintro e wy ⟨hby, pr2, gs2, rfl, hs3, hn3⟩; have hy := (hB.keep (undrew hbx)).keep hby; have g2 := hy.qs.1; have g3 := hy.qs.2; have f2 := hy.free (List.Mem.tail _ (List.Mem.head _)) 0; have f3 := hy.free (List.Mem.tail _ (List.Mem.head _)) 1))
    all_goals
      have HT := Hid.mk (three_mk hB.lst hq ((undrew hbx).trans (hby.mono (undrew hbx).size)) (hs2.below hby) hn2 hs3 (fun b hb => Nat.le_trans (undrew hbx).size (hn3 b hb)) (fun b hb c => by have := hs2.lt b hb; have := hn3 b c; omega))
      clear hbx hby hs2 hs3 hn2 hn3 hx hy HCA HRA hdr
      go_wp2_with fail
      go_meet
      case rel => exact ⟨_, _, HT.out⟩
  case rest =>
    obtain ⟨p2, pr2, h1⟩ := hcut.out
    clear hcut x2 x3 x4 x5 x6 x7 x8 x9 b0 hB
    go_wp2_with fail
    refine (h1.step (fun f0 h0 => put_spc h0 1 1 77)).mono ?_
    rintro e w1 ⟨h2, rfl⟩
    go_wp2_with fail
    refine (h2.step (fun f0 h0 => take_spc h0 5 (by rw [put_last]; exact hl))).mono ?_
    rintro e w2 ⟨h3, rfl⟩
    go_wp2_with fail
    refine (h3.step (fun f0 h0 => let_spc h0 1)).mono ?_
    rintro e w3 ⟨h4, rfl⟩
    have HF := Hid.mk h4.two
    go_wp2_with fail
    go_ret
    exact ⟨rfl, _, _, HF.out⟩
end
end Go.Proofs.Ytkooogllajmkeaa
/- A play's step (layer 21), whatever the operation. -/
namespace Go.Proofs.Ytkooogllajmkeaa
open Go.RowKit
theorem move_last (S : Sp) (b a m : Int) : (S.move b a m).2.last = S.last := by
  unfold Sp.move
  split
  · rfl
  · split
    · rfl
    · split <;> rfl
/-- what an operation leaves -/
def stepOf (S : Sp) (o : Opr) : Sp :=
  if o.k = 0 then (S.take o.n).2 else if o.k = 1 then (S.let_ o.a).2 else if o.k = 2 then (S.put o.a (o.t, o.v)).2 else if o.k = 4 then (S.drop o.a o.n).2 else if o.k = 5 then (S.move o.b o.a o.n).2 else S
theorem stepOf_last (S : Sp) (o : Opr) (hs : o.k = 0 → o.n ≤ 200 ∨ 1048576 < o.n) (h0 : 0 ≤ S.last) : (stepOf S o).last ≤ S.last + 202 := by
  unfold stepOf
  split
  · rename_i hk
    rcases take_cases S o.n with e | ⟨m1, m2, e, el⟩
    · rw [e]; simp only; omega
    · rw [el]
      have := hs hk
      unfold nextBase
      split <;> omega
  · split
    · rw [let_last]; omega
    · split
      · rw [put_last]; omega
      · split
        · rw [drop_last]; omega
        · split
          · rw [move_last]; omega
          · omega
theorem do21_any {w W : World} {q p pr : Nat} {S : Sp} (h : Two w p pr S S [(q, plo p pr)] W) (hq : w.heap.size ≤ q) (hl : S.last ≤ 1152921504606846976) (o : Opr) (ok : OprOk o) :
    Calls Try.prog 20 #[.pointer (some ⟨q, 0, none⟩), opv o.k o.n o.a o.b o.t o.v] W fun e w' => e = .returned (.bool true) ∧ ∃ p' pr', Two w p' pr' (stepOf S o) (stepOf S o) [(q, plo p' pr')] w' := by
  obtain ⟨k, n, a, b, t, v⟩ := o
  obtain ⟨ok0, ok1, ok2, ok3, ok4, ok5⟩ := ok
  simp only at *
  unfold stepOf
  simp only
  by_cases k0 : k = 0
  · subst k0; rw [if_pos rfl]
    exact (do0_any h n a b t v hl).mono fun e w' q => ⟨q.1, _, _, q.2⟩
  rw [if_neg k0]
  by_cases k1 : k = 1
  · subst k1; rw [if_pos rfl]
    exact (do1_any h n a b t v).mono fun e w' q => ⟨q.1, _, _, q.2⟩
  rw [if_neg k1]
  by_cases k2 : k = 2
  · subst k2; rw [if_pos rfl]
    exact (do2_any h n a b t v ok2).mono fun e w' q => ⟨q.1, _, _, q.2⟩
  rw [if_neg k2]
  by_cases k4 : k = 4
  · subst k4; rw [if_pos rfl]
    exact (do4_any h n a b t v ok2).mono fun e w' q => ⟨q.1, _, _, q.2⟩
  rw [if_neg k4]
  by_cases k5 : k = 5
  · subst k5; rw [if_pos rfl]
    exact (do5_any h n a b t v ok3 ok2).mono fun e w' q => ⟨q.1, _, _, q.2⟩
  rw [if_neg k5]
  by_cases k3 : k = 3
  · subst k3
    exact (do3_any h n a b t v ok2).mono fun e w' q => ⟨q.1.1, _, _, q.1.2⟩
  by_cases k6 : k = 6
  · subst k6
    obtain ⟨r1, r, hr⟩ : ∃ r1 r, S.run a n = (r1, r) := ⟨_, _, rfl⟩
    cases r1 with
    | none => exact (do6n_any h n a b t v ok2 hr).mono fun e w' q => ⟨q.1, _, _, q.2⟩
    | some l => exact (do6s_any h n a b t v ok2 hr).mono fun e w' q => ⟨q.1, _, _, q.2⟩
  by_cases k7 : k = 7
  · subst k7
    exact do7_any h n a b t v hq hl
  · exact (dox_any h k n a b t v (by omega)).mono fun e w' q => ⟨q.1, _, _, q.2⟩
end Go.Proofs.Ytkooogllajmkeaa
/- Which policies of segments may be: the program's answer, and the document's. -/
namespace Go.Proofs.Ytkooogllajmkeaa
open Go.RowKit
set_option pp.deepTerms true
attribute [local go_sem ↓] Go.wp_at_zero Go.wp_at_succ
theorem keep_dr {X W' : World} (hb : Below X.drew.heap.size X.drew W') {a : Addr} {v : Value} (h : X.cell? a = some v) : W'.cell? a = some v := ((undrew hb).cell (cell_lt h)).trans h
theorem keep_be {X W' : World} (hb : Below X.heap.size X W') {a : Addr} {v : Value} (h : X.cell? a = some v) : W'.cell? a = some v := (hb.cell (cell_lt h)).trans h
/-- a number's range -/
def rangeB (n lo hi : Int) : Bool := decide (lo ≤ n) && decide (n ≤ hi)
def segOk (s c : Int) : Bool := rangeB s 256 65536 && rangeB c 0 64
theorem beyond_any (hi lo : Int) (w : World) : Calls Try.prog 89 #[.int .i64 hi, .int .i64 lo] w fun e w' =>
    e = .returned (.func (.func 96) #[] #[.pointer (some ⟨w.heap.size + 1, 0, none⟩), .pointer (some ⟨w.heap.size, 0, none⟩)]) ∧ w' = (w.alloc (.cells #[.int .i64 hi] 152)).alloc (.cells #[.int .i64 lo] 3) := by
  go_enter Try.func89, Try.ntmps89
  go_wp2
  go_ret
  exact ⟨rfl, rfl⟩
theorem beyond1_any {w : World} {b1 b2 : Nat} {lo hi : Int} (h1 : w.cell? ⟨b1, 0, none⟩ = some (.int .i64 lo)) (h2 : w.cell? ⟨b2, 0, none⟩ = some (.int .i64 hi)) (n : Int) :
    Calls Try.prog 96 #[.int .i64 n, .pointer (some ⟨b1, 0, none⟩), .pointer (some ⟨b2, 0, none⟩)] w fun e w' => e = .returned (.bool (!rangeB n lo hi)) ∧ w' = w := by
  by_cases q : n < lo
  · have z : decide (n < lo) = true := by simpa using q
    have HR : Hid ((!rangeB n lo hi) = true) := by show (!rangeB n lo hi) = true; unfold rangeB; simp; omega
    clear q
    go_enter Try.func96, Try.ntmps96
    go_wp2
    go_ret
    exact ⟨by rw [HR.out]; rfl, rfl⟩
  · have z : decide (n < lo) = false := by simpa using q
    have HR : Hid ((!rangeB n lo hi) = decide (hi < n)) := by
      show (!rangeB n lo hi) = decide (hi < n)
      unfold rangeB
      by_cases q2 : hi < n
      · simp [q2]
      · simp [q2]; omega
    clear q
    go_enter Try.func96, Try.ntmps96
    go_wp2
    go_ret
    exact ⟨by rw [HR.out]; rfl, rfl⟩
/-- a function that tells whether a number is out of a range -/
def FnAt (w : World) (b1 b2 : Nat) (lo hi : Int) : Prop := w.cell? ⟨b1, 0, none⟩ = some (.int .i64 lo) ∧ w.cell? ⟨b2, 0, none⟩ = some (.int .i64 hi)
def fnV (b1 b2 : Nat) : Value := .func (.func 96) #[] #[.pointer (some ⟨b1, 0, none⟩), .pointer (some ⟨b2, 0, none⟩)]
theorem FnAt.below {w w' : World} {b1 b2 : Nat} {lo hi : Int} (h : FnAt w b1 b2 lo hi) (k : Below w.heap.size w w') : FnAt w' b1 b2 lo hi := ⟨(k.cell (cell_lt h.1)).trans h.1, (k.cell (cell_lt h.2)).trans h.2⟩
theorem within1_any {w : World} {b0 b1 b2 : Nat} {lo hi : Int} (h : FnAt w b1 b2 lo hi) (h0 : w.cell? ⟨b0, 0, none⟩ = some (fnV b1 b2)) (n : Int) :
    Calls Try.prog 95 #[.int .i64 n, .pointer (some ⟨b0, 0, none⟩)] w fun e w' => e = .returned (.bool (!rangeB n lo hi)) ∧ w' = w := by
  have hc := beyond1_any h.1 h.2 n
  unfold fnV at h0
  go_enter Try.func95, Try.ntmps95
  go_wp2_with fail
  refine hc.mono ?_
  rintro e w' ⟨rfl, rfl⟩
  go_wp2_with fail
  go_ret
  exact ⟨rfl, rfl⟩
theorem indexF_one {w : World} {b b0 b1 b2 c : Nat} {lo hi n : Int} (h : FnAt w b1 b2 lo hi) (h0 : w.cell? ⟨b0, 0, none⟩ = some (fnV b1 b2)) (hb : w.cell? ⟨b, 0, none⟩ = some (.int .i64 n)) :
    Calls Try.prog 98 #[.slice (some ⟨b, 0, none⟩) 1 c, .func (.func 95) #[] #[.pointer (some ⟨b0, 0, none⟩)]] w fun e w' => e = .returned (.int .i64 (if rangeB n lo hi then -1 else 0)) ∧ w' = w := by
  have hc := within1_any h h0 n
  clear h h0
  cases hr : rangeB n lo hi
  · rw [hr] at hc
    go_enter Try.func98, Try.ntmps98
    go_wp2_with fail
    refine wp_loop_rounds 1 ?_; rw [rounds_succ]
    go_wp2_with fail
    refine hc.mono ?_
    rintro e w' ⟨rfl, rfl⟩
    go_wp2_with fail
    go_ret
    exact ⟨rfl, rfl⟩
  · rw [hr] at hc
    go_enter Try.func98, Try.ntmps98
    go_wp2_with fail
    refine wp_loop_rounds 2 ?_; rw [rounds_succ]
    go_wp2_with fail
    refine hc.mono ?_
    rintro e w' ⟨rfl, rfl⟩
    go_wp2_with fail
    rw [rounds_succ]
    go_wp2_with fail
    go_ret
    exact ⟨rfl, rfl⟩
theorem containsF_one {w : World} {b b0 b1 b2 c : Nat} {lo hi n : Int} (h : FnAt w b1 b2 lo hi) (h0 : w.cell? ⟨b0, 0, none⟩ = some (fnV b1 b2)) (hb : w.cell? ⟨b, 0, none⟩ = some (.int .i64 n)) :
    Calls Try.prog 94 #[.slice (some ⟨b, 0, none⟩) 1 c, .func (.func 95) #[] #[.pointer (some ⟨b0, 0, none⟩)]] w fun e w' => e = .returned (.bool (!rangeB n lo hi)) ∧ w' = w := by
  have hc := indexF_one (c := c) h h0 hb
  clear h h0 hb
  cases hr : rangeB n lo hi <;> rw [hr] at hc
  all_goals
    go_enter Try.func94, Try.ntmps94
    go_wp2_with fail
    refine hc.mono ?_
    rintro e w' ⟨rfl, rfl⟩
    go_wp2_with fail
    go_ret
    exact ⟨rfl, rfl⟩
theorem within_one {w : World} {b b1 b2 c : Nat} {lo hi n : Int} (h : FnAt w b1 b2 lo hi) (hb : w.cell? ⟨b, 0, none⟩ = some (.int .i64 n)) :
    Calls Try.prog 88 #[fnV b1 b2, .slice (some ⟨b, 0, none⟩) 1 c] w fun e w' => Below w.heap.size w w' ∧ e = .returned (.bool (rangeB n lo hi)) := by
  have hb0 : Below w.heap.size w (w.alloc (.cells #[fnV b1 b2] 140)) := (Below.refl _ _).alloc (Nat.le_refl _) _
  have hc := containsF_one (c := c) (h.below hb0) (b0 := w.heap.size) (by simp) (alloc_cell hb)
  unfold fnV at hc hb0 ⊢
  clear h hb
  go_enter Try.func88, Try.ntmps88
  go_wp2_with fail
  refine hc.mono ?_
  rintro e w' ⟨rfl, rfl⟩
  go_wp2_with fail
  go_ret
  exact ⟨hb0, by simp⟩
theorem pwords_one {w : World} {b c : Nat} {n : Int} (hb : w.cell? ⟨b, 0, none⟩ = some (.int .i64 n)) :
    Calls Try.prog 87 #[.slice (some ⟨b, 0, none⟩) 1 c] w fun e w' => Below w.heap.size w w' ∧ e = .returned (.bool (rangeB n 256 65536)) := by
  have hc := beyond_any 65536 256 w
  have hb0 : Below w.heap.size w ((w.alloc (.cells #[.int .i64 65536] 152)).alloc (.cells #[.int .i64 256] 3)) := ((Below.refl _ _).alloc (Nat.le_refl _) _).alloc (by simp) _
  have hd := within_one (w := (w.alloc (.cells #[.int .i64 65536] 152)).alloc (.cells #[.int .i64 256] 3)) (b := b) (c := c) (n := n) (b1 := w.heap.size + 1) (b2 := w.heap.size) (lo := 256) (hi := 65536) ⟨by simp, by simp⟩ (alloc_cell (alloc_cell hb))
  unfold fnV at hd
  go_enter Try.func87, Try.ntmps87
  go_wp2_with fail
  refine hc.mono ?_
  rintro e w' ⟨rfl, rfl⟩
  go_wp2_with fail
  refine hd.mono ?_
  rintro e w' ⟨hb1, rfl⟩
  go_wp2_with fail
  go_ret
  exact ⟨hb0.trans (hb1.mono (by simp; omega)), rfl⟩
theorem within_cells {w : World} {b b1 b2 c : Nat} {lo hi n : Int} (h1 : w.cell? ⟨b1, 0, none⟩ = some (.int .i64 lo)) (h2 : w.cell? ⟨b2, 0, none⟩ = some (.int .i64 hi)) (hb : w.cell? ⟨b, 0, none⟩ = some (.int .i64 n)) :
    Calls Try.prog 88 #[.func (.func 96) #[] #[.pointer (some ⟨b1, 0, none⟩), .pointer (some ⟨b2, 0, none⟩)], .slice (some ⟨b, 0, none⟩) 1 c] w fun e w' => Below w.heap.size w w' ∧ e = .returned (.bool (rangeB n lo hi)) := within_one ⟨h1, h2⟩ hb
end Go.Proofs.Ytkooogllajmkeaa
/- Which policies of segments may be: the program's CheckSegments. -/
namespace Go.Proofs.Ytkooogllajmkeaa
open Go.RowKit
set_option pp.deepTerms true
attribute [local go_sem ↓] Go.wp_at_zero Go.wp_at_succ
theorem three_new (w : World) (a b c : Value) (T1 T2 T3 : TypeId) : (((w.alloc (.cells #[a] T1)).alloc (.cells #[b] T2)).alloc (.cells #[c] T3)).cell? ⟨w.heap.size + 1, 0, none⟩ = some b ∧ (((w.alloc (.cells #[a] T1)).alloc (.cells #[b] T2)).alloc (.cells #[c] T3)).cell? ⟨w.heap.size, 0, none⟩ = some a ∧
    (((w.alloc (.cells #[a] T1)).alloc (.cells #[b] T2)).alloc (.cells #[c] T3)).cell? ⟨w.heap.size + 1 + 1, 0, none⟩ = some c := by
  refine ⟨alloc_cell ?_, alloc_cell (alloc_cell ?_), ?_⟩
  · have := heap_alloc_new (w.alloc (.cells #[a] T1)) (.cells #[b] T2)
    simp only [World.size_alloc] at this
    rw [cell_of_row _ (w.heap.size + 1) 0 _ _ _ this]; rfl
  · rw [cell_of_row _ w.heap.size 0 _ _ _ (heap_alloc_new w (.cells #[a] T1))]; rfl
  · have := heap_alloc_new ((w.alloc (.cells #[a] T1)).alloc (.cells #[b] T2)) (.cells #[c] T3)
    simp only [World.size_alloc] at this
    rw [cell_of_row _ (w.heap.size + 1 + 1) 0 _ _ _ this]; rfl
def segChk (s c : Int) : Int := if segOk s c then 0 else 200
set_option maxRecDepth 100000 in
set_option maxHeartbeats 2000000 in
theorem checkSeg_any (s c : Int) (w : World) : Calls Try.prog 74 #[.agg #[.int .i64 s, .int .i64 c]] w fun e w' => Below w.heap.size w w' ∧ e = .returned (.int .i64 (segChk s c)) := by
  have hB : Below w.heap.size w (w.alloc (.cells #[.int .i64 s, .int .i64 c] 70)) := (Below.refl _ _).alloc (Nat.le_refl _) _
  have c0 : (w.alloc (.cells #[.int .i64 s, .int .i64 c] 70)).cell? ⟨w.heap.size, 0, none⟩ = some (.int .i64 s) := by simp
  have c1 : (w.alloc (.cells #[.int .i64 s, .int .i64 c] 70)).cell? ⟨w.heap.size, 1, none⟩ = some (.int .i64 c) := by simp
  unfold segChk segOk
  have HB := Hid.mk hB
  clear hB
  cases h1 : rangeB s 256 65536
  · go_enter Try.func74, Try.ntmps74
    go_wp2_with fail
    refine wp_region_held_drew (S := (fun W' => W'.cell? ⟨w.heap.size, 0, none⟩ = some (.int .i64 s) ∧ W'.cell? ⟨w.heap.size, 1, none⟩ = some (.int .i64 c))) (by kernel_rfl) ⟨c0, c1⟩ (fun hHeld => ?_)
    refine wpAnyH_take (i := 0) (v := ?_) rfl (by kernel_rfl) (by kernel_rfl) (by kernel_rfl) (fun _ _ _ h => h) (Or.inl ⟨by rfl, ?_⟩) (by assumption) ?_
    rotate_left
    · (intro w hSw; (try dsimp only at hSw); go_simp <;> with_reducible rfl)
    refine wpAnyH_take (i := 1) (v := ?_) rfl (by kernel_rfl) (by kernel_rfl) (by kernel_rfl) (fun _ _ _ h => h) (Or.inl ⟨by rfl, ?_⟩) (by assumption) ?_
    rotate_left
    · (intro w hSw; (try dsimp only at hSw); go_simp <;> with_reducible rfl)
    refine wpAnyH_ready (rs := [2]) (by kernel_rfl) (by simp) ?_
    refine AllReadyH.cons rfl (fun K hK => ?_) AllReadyH.nil
    go_simp
    refine hK.out _ _ ⟨alloc_cell c0, alloc_cell c1⟩ (fun hHeld => ?_)
    clear hK K
    refine wpAnyH_ready (rs := [3]) (by kernel_rfl) (by simp) ?_
    refine AllReadyH.cons rfl (fun K hK => ?_) AllReadyH.nil
    go_simp
    refine (pwords_one (n := s) ?_).mono ?_
    · simp
    rintro e w1 ⟨hb1, rfl⟩
    rw [h1]
    have s1 := And.intro (keep_dr hb1 (alloc_cell c0)) (keep_dr hb1 (alloc_cell c1))
    refine hK.out _ _ s1 (fun hHeld => ?_)
    clear hK K
    refine wpAnyH_take (i := 4) (v := ?_) rfl (by kernel_rfl) (by kernel_rfl) (by kernel_rfl) (fun _ _ _ h => h) (Or.inl ⟨by rfl, ?_⟩) (by assumption) ?_
    rotate_left
    · (intro w hSw; (try dsimp only at hSw); go_simp <;> with_reducible rfl)
    refine wpAnyH_take (i := 5) (v := ?_) rfl (by kernel_rfl) (by kernel_rfl) (by kernel_rfl) (fun _ _ _ h => h) (Or.inl ⟨by rfl, ?_⟩) (by assumption) ?_
    rotate_left
    · (intro w hSw; (try dsimp only at hSw); go_simp <;> with_reducible rfl)
    refine wpAnyH_take (i := 6) (v := undef) rfl (by kernel_rfl) (by kernel_rfl) (by kernel_rfl) (fun _ _ _ h => h) (Or.inr ⟨by rfl, rfl⟩) (by assumption) ?_
    refine wpAnyH_take (i := 7) (v := undef) rfl (by kernel_rfl) (by kernel_rfl) (by kernel_rfl) (fun _ _ _ h => h) (Or.inr ⟨by rfl, rfl⟩) (by assumption) ?_
    refine wpAnyH_take (i := 8) (v := undef) rfl (by kernel_rfl) (by kernel_rfl) (by kernel_rfl) (fun _ _ _ h => h) (Or.inr ⟨by rfl, rfl⟩) (by assumption) ?_
    refine wpAnyH_take (i := 9) (v := undef) rfl (by kernel_rfl) (by kernel_rfl) (by kernel_rfl) (fun _ _ _ h => h) (Or.inr ⟨by rfl, rfl⟩) (by assumption) ?_
    refine wpAnyH_take (i := 10) (v := undef) rfl (by kernel_rfl) (by kernel_rfl) (by kernel_rfl) (fun _ _ _ h => h) (Or.inr ⟨by rfl, rfl⟩) (by assumption) ?_
    refine wpAnyH_take (i := 11) (v := undef) rfl (by kernel_rfl) (by kernel_rfl) (by kernel_rfl) (fun _ _ _ h => h) (Or.inr ⟨by rfl, rfl⟩) (by assumption) ?_
    refine wpAnyH_ready (rs := [12]) (by kernel_rfl) (by simp) ?_
    refine AllReadyH.cons rfl (fun K hK => ?_) AllReadyH.nil
    go_simp
    refine hK.out _ _ s1 (fun hHeld => ?_)
    clear hK K
    refine wpAnyH_done (by kernel_rfl) ?_ _
    have hbF := HB.out.trans ((((Below.refl _ _).alloc (Nat.le_refl _) (.cells #[.int .i64 s] 3)).trans ((undrew hb1).mono (by simp))).mono HB.out.size)
    go_wp2_with fail
    go_ret
    exact ⟨hbF, rfl⟩
  · have HBW : Hid (∀ w1, Below ((w.alloc (.cells #[.int .i64 s, .int .i64 c] 70)).alloc (.cells #[.int .i64 s] 3)).heap.size ((w.alloc (.cells #[.int .i64 s, .int .i64 c] 70)).alloc (.cells #[.int .i64 s] 3)) w1 → Below w.heap.size w w1) := fun w1 hb1 => HB.out.trans ((((Below.refl _ _).alloc (Nat.le_refl _) (.cells #[.int .i64 s] 3)).trans (hb1.mono (by simp))).mono HB.out.size)
    cases h2 : rangeB c 0 64
    all_goals
      go_enter Try.func74, Try.ntmps74
      go_wp2_with fail
      go_region_held3 (fun W' => W'.cell? ⟨w.heap.size, 0, none⟩ = some (.int .i64 s) ∧ W'.cell? ⟨w.heap.size, 1, none⟩ = some (.int .i64 c)) (first | exact s2 | exact s1 | exact ⟨alloc_cell s1.1, alloc_cell s1.2⟩ | exact ⟨alloc_cell (alloc_cell s1.1), alloc_cell (alloc_cell s1.2)⟩ | exact ⟨alloc_cell (alloc_cell (alloc_cell s1.1)), alloc_cell (alloc_cell (alloc_cell s1.2))⟩ | exact ⟨c0, c1⟩ | exact ⟨alloc_cell c0, alloc_cell c1⟩) (first | (go_at_call 87; refine (pwords_one (n := s) ?_).mono ?_; simp; rintro e w1 ⟨hb1, rfl⟩; rw [h1]; have s1 := And.intro (keep_dr hb1 (alloc_cell c0)) (keep_dr hb1 (alloc_cell c1)); have hbw1 := HBW.out w1 (undrew hb1)) | (go_at_call 89; refine (beyond_any 64 0 _).mono ?_; rintro e w2 ⟨rfl, rfl⟩) | (go_at_call 88; refine (within_cells (n := c) (lo := 0) (hi := 64) ?_ ?_ ?_).mono ?_; (first | exact (three_new _ _ _ _ _ _ _).1 | exact (three_new _ _ _ _ _ _ _).2.1 | exact (three_new _ _ _ _ _ _ _).2.2); (first | exact (three_new _ _ _ _ _ _ _).1 | exact (three_new _ _ _ _ _ _ _).2.1 | exact (three_new _ _ _ _ _ _ _).2.2); (first | exact (three_new _ _ _ _ _ _ _).1 | exact (three_new _ _ _ _ _ _ _).2.1 | exact (three_new _ _ _ _ _ _ _).2.2); rintro e w3 ⟨hb3, rfl⟩; rw [h2]; have s2 := And.intro (keep_be hb3 (alloc_cell (alloc_cell (alloc_cell s1.1)))) (keep_be hb3 (alloc_cell (alloc_cell (alloc_cell s1.2))))))
      all_goals
        have hbF := hbw1.trans (Below.mono (Below.trans (Below.alloc (Below.alloc (Below.alloc (Below.refl _ w1) (Nat.le_refl _) _) (by simp) _) (by simp; omega) _) (Below.mono hb3 (by simp; omega))) hbw1.size)
        go_wp2_with fail
        go_ret
        exact ⟨hbF, rfl⟩
end Go.Proofs.Ytkooogllajmkeaa
/- A link of segments in memory, and New, the program's and the document's. -/
namespace Go.Proofs.Ytkooogllajmkeaa
open Go.RowKit
set_option pp.deepTerms true
theorem stack20_any (n : Int) (w : World) : Calls Try.prog 92 #[.int .i64 n] w fun e w' => e = .returned (.bool (rangeB n 256 65536)) ∧ w' = w := by
  by_cases q : 256 ≤ n
  · have z : decide (n ≥ 256) = true := by simpa using q
    have HR : Hid (rangeB n 256 65536 = decide (n ≤ 65536)) := by show rangeB n 256 65536 = decide (n ≤ 65536); unfold rangeB; simp [q]
    clear q
    go_enter Try.func92, Try.ntmps92
    go_wp2
    go_ret
    exact ⟨by rw [HR.out]; rfl, rfl⟩
  · have z : decide (n ≥ 256) = false := by simpa using q
    have HR : Hid (rangeB n 256 65536 = false) := by show rangeB n 256 65536 = false; unfold rangeB; simp; omega
    clear q
    go_enter Try.func92, Try.ntmps92
    go_wp2
    go_ret
    exact ⟨by rw [HR.out]; rfl, rfl⟩
theorem rCheckSeg_any (s c : Int) (w : World) : Calls Try.prog 84 #[.agg #[.int .i64 s, .int .i64 c]] w fun e w' => Below w.heap.size w w' ∧ e = .returned (.int .i64 (segChk s c)) := by
  have hB : Below w.heap.size w (w.alloc (.cells #[.int .i64 s, .int .i64 c] 70)) := (Below.refl _ _).alloc (Nat.le_refl _) _
  have hc := stack20_any s (w.alloc (.cells #[.int .i64 s, .int .i64 c] 70))
  obtain ⟨r, hr⟩ : ∃ r, segChk s c = r := ⟨_, rfl⟩
  rw [hr]
  cases h1 : rangeB s 256 65536 <;> rw [h1] at hc
  · obtain rfl : r = 200 := by rw [← hr]; simp [segChk, segOk, h1]
    clear h1 hr
    go_enter Try.func84, Try.ntmps84
    go_wp2_with fail
    refine hc.mono ?_
    rintro e w1 ⟨rfl, rfl⟩
    go_wp2_with fail
    go_ret
    exact ⟨hB, rfl⟩
  · by_cases q : c < 0
    · have z : decide (c < 0) = true := by simpa using q
      obtain rfl : r = 200 := by rw [← hr]; simp [segChk, segOk, rangeB]; omega
      clear q h1 hr
      go_enter Try.func84, Try.ntmps84
      go_wp2_with fail
      refine hc.mono ?_
      rintro e w1 ⟨rfl, rfl⟩
      go_wp2_with fail
      go_ret
      exact ⟨hB, rfl⟩
    · have z : decide (c < 0) = false := by simpa using q
      by_cases q2 : c > 64
      · have z2 : decide (c > 64) = true := by simpa using q2
        obtain rfl : r = 200 := by rw [← hr]; simp [segChk, segOk, rangeB]; omega
        clear q q2 h1 hr
        go_enter Try.func84, Try.ntmps84
        go_wp2_with fail
        refine hc.mono ?_
        rintro e w1 ⟨rfl, rfl⟩
        go_wp2_with fail
        go_ret
        exact ⟨hB, rfl⟩
      · have z2 : decide (c > 64) = false := by simpa using q2
        have q3 : rangeB c 0 64 = true := by simp [rangeB]; omega
        obtain rfl : r = 0 := by rw [← hr]; simp [segChk, segOk, h1, q3]
        clear q q2 h1 hr q3
        go_enter Try.func84, Try.ntmps84
        go_wp2_with fail
        refine hc.mono ?_
        rintro e w1 ⟨rfl, rfl⟩
        go_wp2_with fail
        go_ret
        exact ⟨hB, rfl⟩

/-- live segments, and kept ones -/
structure Lk where
  live : List (Int × Int)
  kept : List (Int × Int)
def lfoot (b : Nat) (lv kv : Value) : List Nat := b :: (lv.ownBlock.toList ++ kv.ownBlock.toList)
/-- a link at block b, over the space at p -/
structure LkAt (W : World) (b p : Nat) (sz ca : Int) (L : Lk) (lv kv : Value) : Prop where
  head : W.heap[b]? = some (.cells #[.pointer (some ⟨p, 0, none⟩), .int .i64 sz, .int .i64 ca, lv, kv] 97 (0, 0))
  live : W.ownsRow 0 39 2 lv L.live.length (wcells L.live)
  kept : W.ownsRow 0 39 2 kv L.kept.length (wcells L.kept)
  nodup : (lfoot b lv kv).Nodup
def Lkd (W : World) (b p : Nat) (sz ca : Int) (L : Lk) (hs : List Nat) : Prop := ∃ lv kv, LkAt W b p sz ca L lv kv ∧ hs = lfoot b lv kv
theorem LkAt.lt {W : World} {b p : Nat} {sz ca : Int} {L : Lk} {lv kv : Value} (h : LkAt W b p sz ca L lv kv) : ∀ x ∈ lfoot b lv kv, x < W.heap.size := by
  intro x hx
  simp only [lfoot, List.mem_cons, List.mem_append, Option.mem_toList] at hx
  rcases hx with rfl | hx | hx
  · exact lt_of_heap h.head
  · exact (h.live.lt x hx).2
  · exact (h.kept.lt x hx).2
theorem LkAt.kp {W W' : World} {b p : Nat} {sz ca : Int} {L : Lk} {lv kv : Value} {fs : List Nat} (h : LkAt W b p sz ca L lv kv) (k : Kp fs W W') (hd : ∀ x ∈ lfoot b lv kv, x ∉ fs) : LkAt W' b p sz ca L lv kv :=
  ⟨k.at h.head (hd b (by simp [lfoot])), k.row h.live (fun g hg => hd g (by simp [lfoot, hg])), k.row h.kept (fun g hg => hd g (by simp [lfoot, hg])), h.nodup⟩
theorem Lkd.kp {W W' : World} {b p : Nat} {sz ca : Int} {L : Lk} {fs hs : List Nat} (h : Lkd W b p sz ca L hs) (k : Kp fs W W') (hd : ∀ x ∈ hs, x ∉ fs) : Lkd W' b p sz ca L hs := by
  obtain ⟨lv, kv, h1, rfl⟩ := h
  exact ⟨lv, kv, h1.kp k hd, rfl⟩
theorem Lkd.below {W W' : World} {b p : Nat} {sz ca : Int} {L : Lk} {hs : List Nat} (h : Lkd W b p sz ca L hs) (k : Below W.heap.size W W') : Lkd W' b p sz ca L hs := h.kp (Kp.of_below k []) (by simp)
theorem Lkd.lt {W : World} {b p : Nat} {sz ca : Int} {L : Lk} {hs : List Nat} (h : Lkd W b p sz ca L hs) : ∀ x ∈ hs, x < W.heap.size := by
  obtain ⟨lv, kv, h1, rfl⟩ := h
  exact h1.lt
theorem Lkd.new (W : World) (p : Nat) (sz ca : Int) : Lkd (W.alloc (.cells #[.pointer (some ⟨p, 0, none⟩), .int .i64 sz, .int .i64 ca, .slice none 0 0, .slice none 0 0] 97)) W.heap.size p sz ca ⟨[], []⟩ [W.heap.size] :=
  ⟨_, _, ⟨heap_alloc_new W _, World.ownsRow_nil _ _ _ _, World.ownsRow_nil _ _ _ _, by simp [lfoot, Value.ownBlock]⟩, by simp [lfoot, Value.ownBlock]⟩
set_option maxRecDepth 100000 in
theorem sNew_any (p : Nat) (s c : Int) (w : World) : Calls Try.prog 39 #[.pointer (some ⟨p, 0, none⟩), .agg #[.int .i64 s, .int .i64 c]] w fun e w' => Below w.heap.size w w' ∧
    ((segOk s c = true ∧ ∃ b, w.heap.size ≤ b ∧ Lkd w' b p s c ⟨[], []⟩ [b] ∧ e = .returned (.tuple #[.pointer (some ⟨b, 0, none⟩), .int .i64 0])) ∨ (segOk s c = false ∧ e = .returned (.tuple #[.pointer none, .int .i64 240]))) := by
  have hB : Below w.heap.size w (w.alloc (.cells #[.int .i64 s, .int .i64 c] 70)) := (Below.refl _ _).alloc (Nat.le_refl _) _
  have hc := checkSeg_any s c (w.alloc (.cells #[.int .i64 s, .int .i64 c] 70))
  have c0 : (w.alloc (.cells #[.int .i64 s, .int .i64 c] 70)).cell? ⟨w.heap.size, 0, none⟩ = some (.int .i64 s) := by simp
  have c1 : (w.alloc (.cells #[.int .i64 s, .int .i64 c] 70)).cell? ⟨w.heap.size, 1, none⟩ = some (.int .i64 c) := by simp
  unfold segChk at hc
  cases hk : segOk s c <;> rw [hk] at hc
  · clear hk
    go_enter Try.func39, Try.ntmps39
    go_wp2_with fail
    refine hc.mono ?_
    rintro e w1 ⟨hb1, rfl⟩
    go_wp2_with fail
    go_ret2
    exact ⟨hB.trans (hb1.mono hB.size), .inr ⟨trivial, rfl⟩⟩
  · clear hk
    go_enter Try.func39, Try.ntmps39
    go_wp2_with fail
    refine hc.mono ?_
    rintro e w1 ⟨hb1, rfl⟩
    have d0 := keep_be hb1 c0
    have d1 := keep_be hb1 c1
    have hb2 := hB.trans (hb1.mono hB.size)
    have HN := Hid.mk (Lkd.new w1 p s c)
    clear c0 c1 hb1 hB
    go_wp2_with fail
    go_ret2
    exact ⟨hb2.alloc hb2.size _, .inl ⟨trivial, _, hb2.size, HN.out, rfl⟩⟩
end Go.Proofs.Ytkooogllajmkeaa
/- Regions that draw their order and end in one store: a condition on the world that is kept until that store. -/
namespace Go.Proofs.Ytkooogllajmkeaa
open Go.RowKit
section
variable {P : Program} {ops : Array Oper} {Q : Exit → Act → World → Prop} {md : Region.Mode} {S : World → Prop} {k : Nat}
/-- whatever order is picked, S holds behind every operation until operation k has come up -/
def wpAnyL (P : Program) (md : Region.Mode) (ops : Array Oper) (Q : Exit → Act → World → Prop) (S : World → Prop) (k : Nat) : Nat → Array Bool → Act → World → Prop
  | 0, listed, a, w => Region.ready md ops listed = [] ∧ Q .normal a w
  | fuel + 1, listed, a, w =>
    (Region.ready md ops listed = [] → Q .normal a w) ∧
    ∀ i ∈ Region.ready md ops listed, wpOp P ops Q i (fun a' w' => ((listed.setIfInBounds i true).getD k true = false → S w') ∧ wpAnyL P md ops Q S k fuel (listed.setIfInBounds i true) a' w') a w
theorem wpAny_of_L : ∀ (fuel : Nat) (listed : Array Bool) (a : Act) (w : World), wpAnyL P md ops Q S k fuel listed a w → wpAny P md ops Q fuel listed a w
  | 0, _, _, _, h => h
  | fuel + 1, _, _, _, h => ⟨h.1, fun i hi => wpOp_mono (fun a' w' h' => wpAny_of_L fuel _ a' w' h'.2) (h.2 i hi)⟩
theorem wpAnyL_first {i : Nat} {oi : Oper} {v : Value} (hi : ops[i]? = some oi) (hsel : ∀ (j : Nat) (o : Oper) cs b, ops[j]? = some o → o.op ≠ .select cs b)
    (hQ : ∀ c a w, Q (.panic c) (a.put oi.dst v) w → Q (.panic c) a w) (hk : ∃ ok, ops[k]? = some ok ∧ ∃ e ∈ ok.after, Region.binds md e = true ∧ e.on = i) :
    ∀ (fuel : Nat) (listed : Array Bool) (a : Act) (w : World), listed.getD k true = false →
      (∀ j oj, ops[j]? = some oj → j ≠ i → listed.getD j true = false → (∀ e ∈ oj.after, Region.binds md e = true → e.on ≠ i) → oi.apart ops oj = true) →
      i ∈ Region.ready md ops listed → YieldsIf P ops S oi v a → S w →
      wpAnyL P md ops Q S k fuel (listed.setIfInBounds i true) (a.put oi.dst v) w → wpAnyL P md ops Q S k (fuel + 1) listed a w := by
  intro fuel
  induction fuel with
  | zero =>
    intro listed a w _ _ hr hy hS H
    refine ⟨fun h => (by rw [h] at hr; cases hr), fun j hj => ?_⟩
    by_cases hji : j = i
    · subst hji; exact hy.wpOp hi hS ⟨fun _ => hS, H⟩
    · have := ready_mono hj hji
      rw [H.1] at this
      cases this
  | succ fuel ih =>
    intro listed a w hkl hfree hr hy hS H
    refine ⟨fun h => (by rw [h] at hr; cases hr), fun j hj => ?_⟩
    by_cases hji : j = i
    · subst hji; exact hy.wpOp hi hS ⟨fun _ => hS, H⟩
    · have h1 := H.2 j (ready_mono hj hji)
      obtain ⟨hjun, oj, hoj, hall⟩ := mem_ready.1 hj
      have hnot : ∀ e ∈ oj.after, Region.binds md e = true → e.on ≠ i := fun e he hb heq => by
        have h1 := hall e he hb
        have h0 := (mem_ready.1 hr).1
        rw [heq] at h1
        rcases Nat.lt_or_ge i listed.size with h' | h'
        · simp [h'] at h0 h1; rw [h0] at h1; cases h1
        · simp [Array.getElem?_eq_none h'] at h1
      have hjk : j ≠ k := by
        rintro rfl
        obtain ⟨ok, hok, e, he, hb, hei⟩ := hk
        rw [hoj] at hok
        cases hok
        exact hnot e he hb hei
      have hik : i ≠ k := by
        rintro rfl
        obtain ⟨ok, hok, e, he, hb, hei⟩ := hk
        obtain ⟨h0, oi', hoi', hall'⟩ := mem_ready.1 hr
        rw [hok] at hoi'
        cases hoi'
        have h1 := hall' e he hb
        rw [hei] at h1
        rcases Nat.lt_or_ge i listed.size with h' | h'
        · simp [h'] at h0 h1; rw [h0] at h1; cases h1
        · simp [Array.getElem?_eq_none h'] at h1
      have hkl' : (listed.setIfInBounds j true).getD k true = false := by rw [getD_set_ne true hjk]; exact hkl
      have hkl2 : ((listed.setIfInBounds i true).setIfInBounds j true).getD k true = false := by rw [getD_set_ne true hjk, getD_set_ne true hik]; exact hkl
      have h2 := wpOp_putIf hoj (hfree j oj hoj hji hjun hnot) (fun cs b => hsel i oi cs b hi) (fun cs b => hsel j oj cs b hoj) hQ hy h1
      have hfree' : ∀ k ok, ops[k]? = some ok → k ≠ i → (listed.setIfInBounds j true).getD k true = false →
          (∀ e ∈ ok.after, Region.binds md e = true → e.on ≠ i) → oi.apart ops ok = true := fun k ok hk hki hun hno => by
        refine hfree k ok hk hki ?_ hno
        by_cases hjk : j = k
        · subst hjk; exact hjun
        · rw [getD_set_ne true hjk] at hun; exact hun
      refine wpOp_mono (fun a' w' h3 => ⟨fun _ => h3.2.1 hkl2, ih (listed.setIfInBounds j true) a' w' hkl' hfree' (ready_mono hr (Ne.symm hji)) h3.1 (h3.2.1 hkl2) ?_⟩) h2
      rw [Array.setIfInBounds_comm _ _ hji]
      exact h3.2.2
/-- operation k waits for operation i, and has not come up -/
def waitsB (md : Region.Mode) (ops : Array Oper) (listed : Array Bool) (k i : Nat) : Bool := (match ops[k]? with | some ok => ok.after.any (fun e => Region.binds md e && e.on == i) | none => false) && !(listed.getD k true)
theorem wpAnyL_take {i : Nat} {oi : Oper} {v : Value} {fuel : Nat} {listed : Array Bool} {a : Act} {w : World} (hi : ops[i]? = some oi)
    (hs : Region.noSelect ops = true) (hf : Region.free md ops listed i = true) (hr : (Region.ready md ops listed).contains i = true) (hw : waitsB md ops listed k i = true)
    (hQ : ∀ c a w, Q (.panic c) (a.put oi.dst v) w → Q (.panic c) a w) (hy : YieldsIf P ops S oi v a) (hS : S w)
    (h : wpAnyL P md ops Q S k fuel (listed.setIfInBounds i true) (a.put oi.dst v) w) : wpAnyL P md ops Q S k (fuel + 1) listed a w := by
  unfold waitsB at hw
  rw [Bool.and_eq_true] at hw
  refine wpAnyL_first hi (Region.noSelect_spec hs) hQ ?_ fuel listed a w (by simpa using hw.2) (Region.free_spec hi hf) (by simpa using hr) hy hS h
  have h1 := hw.1
  split at h1
  · rename_i ok hok
    obtain ⟨j, hj, he⟩ := Array.any_eq_true.1 h1
    rw [Bool.and_eq_true] at he
    exact ⟨ok, hok, ok.after[j], Array.getElem_mem hj, he.1, by simpa using he.2⟩
  · cases h1
/-- the only one that may come up -/
theorem wpAnyL_only {i : Nat} {o : Oper} {fuel : Nat} {listed : Array Bool} {a : Act} {w : World} (hr : Region.ready md ops listed = [i]) (ho : ops[i]? = some o)
    (h : ∀ K : Act → World → Prop, (∀ a' w', ((listed.setIfInBounds i true).getD k true = false → S w') → ((((listed.setIfInBounds i true).getD k true = false → S w')) → wpAnyL P md ops Q S k fuel (listed.setIfInBounds i true) a' w') → K a' w') →
      if Region.wanted o (yielded ops a.tmps) = true then o.wp P a w K Q else K (a.put o.dst undef) w) : wpAnyL P md ops Q S k (fuel + 1) listed a w := by
  refine ⟨fun h0 => (by rw [hr] at h0; cases h0), fun j hj => ?_⟩
  rw [hr] at hj
  obtain rfl : j = i := by simpa using hj
  unfold wpOp
  rw [ho]
  simp only
  have h2 := h (fun a' w' => ((listed.setIfInBounds j true).getD k true = false → S w') ∧ wpAnyL P md ops Q S k fuel (listed.setIfInBounds j true) a' w') (fun a' w' h1 h2 => ⟨h1, h2 h1⟩)
  by_cases hw : Region.wanted o (yielded ops a.tmps) = true
  · rw [if_pos hw] at h2 ⊢
    exact .inl h2
  · rw [if_neg hw] at h2 ⊢
    exact h2
theorem wpAnyL_done {listed : Array Bool} {a : Act} {w : World} {fuel : Nat} (hr : Region.ready md ops listed = []) (h : Q .normal a w) : wpAnyL P md ops Q S k fuel listed a w := by
  cases fuel with
  | zero => exact ⟨hr, h⟩
  | succ n => exact ⟨fun _ => h, fun i hi => by rw [hr] at hi; cases hi⟩
theorem wp_region_L {id : Nat} {a : Act} {w : World} (k : Nat) (S : World → Prop) (hm : P.follows .mixedOrders = true) (hS : S w.drew) (h : S w.drew → wpAnyL P .any ops Q S k ops.size (Array.replicate ops.size false) a w.drew) : (Code.region id ops true).wp P Q a w :=
  wp_region_any hm (wpAny_of_L _ _ _ _ (h hS))
theorem region_round_L {l n : Nat} {id : Nat} {a : Act} {w : World} (k : Nat) (S : World → Prop) (hm : P.follows .mixedOrders = true) (hL : ¬ LetsOut Q) (hd : ∀ (i : Nat) (o : Oper) c, ops[i]? = some o → o.op ≠ .defer c) (hS : S w.drew)
    (h : S w.drew → wpAnyL P .any ops Q S k ops.size (Array.replicate ops.size false) a w.drew) : (Code.region id ops true).wpIn (Fence.wide.inRound l) n P Q a w :=
  wpIn_region_any hm (any_round hL hd _ _ _ _ (wpAny_of_L _ _ _ _ (h hS)))
end
end Go.Proofs.Ytkooogllajmkeaa
