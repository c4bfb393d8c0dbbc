/- Parts Hf Hg Hu Xi Xj, put together. -/
import Derived.Test.YtpfnnmcokbolhaaMe8
/- Words, Free and Copy of a link (24). -/
namespace Go.Proofs.Ytpfnnmcokbolhaa
open Go.RowKit
set_option pp.deepTerms true
attribute [local go_sem ↓] Go.wp_at_zero Go.wp_at_succ
section
variable {w W : World} {F : List Asr} {p b : Nat} {S : Sp} {L : Lk} {sz ca : Int}
end
end Go.Proofs.Ytpfnnmcokbolhaa
/- Free and Copy of a link (24), the program's and the document's. -/
namespace Go.Proofs.Ytpfnnmcokbolhaa
open Go.RowKit
set_option pp.deepTerms true
attribute [local go_sem ↓] Go.wp_at_zero Go.wp_at_succ
section
variable {w W : World} {F l : List Asr} {p b q pr : Nat} {S R : Sp} {L : Lk} {sz ca : Int}
end
end Go.Proofs.Ytpfnnmcokbolhaa
/- Calls on no link (24). -/
namespace Go.Proofs.Ytpfnnmcokbolhaa
open Go.RowKit
set_option pp.deepTerms true
attribute [local go_sem ↓] Go.wp_at_zero Go.wp_at_succ
/-- there is no link at a pointer -/
def NoneAt (pv : Value) (W : World) : Prop := ∀ W' : World, Below W.heap.size W W' → Calls Try.prog 60 #[pv] W' fun e w' => e = .returned (.bool true) ∧ w' = W'
theorem NoneAt.below {pv : Value} {W W' : World} (h : NoneAt pv W) (k : Below W.heap.size W W') : NoneAt pv W' := fun W'' k' => h W'' (k.trans (k'.mono k.size))
section
variable {W : World} {pv : Value}
set_option maxRecDepth 100000 in
theorem snew_nil (s c : Int) (w : World) : Calls Try.prog 36 #[.pointer none, .agg #[.int .i64 s, .int .i64 c]] w fun e w' => Below w.heap.size w w' ∧ e = .returned (.tuple #[.pointer none, .int .i64 1]) := by
  have HB := Hid.mk ((Below.refl w.heap.size w).alloc (Nat.le_refl _) (.cells #[.int .i64 s, .int .i64 c] 23))
  go_enter Try.func36, Try.ntmps36
  go_wp2_with fail
  go_ret2
  exact ⟨HB.out, rfl⟩
end
section
variable {w W : World} {F : List Asr} {p : Nat} {S : Sp}
theorem snew_sep (h : Sep w F W) (p : Nat) (s c : Int) (hk : segOk s c = true) : Calls Try.prog 36 #[.pointer (some ⟨p, 0, none⟩), .agg #[.int .i64 s, .int .i64 c]] W fun e w' => ∃ b, Sep w (lkA b p s c ⟨[], []⟩ :: F) w' ∧ e = .returned (.tuple #[.pointer (some ⟨b, 0, none⟩), .int .i64 0]) := by
  refine (sNew_any p s c W).mono ?_
  rintro e w' ⟨hb, ⟨-, b, hbb, hL, rfl⟩ | ⟨q, -⟩⟩
  · exact ⟨b, h.new hb (A := lkA b p s c ⟨[], []⟩) (fs := [b]) hL (by simpa using hbb), rfl⟩
  · rw [hk] at q; cases q
theorem snew_bad (h : Sep w F W) (p : Nat) (s c : Int) (hk : segOk s c = false) : Calls Try.prog 36 #[.pointer (some ⟨p, 0, none⟩), .agg #[.int .i64 s, .int .i64 c]] W fun e w' => Sep w F w' ∧ e = .returned (.tuple #[.pointer none, .int .i64 240]) := by
  refine (sNew_any p s c W).mono ?_
  rintro e w' ⟨hb, ⟨q, -⟩ | ⟨-, rfl⟩⟩
  · rw [hk] at q; cases q
  · exact ⟨h.keep hb, rfl⟩
theorem Sep.space (h : Sep w F W) : Sep w (spA W.heap.size ⟨[], 0⟩ :: F) (W.alloc (.cells #[.slice none 0 0, .int .i64 0] 50)) :=
  h.new ((Below.refl _ _).alloc (Nat.le_refl _) _) (A := spA W.heap.size ⟨[], 0⟩) (fs := [W.heap.size]) (Spc.zero W) (by simp)
end
end Go.Proofs.Ytpfnnmcokbolhaa
/- A chain's calls: what may be, and the top frame's going. -/
namespace Go.Proofs.Ytpfnnmcokbolhaa
open Go.RowKit
set_option pp.deepTerms true
theorem get_sep {w W : World} {F : List Asr} {p : Nat} {S : Sp} (h : Sep w (spA p S :: F) W) (a : Int) : Calls Try.prog 53 #[.pointer (some ⟨p, 0, none⟩), .int .i64 a] W fun e w' => Sep w (spA p S :: F) w' ∧ Below W.heap.size W w' ∧ e = .returned (.tuple #[.agg #[.int .i64 (S.get a).1.1, .int .i64 (S.get a).1.2], .int .i64 (S.get a).2]) := by
  obtain ⟨fs, hf⟩ := h.sp
  refine (get_spc hf a).mono ?_
  rintro e w' ⟨hb, rfl⟩
  exact ⟨h.keep hb, hb, rfl⟩
/-- what a chain may be -/
structure ChOk (C : Ch) : Prop where
  fr : ∀ f ∈ C.F, FrOk f
  few : C.F.length ≤ 1000
  last : C.S.last ≤ 1152921504606846976
  low : ∀ f ∈ C.F, f.base ≤ 1152921504606846976
  sum : C.L.live.length + C.L.kept.length ≤ 1000000
  wide : ∀ r ∈ C.L.live ++ C.L.kept, 0 ≤ r.1 ∧ r.1 ≤ 1152921504606846976 ∧ 0 ≤ r.2 ∧ r.2 ≤ 1048576
theorem ChOk.live {C : Ch} (h : ChOk C) : C.L.live.length ≤ 1000000 := by have := h.sum; omega
theorem ChOk.kept {C : Ch} (h : ChOk C) : C.L.kept.length ≤ 1000000 := by have := h.sum; omega
/-- a chain's parts -/
def chP (b p k : Nat) (sz ca : Int) (C : Ch) (F : List Asr) : List Asr := chA b p k C.F :: spA p C.S :: lkA k p sz ca C.L :: F
section
variable {w W : World} {F : List Asr} {b p k : Nat} {sz ca : Int} {C : Ch}
theorem cmay_any {sv : Value} {l : Lay} {bv : Value} (hn : ∀ W' : World, Below W.heap.size W W' → Calls Try.prog 35 #[bv] W' fun e w' => e = .returned (.bool false) ∧ w' = W') (hs : Rdi W sv l.slots) (hln : l.slots.length ≤ 4194304) (place : Int) :
    Calls Try.prog 38 #[bv, layV sv l, .int .i64 place] W fun e w' => Below W.heap.size W w' ∧ e = .returned (.int .i64 (if l.can place then 0 else 250)) := by
  have HB : Hid (Below W.heap.size W (W.alloc (.cells #[sv, .int .i64 l.args, .int .i64 l.res, .int .i64 l.height] 31))) := (Below.refl _ _).alloc (Nat.le_refl _) _
  have HN := Hid.mk (hn _ HB.out)
  have HC := Hid.mk (lCheck_any (hs.below HB.out) hln)
  have c0 : (W.alloc (.cells #[sv, .int .i64 l.args, .int .i64 l.res, .int .i64 l.height] 31)).cell? ⟨W.heap.size, 0, none⟩ = some sv := by simp
  have c1 : (W.alloc (.cells #[sv, .int .i64 l.args, .int .i64 l.res, .int .i64 l.height] 31)).cell? ⟨W.heap.size, 1, none⟩ = some (.int .i64 l.args) := by simp
  have c2 : (W.alloc (.cells #[sv, .int .i64 l.args, .int .i64 l.res, .int .i64 l.height] 31)).cell? ⟨W.heap.size, 2, none⟩ = some (.int .i64 l.res) := by simp
  have c3 : (W.alloc (.cells #[sv, .int .i64 l.args, .int .i64 l.res, .int .i64 l.height] 31)).cell? ⟨W.heap.size, 3, none⟩ = some (.int .i64 l.height) := by simp
  obtain ⟨r, hr⟩ : ∃ r, l.can place = r := ⟨_, rfl⟩
  rw [hr]
  unfold layV at HC ⊢
  cases hk : layOk l <;> rw [hk] at HC
  · obtain rfl : r = false := by rw [← hr]; simp [Lay.can, hk]
    clear hn hs hr hk
    go_enter Try.func38, Try.ntmps38
    go_wp2_with fail
    refine HN.out.mono ?_
    rintro e w1 ⟨rfl, rfl⟩
    go_wp2_with fail
    refine HC.out.mono ?_
    rintro e w1 ⟨hb1, rfl⟩
    go_wp2_with fail
    go_ret
    exact ⟨HB.out.trans (hb1.mono HB.out.size), rfl⟩
  · by_cases p0 : place < 0
    · have z0 : decide (place < 0) = true := by simpa using p0
      obtain rfl : r = false := by rw [← hr]; simp [Lay.can, hk]; omega
      clear hn hs hr hk p0
      go_enter Try.func38, Try.ntmps38
      go_wp2_with fail
      refine HN.out.mono ?_
      rintro e w1 ⟨rfl, rfl⟩
      go_wp2_with fail
      refine HC.out.mono ?_
      rintro e w1 ⟨hb1, rfl⟩
      go_wp2_with fail
      go_ret
      exact ⟨HB.out.trans (hb1.mono HB.out.size), rfl⟩
    · have z0 : decide (place < 0) = false := by simpa using p0
      have e : r = decide (place < 512) := by rw [← hr]; simp [Lay.can, hk]; omega
      by_cases p1 : place ≥ 512
      · have z1 : decide (place ≥ 512) = true := by simpa using p1
        obtain rfl : r = false := by rw [e]; simp; omega
        clear hn hs hr hk p0 p1 e
        go_enter Try.func38, Try.ntmps38
        go_wp2_with fail
        refine HN.out.mono ?_
        rintro e w1 ⟨rfl, rfl⟩
        go_wp2_with fail
        refine HC.out.mono ?_
        rintro e w1 ⟨hb1, rfl⟩
        go_wp2_with fail
        go_ret
        exact ⟨HB.out.trans (hb1.mono HB.out.size), rfl⟩
      · have z1 : decide (place ≥ 512) = false := by simpa using p1
        obtain rfl : r = true := by rw [e]; simp; omega
        clear hn hs hr hk p0 p1 e
        go_enter Try.func38, Try.ntmps38
        go_wp2_with fail
        refine HN.out.mono ?_
        rintro e w1 ⟨rfl, rfl⟩
        go_wp2_with fail
        refine HC.out.mono ?_
        rintro e w1 ⟨hb1, rfl⟩
        go_wp2_with fail
        go_ret
        exact ⟨HB.out.trans (hb1.mono HB.out.size), rfl⟩
set_option maxRecDepth 100000 in
set_option maxHeartbeats 2000000 in
theorem cgoes_any {g c : Nat} {x : Value × Fr} {l : List (Value × Fr)} (h : ChT w W b p k g c x l (spA p C.S :: lkA k p sz ca C.L :: F)) (hF : C.F = x.2 :: l.map Prod.snd) (ok : ChOk C) : Calls Try.prog 55 #[.pointer (some ⟨b, 0, none⟩)] W fun e w' => Sep w (chP b p k sz ca (goesC ca C) F) w' ∧ ∃ u, e = .returned u := by
  have hx := ok.fr x.2 (by rw [hF]; simp)
  have hl : l.length ≤ 1000 := by have := ok.few; rw [hF] at this; simp at this; omega
  have k0 := h.k0
  have hcp : l.length ≤ c := by have := h.cap; omega
  have k1 := h.k1
  have k2 := h.k2
  have e0 := h.fr.c0
  obtain ⟨ao, cc, hx1⟩ := h.fr.slots.shape
  obtain ⟨n, hn⟩ : ∃ n, x.2.lay.slots.length = n := ⟨_, rfl⟩
  rw [hx1, hn] at e0
  have e1 := h.fr.c1
  have e2 := h.fr.c2
  have e3 := h.fr.c3
  have e4 := h.fr.c4
  have e5 := h.fr.c5
  have e6 := h.fr.c6
  obtain ⟨m, hm⟩ : ∃ m, l.length = m := ⟨_, rfl⟩
  rw [hm] at hl hcp k2 e0 e1 e2 e3 e4 e5 e6
  have w1 : IntKind.i64.wrap (((m + 1 : Nat) : Int) - 1) = (m : Int) := by rw [IntKind.wrap_i64]; omega
  have w2 : IntKind.i64.wrap ((m : Int) + 1 - 1) = (m : Int) := by rw [IntKind.wrap_i64]; omega
  have w3 : IntKind.i64.wrap (m : Int) = (m : Int) := by rw [IntKind.wrap_i64]; omega
  have hk3 : m < m + 1 := by omega
  have hk4 : (m : Int) < (m : Int) + 1 := by omega
  obtain ⟨W1, hW1⟩ : ∃ W1, W1 = (W.alloc (.cells #[.slice ao n cc, .int .i64 x.2.lay.args, .int .i64 x.2.lay.res, .int .i64 x.2.lay.height, .int .i64 x.2.base, .int .i64 x.2.ops, .bool x.2.own] 99 (0, 0))).drew := ⟨_, rfl⟩
  have H1 : ChT w W1 b p k g c x l (spA p C.S :: lkA k p sz ca C.L :: bx W.heap.size (.cells #[.slice ao n cc, .int .i64 x.2.lay.args, .int .i64 x.2.lay.res, .int .i64 x.2.lay.height, .int .i64 x.2.base, .int .i64 x.2.ops, .bool x.2.own] 99 (0, 0)) :: F) := by
    rw [hW1]
    exact (Sep.rot [_] [_, _, _, _, _] (Sep.alloc h (.cells #[.slice ao n cc, .int .i64 x.2.lay.args, .int .i64 x.2.lay.res, .int .i64 x.2.lay.height, .int .i64 x.2.base, .int .i64 x.2.ops, .bool x.2.own] 99 (0, 0)))).drew
  have f0 := H1.k0
  have f1 := H1.k1
  have B1 := Sep.at H1 (b := W.heap.size) (o := (.cells #[.slice ao n cc, .int .i64 x.2.lay.args, .int .i64 x.2.lay.res, .int .i64 x.2.lay.height, .int .i64 x.2.base, .int .i64 x.2.ops, .bool x.2.own] 99 (0, 0))) (by simp)
  have g0 : W1.cell? ⟨W.heap.size, 0, none⟩ = some (.slice ao n cc) := by rw [cell_of_row _ _ 0 _ _ _ B1]; rfl
  have g1 : W1.cell? ⟨W.heap.size, 1, none⟩ = some (.int .i64 x.2.lay.args) := by rw [cell_of_row _ _ 1 _ _ _ B1]; rfl
  have g2 : W1.cell? ⟨W.heap.size, 2, none⟩ = some (.int .i64 x.2.lay.res) := by rw [cell_of_row _ _ 2 _ _ _ B1]; rfl
  have g3 : W1.cell? ⟨W.heap.size, 3, none⟩ = some (.int .i64 x.2.lay.height) := by rw [cell_of_row _ _ 3 _ _ _ B1]; rfl
  have g4 : W1.cell? ⟨W.heap.size, 4, none⟩ = some (.int .i64 x.2.base) := by rw [cell_of_row _ _ 4 _ _ _ B1]; rfl
  have g6 : W1.cell? ⟨W.heap.size, 6, none⟩ = some (.bool x.2.own) := by rw [cell_of_row _ _ 6 _ _ _ B1]; rfl
  have HWd := Hid.mk (lWords_any (w := W1.drew) (sv := x.1) (H1.fr.drew.slots) hx.lay)
  unfold layV at HWd
  rw [hx1, hn] at HWd
  have HC3 : Hid (∀ S' W', Sep w (spA p S' :: lkA k p sz ca C.L :: bx W.heap.size (.cells #[.slice ao n cc, .int .i64 x.2.lay.args, .int .i64 x.2.lay.res, .int .i64 x.2.lay.height, .int .i64 x.2.base, .int .i64 x.2.ops, .bool x.2.own] 99 (0, 0)) :: F ++ [bx b (.cells #[.pointer (some ⟨p, 0, none⟩), .pointer (some ⟨k, 0, none⟩), .slice (some ⟨g, 0, none⟩) (l.length + 1 : Nat) c] 78 (0, 0)), rw_ 0 99 7 (.slice (some ⟨g, 0, none⟩) (l.length + 1 : Nat) c) (l.length + 1) (fcells (x :: l)), rowsA (x :: l)]) W' → W'.cell? ⟨b, 0, none⟩ = some (.pointer (some ⟨p, 0, none⟩)) ∧ W'.cell? ⟨W.heap.size, 0, none⟩ = some (.slice ao n cc) ∧ W'.cell? ⟨W.heap.size, 1, none⟩ = some (.int .i64 x.2.lay.args) ∧ W'.cell? ⟨W.heap.size, 2, none⟩ = some (.int .i64 x.2.lay.res) ∧ W'.cell? ⟨W.heap.size, 3, none⟩ = some (.int .i64 x.2.lay.height) ∧ W'.cell? ⟨W.heap.size, 4, none⟩ = some (.int .i64 x.2.base)) := fun S' W' q => by
    have q1 := Sep.at q (b := W.heap.size) (o := (.cells #[.slice ao n cc, .int .i64 x.2.lay.args, .int .i64 x.2.lay.res, .int .i64 x.2.lay.height, .int .i64 x.2.base, .int .i64 x.2.ops, .bool x.2.own] 99 (0, 0))) (by simp)
    have q2 := Sep.cell q (b := b) (j := 0) (List.mem_append.2 (.inr (List.Mem.head _))) rfl
    exact ⟨q2, by rw [cell_of_row _ _ 0 _ _ _ q1]; rfl, by rw [cell_of_row _ _ 1 _ _ _ q1]; rfl, by rw [cell_of_row _ _ 2 _ _ _ q1]; rfl, by rw [cell_of_row _ _ 3 _ _ _ q1]; rfl, by rw [cell_of_row _ _ 4 _ _ _ q1]; rfl⟩
  have HD : Hid (∀ W', Below W1.heap.size W1 W' → Sep w (spA p C.S :: lkA k p sz ca C.L :: bx W.heap.size (.cells #[.slice ao n cc, .int .i64 x.2.lay.args, .int .i64 x.2.lay.res, .int .i64 x.2.lay.height, .int .i64 x.2.base, .int .i64 x.2.ops, .bool x.2.own] 99 (0, 0)) :: F ++ [bx b (.cells #[.pointer (some ⟨p, 0, none⟩), .pointer (some ⟨k, 0, none⟩), .slice (some ⟨g, 0, none⟩) (l.length + 1 : Nat) c] 78 (0, 0)), rw_ 0 99 7 (.slice (some ⟨g, 0, none⟩) (l.length + 1 : Nat) c) (l.length + 1) (fcells (x :: l)), rowsA (x :: l)]) W') := fun W' q => (H1.keep q).out
  clear h H1 B1
  go_enter Try.func55, Try.ntmps55
  go_wp2_with fail
  go_region_held3 (fun X => X.cell? ⟨b, 2, none⟩ = some (.slice (some ⟨g, 0, none⟩) (m + 1 : Nat) c) ∧ X.cell? ⟨g, m * 7, none⟩ = some (.slice ao n cc) ∧ X.cell? ⟨g, m * 7 + 1, none⟩ = some (.int .i64 x.2.lay.args) ∧ X.cell? ⟨g, m * 7 + 2, none⟩ = some (.int .i64 x.2.lay.res) ∧ X.cell? ⟨g, m * 7 + 3, none⟩ = some (.int .i64 x.2.lay.height) ∧ X.cell? ⟨g, m * 7 + 4, none⟩ = some (.int .i64 x.2.base) ∧ X.cell? ⟨g, m * 7 + 5, none⟩ = some (.int .i64 x.2.ops) ∧ X.cell? ⟨g, m * 7 + 6, none⟩ = some (.bool x.2.own)) (first | exact ⟨k2, e0, e1, e2, e3, e4, e5, e6⟩ | exact ⟨alloc_cell k2, alloc_cell e0, alloc_cell e1, alloc_cell e2, alloc_cell e3, alloc_cell e4, alloc_cell e5, alloc_cell e6⟩) (first | fail)
  rw [← hW1]
  clear hW1 k0 k1 k2 e0 e1 e2 e3 e4 e5 e6
  go_wp2_with fail
  go_region_held3 (fun X => X.cell? ⟨b, 0, none⟩ = some (.pointer (some ⟨p, 0, none⟩)) ∧ X.cell? ⟨W.heap.size, 0, none⟩ = some (.slice ao n cc) ∧ X.cell? ⟨W.heap.size, 1, none⟩ = some (.int .i64 x.2.lay.args) ∧ X.cell? ⟨W.heap.size, 2, none⟩ = some (.int .i64 x.2.lay.res) ∧ X.cell? ⟨W.heap.size, 3, none⟩ = some (.int .i64 x.2.lay.height) ∧ X.cell? ⟨W.heap.size, 4, none⟩ = some (.int .i64 x.2.base)) (first | exact s9 | exact s8 | exact ⟨f0, g0, g1, g2, g3, g4⟩) (first | (go_at_call 66; refine HWd.out.mono ?_; rintro e w2 ⟨hb2, rfl⟩; have s8 := And.intro (keep_dr hb2 f0) (And.intro (keep_dr hb2 g0) (And.intro (keep_dr hb2 g1) (And.intro (keep_dr hb2 g2) (And.intro (keep_dr hb2 g3) (keep_dr hb2 g4)))))) | (go_at_call 50; refine (drop_sep (HD.out _ (undrew hb2)) x.2.base x.2.lay.words).mono ?_; rintro e w3 ⟨h3, rfl⟩; have s9 := HC3.out _ _ h3))
  have h3b := Sep.at h3 (b := W.heap.size) (o := (.cells #[.slice ao n cc, .int .i64 x.2.lay.args, .int .i64 x.2.lay.res, .int .i64 x.2.lay.height, .int .i64 x.2.base, .int .i64 x.2.ops, .bool x.2.own] 99 (0, 0))) (by simp)
  have g6 : w3.cell? ⟨W.heap.size, 6, none⟩ = some (.bool x.2.own) := by rw [cell_of_row _ _ 6 _ _ _ h3b]; rfl
  have k1 := (ChT.back (F := spA p (C.S.drop x.2.base x.2.lay.words).2 :: lkA k p sz ca C.L :: bx W.heap.size (.cells #[.slice ao n cc, .int .i64 x.2.lay.args, .int .i64 x.2.lay.res, .int .i64 x.2.lay.height, .int .i64 x.2.base, .int .i64 x.2.ops, .bool x.2.own] 99 (0, 0)) :: F) h3).k1
  have hsh : ∀ (S' : Sp) (L' : Lk) (W' : World), Sep w (spA p S' :: lkA k p sz ca L' :: bx W.heap.size (.cells #[.slice ao n cc, .int .i64 x.2.lay.args, .int .i64 x.2.lay.res, .int .i64 x.2.lay.height, .int .i64 x.2.base, .int .i64 x.2.ops, .bool x.2.own] 99 (0, 0)) :: F ++ [bx b (.cells #[.pointer (some ⟨p, 0, none⟩), .pointer (some ⟨k, 0, none⟩), .slice (some ⟨g, 0, none⟩) (l.length + 1 : Nat) c] 78 (0, 0)), rw_ 0 99 7 (.slice (some ⟨g, 0, none⟩) (l.length + 1 : Nat) c) (l.length + 1) (fcells (x :: l)), rowsA (x :: l)]) W' → W'.cell? ⟨b, 2, none⟩ = some (.slice (some ⟨g, 0, none⟩) (m + 1 : Nat) c) ∧ W'.frozen? ⟨b, 2, none⟩ = false ∧ Sep w (chA b p k (l.map Prod.snd) :: spA p S' :: lkA k p sz ca L' :: F) (W'.setCell ⟨b, 2, none⟩ (.slice (some ⟨g, 0, none⟩) m c)) := fun S' L' W' q => by
    have q0 : ChT w W' b p k g c x l (spA p S' :: lkA k p sz ca L' :: bx W.heap.size (.cells #[.slice ao n cc, .int .i64 x.2.lay.args, .int .i64 x.2.lay.res, .int .i64 x.2.lay.height, .int .i64 x.2.base, .int .i64 x.2.ops, .bool x.2.own] 99 (0, 0)) :: F) := ChT.back (F := spA p S' :: lkA k p sz ca L' :: bx W.heap.size (.cells #[.slice ao n cc, .int .i64 x.2.lay.args, .int .i64 x.2.lay.res, .int .i64 x.2.lay.height, .int .i64 x.2.base, .int .i64 x.2.ops, .bool x.2.own] 99 (0, 0)) :: F) q
    have q1 := q0.k2
    have q2 := q0.shrink
    rw [hm] at q1 q2
    exact ⟨q1, Sep.free q0 (List.Mem.head _) 2, q2.lose 3⟩
  have HSH := Hid.mk hsh
  have H3 := Hid.mk h3
  have HF : Hid (C.F = x.2 :: l.map Prod.snd) := hF
  clear hsh h3 h3b hF HC3 HD HWd s8 s9 f0 f1 g0 g1 g2 g3 g4
  cases hown : x.2.own
  · rw [hown] at g6
    obtain ⟨k2, z2, -⟩ := HSH.out _ _ _ H3.out
    have HE : Hid (Sep w (chP b p k sz ca (goesC ca C) F) (w3.setCell ⟨b, 2, none⟩ (.slice (some ⟨g, 0, none⟩) m c)).drew)  := by
      have e : goesC ca C = ⟨(C.S.drop x.2.base x.2.lay.words).2, C.L, l.map Prod.snd⟩ := by unfold goesC; rw [HF.out]; simp [hown]
      rw [e]
      exact (HSH.out _ _ _ H3.out).2.2.drew
    clear HSH H3 HF
    go_wp2_with fail
    refine wp_region_L 14 (fun X => X.cell? ⟨b, 2, none⟩ = some (.slice (some ⟨g, 0, none⟩) (m + 1 : Nat) c)) (by kernel_rfl) k2 (fun hHeld => ?_)
    refine wpAnyL_take (i := 0) (v := ?_) rfl (by kernel_rfl) (by kernel_rfl) (by kernel_rfl) (by kernel_rfl) (fun _ _ _ h => h) (Or.inl ⟨by rfl, ?_⟩) (by assumption) ?_
    rotate_left
    · (intro w hSw; (try dsimp only at hSw); go_simp <;> with_reducible rfl)
    (try simp only [Act.put, List.getElem_toArray, List.getElem_cons_zero, List.getElem_cons_succ, List.setIfInBounds_toArray, List.set_cons_zero, List.set_cons_succ])
    refine wpAnyL_take (i := 1) (v := ?_) rfl (by kernel_rfl) (by kernel_rfl) (by kernel_rfl) (by kernel_rfl) (fun _ _ _ h => h) (Or.inl ⟨by rfl, ?_⟩) (by assumption) ?_
    rotate_left
    · (intro w hSw; (try dsimp only at hSw); go_simp <;> with_reducible rfl)
    (try simp only [Act.put, List.getElem_toArray, List.getElem_cons_zero, List.getElem_cons_succ, List.setIfInBounds_toArray, List.set_cons_zero, List.set_cons_succ])
    refine wpAnyL_take (i := 2) (v := ?_) rfl (by kernel_rfl) (by kernel_rfl) (by kernel_rfl) (by kernel_rfl) (fun _ _ _ h => h) (Or.inl ⟨by rfl, ?_⟩) (by assumption) ?_
    rotate_left
    · (intro w hSw; (try dsimp only at hSw); go_simp <;> with_reducible rfl)
    (try simp only [Act.put, List.getElem_toArray, List.getElem_cons_zero, List.getElem_cons_succ, List.setIfInBounds_toArray, List.set_cons_zero, List.set_cons_succ])
    refine wpAnyL_take (i := 3) (v := ?_) rfl (by kernel_rfl) (by kernel_rfl) (by kernel_rfl) (by kernel_rfl) (fun _ _ _ h => h) (Or.inl ⟨by rfl, ?_⟩) (by assumption) ?_
    rotate_left
    · (intro w hSw; (try dsimp only at hSw); go_simp <;> with_reducible rfl)
    (try simp only [Act.put, List.getElem_toArray, List.getElem_cons_zero, List.getElem_cons_succ, List.setIfInBounds_toArray, List.set_cons_zero, List.set_cons_succ])
    refine wpAnyL_take (i := 4) (v := ?_) rfl (by kernel_rfl) (by kernel_rfl) (by kernel_rfl) (by kernel_rfl) (fun _ _ _ h => h) (Or.inl ⟨by rfl, ?_⟩) (by assumption) ?_
    rotate_left
    · (intro w hSw; (try dsimp only at hSw); go_simp <;> with_reducible rfl)
    (try simp only [Act.put, List.getElem_toArray, List.getElem_cons_zero, List.getElem_cons_succ, List.setIfInBounds_toArray, List.set_cons_zero, List.set_cons_succ])
    refine wpAnyL_take (i := 5) (v := ?_) rfl (by kernel_rfl) (by kernel_rfl) (by kernel_rfl) (by kernel_rfl) (fun _ _ _ h => h) (Or.inl ⟨by rfl, ?_⟩) (by assumption) ?_
    rotate_left
    · (intro w hSw; (try dsimp only at hSw); go_simp <;> with_reducible rfl)
    (try simp only [Act.put, List.getElem_toArray, List.getElem_cons_zero, List.getElem_cons_succ, List.setIfInBounds_toArray, List.set_cons_zero, List.set_cons_succ])
    refine wpAnyL_take (i := 6) (v := ?_) rfl (by kernel_rfl) (by kernel_rfl) (by kernel_rfl) (by kernel_rfl) (fun _ _ _ h => h) (Or.inl ⟨by rfl, ?_⟩) (by assumption) ?_
    rotate_left
    · (intro w hSw; (try dsimp only at hSw); go_simp <;> with_reducible rfl)
    (try simp only [Act.put, List.getElem_toArray, List.getElem_cons_zero, List.getElem_cons_succ, List.setIfInBounds_toArray, List.set_cons_zero, List.set_cons_succ])
    refine wpAnyL_take (i := 7) (v := ?_) rfl (by kernel_rfl) (by kernel_rfl) (by kernel_rfl) (by kernel_rfl) (fun _ _ _ h => h) (Or.inl ⟨by rfl, ?_⟩) (by assumption) ?_
    rotate_left
    · (intro w hSw; (try dsimp only at hSw); go_simp <;> with_reducible rfl)
    (try simp only [Act.put, List.getElem_toArray, List.getElem_cons_zero, List.getElem_cons_succ, List.setIfInBounds_toArray, List.set_cons_zero, List.set_cons_succ])
    refine wpAnyL_take (i := 8) (v := ?_) rfl (by kernel_rfl) (by kernel_rfl) (by kernel_rfl) (by kernel_rfl) (fun _ _ _ h => h) (Or.inl ⟨by rfl, ?_⟩) (by assumption) ?_
    rotate_left
    · (intro w hSw; (try dsimp only at hSw); go_simp <;> with_reducible rfl)
    (try simp only [Act.put, List.getElem_toArray, List.getElem_cons_zero, List.getElem_cons_succ, List.setIfInBounds_toArray, List.set_cons_zero, List.set_cons_succ])
    refine wpAnyL_take (i := 9) (v := ?_) rfl (by kernel_rfl) (by kernel_rfl) (by kernel_rfl) (by kernel_rfl) (fun _ _ _ h => h) (Or.inl ⟨by rfl, ?_⟩) (by assumption) ?_
    rotate_left
    · (intro w hSw; (try dsimp only at hSw); go_simp <;> with_reducible rfl)
    (try simp only [Act.put, List.getElem_toArray, List.getElem_cons_zero, List.getElem_cons_succ, List.setIfInBounds_toArray, List.set_cons_zero, List.set_cons_succ])
    refine wpAnyL_take (i := 10) (v := ?_) rfl (by kernel_rfl) (by kernel_rfl) (by kernel_rfl) (by kernel_rfl) (fun _ _ _ h => h) (Or.inl ⟨by rfl, ?_⟩) (by assumption) ?_
    rotate_left
    · (intro w hSw; (try dsimp only at hSw); go_simp <;> with_reducible rfl)
    (try simp only [Act.put, List.getElem_toArray, List.getElem_cons_zero, List.getElem_cons_succ, List.setIfInBounds_toArray, List.set_cons_zero, List.set_cons_succ])
    refine wpAnyL_take (i := 11) (v := ?_) rfl (by kernel_rfl) (by kernel_rfl) (by kernel_rfl) (by kernel_rfl) (fun _ _ _ h => h) (Or.inl ⟨by rfl, ?_⟩) (by assumption) ?_
    rotate_left
    · (intro w hSw; (try dsimp only at hSw); go_simp <;> with_reducible rfl)
    (try simp only [Act.put, List.getElem_toArray, List.getElem_cons_zero, List.getElem_cons_succ, List.setIfInBounds_toArray, List.set_cons_zero, List.set_cons_succ])
    refine wpAnyL_only (i := 12) (by kernel_rfl) rfl (fun K hK => ?_)
    go_simp
    refine hK _ _ (fun _ => hHeld) (fun hHeld0 => ?_)
    have hHeld := hHeld0 rfl
    clear hK K hHeld0
    (try simp only [Act.put, List.getElem_toArray, List.getElem_cons_zero, List.getElem_cons_succ, List.setIfInBounds_toArray, List.set_cons_zero, List.set_cons_succ])
    refine wpAnyL_take (i := 13) (v := ?_) rfl (by kernel_rfl) (by kernel_rfl) (by kernel_rfl) (by kernel_rfl) (fun _ _ _ h => h) (Or.inl ⟨by rfl, ?_⟩) (by assumption) ?_
    rotate_left
    · (intro w hSw; (try dsimp only at hSw); go_simp <;> with_reducible rfl)
    (try simp only [Act.put, List.getElem_toArray, List.getElem_cons_zero, List.getElem_cons_succ, List.setIfInBounds_toArray, List.set_cons_zero, List.set_cons_succ])
    refine wpAnyL_only (i := 14) (by kernel_rfl) rfl (fun K hK => ?_)
    go_simp
    refine hK _ _ (fun q => by cases q) (fun hHeld0 => ?_)
    clear hK K hHeld0
    refine wpAnyL_done (by kernel_rfl) ?_
    go_end0
    exact ⟨HE.out, _, rfl⟩
  · rw [hown] at g6
    have HP := Hid.mk (pop_sep H3.out ok.live ok.kept)
    clear H3
    go_wp2_with fail
    refine HP.out.mono ?_
    rintro e w4 ⟨h4, rfl⟩
    obtain ⟨k2, z2, -⟩ := HSH.out _ _ _ h4
    have HE : Hid (Sep w (chP b p k sz ca (goesC ca C) F) (w4.setCell ⟨b, 2, none⟩ (.slice (some ⟨g, 0, none⟩) m c)).drew)  := by
      have e : goesC ca C = ⟨(popL (C.S.drop x.2.base x.2.lay.words).2 C.L ca).2.1, (popL (C.S.drop x.2.base x.2.lay.words).2 C.L ca).2.2, l.map Prod.snd⟩ := by unfold goesC; rw [HF.out]; simp [hown]
      rw [e]
      exact (HSH.out _ _ _ h4).2.2.drew
    clear HSH h4 HF HP
    go_wp2_with fail
    refine wp_region_L 14 (fun X => X.cell? ⟨b, 2, none⟩ = some (.slice (some ⟨g, 0, none⟩) (m + 1 : Nat) c)) (by kernel_rfl) k2 (fun hHeld => ?_)
    refine wpAnyL_take (i := 0) (v := ?_) rfl (by kernel_rfl) (by kernel_rfl) (by kernel_rfl) (by kernel_rfl) (fun _ _ _ h => h) (Or.inl ⟨by rfl, ?_⟩) (by assumption) ?_
    rotate_left
    · (intro w hSw; (try dsimp only at hSw); go_simp <;> with_reducible rfl)
    (try simp only [Act.put, List.getElem_toArray, List.getElem_cons_zero, List.getElem_cons_succ, List.setIfInBounds_toArray, List.set_cons_zero, List.set_cons_succ])
    refine wpAnyL_take (i := 1) (v := ?_) rfl (by kernel_rfl) (by kernel_rfl) (by kernel_rfl) (by kernel_rfl) (fun _ _ _ h => h) (Or.inl ⟨by rfl, ?_⟩) (by assumption) ?_
    rotate_left
    · (intro w hSw; (try dsimp only at hSw); go_simp <;> with_reducible rfl)
    (try simp only [Act.put, List.getElem_toArray, List.getElem_cons_zero, List.getElem_cons_succ, List.setIfInBounds_toArray, List.set_cons_zero, List.set_cons_succ])
    refine wpAnyL_take (i := 2) (v := ?_) rfl (by kernel_rfl) (by kernel_rfl) (by kernel_rfl) (by kernel_rfl) (fun _ _ _ h => h) (Or.inl ⟨by rfl, ?_⟩) (by assumption) ?_
    rotate_left
    · (intro w hSw; (try dsimp only at hSw); go_simp <;> with_reducible rfl)
    (try simp only [Act.put, List.getElem_toArray, List.getElem_cons_zero, List.getElem_cons_succ, List.setIfInBounds_toArray, List.set_cons_zero, List.set_cons_succ])
    refine wpAnyL_take (i := 3) (v := ?_) rfl (by kernel_rfl) (by kernel_rfl) (by kernel_rfl) (by kernel_rfl) (fun _ _ _ h => h) (Or.inl ⟨by rfl, ?_⟩) (by assumption) ?_
    rotate_left
    · (intro w hSw; (try dsimp only at hSw); go_simp <;> with_reducible rfl)
    (try simp only [Act.put, List.getElem_toArray, List.getElem_cons_zero, List.getElem_cons_succ, List.setIfInBounds_toArray, List.set_cons_zero, List.set_cons_succ])
    refine wpAnyL_take (i := 4) (v := ?_) rfl (by kernel_rfl) (by kernel_rfl) (by kernel_rfl) (by kernel_rfl) (fun _ _ _ h => h) (Or.inl ⟨by rfl, ?_⟩) (by assumption) ?_
    rotate_left
    · (intro w hSw; (try dsimp only at hSw); go_simp <;> with_reducible rfl)
    (try simp only [Act.put, List.getElem_toArray, List.getElem_cons_zero, List.getElem_cons_succ, List.setIfInBounds_toArray, List.set_cons_zero, List.set_cons_succ])
    refine wpAnyL_take (i := 5) (v := ?_) rfl (by kernel_rfl) (by kernel_rfl) (by kernel_rfl) (by kernel_rfl) (fun _ _ _ h => h) (Or.inl ⟨by rfl, ?_⟩) (by assumption) ?_
    rotate_left
    · (intro w hSw; (try dsimp only at hSw); go_simp <;> with_reducible rfl)
    (try simp only [Act.put, List.getElem_toArray, List.getElem_cons_zero, List.getElem_cons_succ, List.setIfInBounds_toArray, List.set_cons_zero, List.set_cons_succ])
    refine wpAnyL_take (i := 6) (v := ?_) rfl (by kernel_rfl) (by kernel_rfl) (by kernel_rfl) (by kernel_rfl) (fun _ _ _ h => h) (Or.inl ⟨by rfl, ?_⟩) (by assumption) ?_
    rotate_left
    · (intro w hSw; (try dsimp only at hSw); go_simp <;> with_reducible rfl)
    (try simp only [Act.put, List.getElem_toArray, List.getElem_cons_zero, List.getElem_cons_succ, List.setIfInBounds_toArray, List.set_cons_zero, List.set_cons_succ])
    refine wpAnyL_take (i := 7) (v := ?_) rfl (by kernel_rfl) (by kernel_rfl) (by kernel_rfl) (by kernel_rfl) (fun _ _ _ h => h) (Or.inl ⟨by rfl, ?_⟩) (by assumption) ?_
    rotate_left
    · (intro w hSw; (try dsimp only at hSw); go_simp <;> with_reducible rfl)
    (try simp only [Act.put, List.getElem_toArray, List.getElem_cons_zero, List.getElem_cons_succ, List.setIfInBounds_toArray, List.set_cons_zero, List.set_cons_succ])
    refine wpAnyL_take (i := 8) (v := ?_) rfl (by kernel_rfl) (by kernel_rfl) (by kernel_rfl) (by kernel_rfl) (fun _ _ _ h => h) (Or.inl ⟨by rfl, ?_⟩) (by assumption) ?_
    rotate_left
    · (intro w hSw; (try dsimp only at hSw); go_simp <;> with_reducible rfl)
    (try simp only [Act.put, List.getElem_toArray, List.getElem_cons_zero, List.getElem_cons_succ, List.setIfInBounds_toArray, List.set_cons_zero, List.set_cons_succ])
    refine wpAnyL_take (i := 9) (v := ?_) rfl (by kernel_rfl) (by kernel_rfl) (by kernel_rfl) (by kernel_rfl) (fun _ _ _ h => h) (Or.inl ⟨by rfl, ?_⟩) (by assumption) ?_
    rotate_left
    · (intro w hSw; (try dsimp only at hSw); go_simp <;> with_reducible rfl)
    (try simp only [Act.put, List.getElem_toArray, List.getElem_cons_zero, List.getElem_cons_succ, List.setIfInBounds_toArray, List.set_cons_zero, List.set_cons_succ])
    refine wpAnyL_take (i := 10) (v := ?_) rfl (by kernel_rfl) (by kernel_rfl) (by kernel_rfl) (by kernel_rfl) (fun _ _ _ h => h) (Or.inl ⟨by rfl, ?_⟩) (by assumption) ?_
    rotate_left
    · (intro w hSw; (try dsimp only at hSw); go_simp <;> with_reducible rfl)
    (try simp only [Act.put, List.getElem_toArray, List.getElem_cons_zero, List.getElem_cons_succ, List.setIfInBounds_toArray, List.set_cons_zero, List.set_cons_succ])
    refine wpAnyL_take (i := 11) (v := ?_) rfl (by kernel_rfl) (by kernel_rfl) (by kernel_rfl) (by kernel_rfl) (fun _ _ _ h => h) (Or.inl ⟨by rfl, ?_⟩) (by assumption) ?_
    rotate_left
    · (intro w hSw; (try dsimp only at hSw); go_simp <;> with_reducible rfl)
    (try simp only [Act.put, List.getElem_toArray, List.getElem_cons_zero, List.getElem_cons_succ, List.setIfInBounds_toArray, List.set_cons_zero, List.set_cons_succ])
    refine wpAnyL_only (i := 12) (by kernel_rfl) rfl (fun K hK => ?_)
    go_simp
    refine hK _ _ (fun _ => hHeld) (fun hHeld0 => ?_)
    have hHeld := hHeld0 rfl
    clear hK K hHeld0
    (try simp only [Act.put, List.getElem_toArray, List.getElem_cons_zero, List.getElem_cons_succ, List.setIfInBounds_toArray, List.set_cons_zero, List.set_cons_succ])
    refine wpAnyL_take (i := 13) (v := ?_) rfl (by kernel_rfl) (by kernel_rfl) (by kernel_rfl) (by kernel_rfl) (fun _ _ _ h => h) (Or.inl ⟨by rfl, ?_⟩) (by assumption) ?_
    rotate_left
    · (intro w hSw; (try dsimp only at hSw); go_simp <;> with_reducible rfl)
    (try simp only [Act.put, List.getElem_toArray, List.getElem_cons_zero, List.getElem_cons_succ, List.setIfInBounds_toArray, List.set_cons_zero, List.set_cons_succ])
    refine wpAnyL_only (i := 14) (by kernel_rfl) rfl (fun K hK => ?_)
    go_simp
    refine hK _ _ (fun q => by cases q) (fun hHeld0 => ?_)
    clear hK K hHeld0
    refine wpAnyL_done (by kernel_rfl) ?_
    go_end0
    exact ⟨HE.out, _, rfl⟩
end
end Go.Proofs.Ytpfnnmcokbolhaa
/- A chain's calls on its top frame. -/
namespace Go.Proofs.Ytpfnnmcokbolhaa
open Go.RowKit
set_option pp.deepTerms true
theorem run_sep {w W : World} {F : List Asr} {p : Nat} {S : Sp} (h : Sep w (spA p S :: F) W) (a m : Int) : Calls Try.prog 48 #[.pointer (some ⟨p, 0, none⟩), .int .i64 a, .int .i64 m] W fun e w' =>
    ∃ v, Sep w (rw_ 0 34 2 v ((S.run a m).1.getD []).length (wcells ((S.run a m).1.getD [])) :: spA p S :: F) w' ∧ Below W.heap.size W w' ∧ e = .returned (.tuple #[v, .int .i64 (S.run a m).2]) := by
  obtain ⟨fs, hf⟩ := h.sp
  refine (run_spc hf a m).mono ?_
  rintro e w' ⟨hb, hr⟩
  obtain ⟨⟨o, er⟩, hx⟩ : ∃ r, S.run a m = r := ⟨_, rfl⟩
  rw [hx] at hr ⊢
  cases o with
  | none =>
    have hr' : e = .returned (.tuple #[.slice none 0 0, .int .i64 er]) := hr
    exact ⟨_, (h.keep hb).rnil 0 34 2, hb, hr'⟩
  | some l =>
    obtain ⟨g, c, hrow, he⟩ := hr
    exact ⟨_, h.row hb hrow, hb, he⟩
section
variable {w W : World} {F : List Asr} {b p k g c : Nat} {sz ca : Int} {C : Ch} {x : Value × Fr} {l : List (Value × Fr)} {A B : Asr} {S : Sp}
theorem ChT.more (h : ChT w W b p k g c x l (A :: B :: F)) (o : Obj) : ChT w (W.alloc o) b p k g c x l (A :: B :: bx W.heap.size o :: F) := Sep.rot [_] [_, _, _, _, _] (Sep.alloc h o)
theorem ChT.size (h : ChT w W b p k g c x l F) : Below w.heap.size w W := Sep.size h
theorem get_T (h : ChT w W b p k g c x l (spA p S :: F)) (a : Int) : Calls Try.prog 53 #[.pointer (some ⟨p, 0, none⟩), .int .i64 a] W fun e w' => ChT w w' b p k g c x l (spA p S :: F) ∧ Below W.heap.size W w' ∧ e = .returned (.tuple #[.agg #[.int .i64 (S.get a).1.1, .int .i64 (S.get a).1.2], .int .i64 (S.get a).2]) := by
  refine (get_sep (F := F ++ _) h.out a).mono ?_
  rintro e w' ⟨h1, h2, rfl⟩
  exact ⟨h.keep h2, h2, rfl⟩
theorem put_T (h : ChT w W b p k g c x l (spA p S :: F)) (a t n : Int) : Calls Try.prog 47 #[.pointer (some ⟨p, 0, none⟩), .int .i64 a, .agg #[.int .i64 t, .int .i64 n]] W fun e w' => ChT w w' b p k g c x l (spA p (S.put a (t, n)).2 :: F) ∧ e = .returned (.int .i64 (S.put a (t, n)).1) := by
  refine (put_sep (F := F ++ _) h.out a t n).mono ?_
  rintro e w' ⟨h1, rfl⟩
  exact ⟨ChT.back (F := spA p (S.put a (t, n)).2 :: F) h1, rfl⟩
theorem drop_T (h : ChT w W b p k g c x l (spA p S :: F)) (a m : Int) : Calls Try.prog 50 #[.pointer (some ⟨p, 0, none⟩), .int .i64 a, .int .i64 m] W fun e w' => ChT w w' b p k g c x l (spA p (S.drop a m).2 :: F) ∧ e = .returned (.int .i64 (S.drop a m).1) := by
  refine (drop_sep (F := F ++ _) h.out a m).mono ?_
  rintro e w' ⟨h1, rfl⟩
  exact ⟨ChT.back (F := spA p (S.drop a m).2 :: F) h1, rfl⟩
theorem cslot_T (h : ChT w W b p k g c x l F) (hF : C.F = x.2 :: l.map Prod.snd) (ok : ChOk C) (i : Int) : Calls Try.prog 45 #[.pointer (some ⟨b, 0, none⟩), .int .i64 i] W fun e w' => ChT w w' b p k g c x l F ∧ Below W.heap.size W w' ∧ e = .returned (.tuple #[.int .i64 (slotC C i).1.1, .int .i64 (slotC C i).1.2, .int .i64 (slotC C i).2]) := by
  have hx := ok.fr x.2 (by rw [hF]; simp)
  have hl : l.length ≤ 1000 := by have := ok.few; rw [hF] at this; simp at this; omega
  obtain ⟨-, hn, -, -, -, -, h5, h6⟩ := (layOk_iff x.2.lay).1 hx.lay
  have b0 := hx.b0
  have b1 := hx.b1
  have HT := Hid.mk (ctop_some h hl)
  obtain ⟨r1, hr1⟩ : ∃ r, (slotC C i).1.1 = r := ⟨_, rfl⟩
  obtain ⟨r2, hr2⟩ : ∃ r, (slotC C i).1.2 = r := ⟨_, rfl⟩
  obtain ⟨r3, hr3⟩ : ∃ r, (slotC C i).2 = r := ⟨_, rfl⟩
  rw [hr1, hr2, hr3]
  unfold slotC at hr1 hr2 hr3
  rw [hF] at hr1 hr2 hr3
  simp only at hr1 hr2 hr3
  cases hr : rangeB i 0 (x.2.lay.slots.length - 1) <;> rw [hr] at hr1 hr2 hr3
  · obtain rfl : (0 : Int) = r1 := hr1
    obtain rfl : (0 : Int) = r2 := hr2
    obtain rfl : (250 : Int) = r3 := hr3
    go_enter Try.func45, Try.ntmps45
    go_wp2_with fail
    refine HT.out.mono ?_
    rintro e w1 ⟨h1, hb1, rfl⟩
    have e0 := h1.fr.c0
    have e1 := h1.fr.c1
    have e2 := h1.fr.c2
    have e3 := h1.fr.c3
    have HS := lSlot_any h1.fr.slots hx.lay i
    rw [hr] at HS
    have HS := Hid.mk HS
    have HK := Hid.mk (fun w2 (q : Below w1.heap.size w1 w2) => And.intro (h1.keep q) (hb1.trans (q.mono hb1.size)))
    unfold layV at HS
    clear HT h h1 hb1 hr
    go_wp2_with fail
    refine HS.out.mono ?_
    rintro e w2 ⟨hb2, rfl⟩
    have HK2 := Hid.mk (HK.out _ hb2)
    clear HK hb2
    go_wp2_with fail
    refine bodyPost_ret (v := .tuple #[.int .i64 0, .int .i64 0, .int .i64 250]) (by simp [results, Try.results45, go_sem]) rfl ⟨HK2.out.1, HK2.out.2, rfl⟩
  · obtain rfl : x.2.base + i = r1 := hr1
    obtain rfl : x.2.lay.slots[i.toNat]?.getD 0 = r2 := hr2
    obtain rfl : (0 : Int) = r3 := hr3
    have hi : 0 ≤ i ∧ i ≤ (x.2.lay.slots.length : Int) - 1 := by simpa [rangeB] using hr
    go_enter Try.func45, Try.ntmps45
    go_wp2_with fail
    refine HT.out.mono ?_
    rintro e w1 ⟨h1, hb1, rfl⟩
    have e0 := h1.fr.c0
    have e1 := h1.fr.c1
    have e2 := h1.fr.c2
    have e3 := h1.fr.c3
    have e4 := h1.fr.c4
    have HS := lSlot_any h1.fr.slots hx.lay i
    rw [hr] at HS
    have HS := Hid.mk HS
    have HK := Hid.mk (fun w2 (q : Below w1.heap.size w1 w2) => And.intro (h1.keep q) (hb1.trans (q.mono hb1.size)))
    unfold layV at HS
    clear HT h h1 hb1 hr
    go_wp2_with fail
    refine HS.out.mono ?_
    rintro e w2 ⟨hb2, rfl⟩
    have d4 := keep_be hb2 e4
    have HK2 := Hid.mk (HK.out _ hb2)
    clear HK hb2
    go_wp2_with fail
    refine bodyPost_ret (v := .tuple #[.int .i64 (x.2.base + i), .int .i64 (x.2.lay.slots[i.toNat]?.getD 0), .int .i64 0]) (by simp [results, Try.results45, go_sem]) rfl ⟨HK2.out.1, HK2.out.2, rfl⟩
theorem frozen_al {W : World} {a : Addr} {o : Obj} {v : Bool} (h : W.frozen? a = v) (hl : a.block < W.heap.size) : (W.alloc o).frozen? a = v := (((Below.refl _ _).alloc (Nat.le_refl _) o).frozen hl).trans h
theorem slotC_er (hF : C.F = x.2 :: l.map Prod.snd) {i a t er : Int} (hs : slotC C i = ((a, t), er)) : er = 0 ∨ er = 250 := by
  unfold slotC at hs
  rw [hF] at hs
  simp only at hs
  split at hs <;> (simp only [Prod.mk.injEq] at hs; obtain ⟨-, rfl⟩ := hs; simp)
/-- a box of a value's, that a call fills at its end -/
theorem fill_box {W W1 : World} {u1 u2 : Value} {T : TypeId} (hb1 : Below (W.alloc (.cells #[u1, u2] T)).heap.size (W.alloc (.cells #[u1, u2] T)) W1) :
    W1.cell? ⟨W.heap.size, 0, none⟩ = some u1 ∧ W1.cell? ⟨W.heap.size, 1, none⟩ = some u2 ∧ (∀ j, W1.frozen? ⟨W.heap.size, j, none⟩ = false) ∧ Below W.heap.size W W1 ∧ W.heap.size < W1.heap.size := by
  have B1 := below_at hb1 (heap_alloc_new W _) (by simp)
  refine ⟨by rw [cell_of_row _ _ 0 _ _ _ B1]; rfl, by rw [cell_of_row _ _ 1 _ _ _ B1]; rfl, fun j => frozen_of_row _ _ j _ _ B1, (((Below.refl _ _).alloc (Nat.le_refl _) _).trans (hb1.mono (by simp))), lt_of_heap B1⟩
theorem cload_T (h : ChT w W b p k g c x l (spA p C.S :: F)) (hF : C.F = x.2 :: l.map Prod.snd) (ok : ChOk C) (i : Int) : Calls Try.prog 19 #[.pointer (some ⟨b, 0, none⟩), .int .i64 i] W fun e w' => ChT w w' b p k g c x l (spA p C.S :: F) ∧ Below W.heap.size W w' ∧ e = .returned (.tuple #[.agg #[.int .i64 (loadC C i).1.1, .int .i64 (loadC C i).1.2], .int .i64 (loadC C i).2]) := by
  have HB0 : Hid (Below W.heap.size W (W.alloc (.cells #[.int .i64 0, .int .i64 0] 34))) := (Below.refl _ _).alloc (Nat.le_refl _) _
  have HS := Hid.mk (cslot_T (h.keep HB0.out) hF ok i)
  have H0 := Hid.mk (fun W' (q : Below W.heap.size W W') => h.keep q)
  obtain ⟨⟨⟨r1, r2⟩, r3⟩, hr⟩ : ∃ r, loadC C i = r := ⟨_, rfl⟩
  rw [hr]
  unfold loadC at hr
  obtain ⟨⟨⟨a, t⟩, er⟩, hs⟩ : ∃ r, slotC C i = r := ⟨_, rfl⟩
  have her := slotC_er hF hs
  rw [hs] at HS hr
  clear hs h hF ok
  rcases her with rfl | rfl
  · rw [if_pos rfl] at hr
    obtain ⟨⟨⟨y1, y2⟩, ey⟩, hy⟩ : ∃ r, C.S.get a = r := ⟨_, rfl⟩
    rw [hy] at hr
    simp only [Prod.mk.injEq] at hr
    obtain ⟨⟨rfl, rfl⟩, rfl⟩ := hr
    go_enter Try.func19, Try.ntmps19
    go_wp2_with fail
    refine HS.out.mono ?_
    rintro e w1 ⟨h1, hb1, rfl⟩
    have k0 := h1.k0
    have HG := get_T h1 a
    rw [hy] at HG
    have HG := Hid.mk HG
    have HB1 := Hid.mk hb1
    clear HS h1 hb1
    go_wp2_with fail
    refine HG.out.mono ?_
    rintro e w2 ⟨-, hb2, rfl⟩
    obtain ⟨c0, c1, z, HB2, hlt⟩ := fill_box (HB1.out.trans (hb2.mono HB1.out.size))
    have d0 := fun o => alloc_cell (o := o) c0
    have d1 := fun o => alloc_cell (o := o) c1
    have z0 := fun o => frozen_al (o := o) (z 0) hlt
    have z1 := fun o => frozen_al (o := o) (z 1) hlt
    have HB2 := Hid.mk HB2
    clear HG hb2 HB1 c0 c1 z hlt HB0
    go_wp2_with fail
    have hB := ((HB2.out.alloc HB2.out.size (.cells #[.int .i64 y1, .int .i64 y2] 34)).setCell (p := ⟨W.heap.size, 0, none⟩) (Nat.le_refl _) (.int .i64 y1)).setCell (p := ⟨W.heap.size, 1, none⟩) (Nat.le_refl _) (.int .i64 y2)
    refine bodyPost_ret (v := .tuple #[.agg #[.int .i64 y1, .int .i64 y2], .int .i64 0]) ?_ rfl ⟨H0.out _ hB, hB, rfl⟩
    simp [results, Try.results19, go_sem, *]
  · rw [if_neg (by simp)] at hr
    simp only [Prod.mk.injEq] at hr
    obtain ⟨⟨rfl, rfl⟩, rfl⟩ := hr
    go_enter Try.func19, Try.ntmps19
    go_wp2_with fail
    refine HS.out.mono ?_
    rintro e w1 ⟨-, hb1, rfl⟩
    obtain ⟨c0, c1, z, HB2, hlt⟩ := fill_box hb1
    have z0 := z 0
    have z1 := z 1
    have HB2 := Hid.mk HB2
    clear HS hb1 HB0 z hlt
    go_wp2_with fail
    have hB := (HB2.out.setCell (p := ⟨W.heap.size, 0, none⟩) (Nat.le_refl _) (.int .i64 0)).setCell (p := ⟨W.heap.size, 1, none⟩) (Nat.le_refl _) (.int .i64 0)
    refine bodyPost_ret (v := .tuple #[.agg #[.int .i64 0, .int .i64 0], .int .i64 250]) ?_ rfl ⟨H0.out _ hB, hB, rfl⟩
    simp [results, Try.results19, go_sem, *]
theorem caddr_T (h : ChT w W b p k g c x l F) (hF : C.F = x.2 :: l.map Prod.snd) (ok : ChOk C) (i : Int) : Calls Try.prog 13 #[.pointer (some ⟨b, 0, none⟩), .int .i64 i] W fun e w' => ChT w w' b p k g c x l F ∧ Below W.heap.size W w' ∧ e = .returned (.tuple #[.agg #[.int .i64 (addrC C i).1.1, .int .i64 (addrC C i).1.2], .int .i64 (addrC C i).2]) := by
  have HB0 : Hid (Below W.heap.size W (W.alloc (.cells #[.int .i64 0, .int .i64 0] 34))) := (Below.refl _ _).alloc (Nat.le_refl _) _
  have HS := Hid.mk (cslot_T (h.keep HB0.out) hF ok i)
  have H0 := Hid.mk (fun W' (q : Below W.heap.size W W') => h.keep q)
  obtain ⟨⟨⟨r1, r2⟩, r3⟩, hr⟩ : ∃ r, addrC C i = r := ⟨_, rfl⟩
  rw [hr]
  unfold addrC at hr
  obtain ⟨⟨⟨a, t⟩, er⟩, hs⟩ : ∃ r, slotC C i = r := ⟨_, rfl⟩
  have her := slotC_er hF hs
  rw [hs] at HS hr
  clear hs h hF ok
  rcases her with rfl | rfl
  · rw [if_pos rfl] at hr
    by_cases q : t = 1
    · subst q
      rw [if_pos rfl] at hr
      simp only [Prod.mk.injEq] at hr
      obtain ⟨⟨rfl, rfl⟩, rfl⟩ := hr
      go_enter Try.func13, Try.ntmps13
      go_wp2_with fail
      refine HS.out.mono ?_
      rintro e w1 ⟨-, hb1, rfl⟩
      obtain ⟨c0, c1, z, HB2, hlt⟩ := fill_box hb1
      have z0 := z 0
      have z1 := z 1
      have HB2 := Hid.mk HB2
      clear HS hb1 HB0 z hlt
      go_wp2_with fail
      have hB := (HB2.out.setCell (p := ⟨W.heap.size, 0, none⟩) (Nat.le_refl _) (.int .i64 4)).setCell (p := ⟨W.heap.size, 1, none⟩) (Nat.le_refl _) (.int .i64 a)
      refine bodyPost_ret (v := .tuple #[.agg #[.int .i64 4, .int .i64 a], .int .i64 0]) ?_ rfl ⟨H0.out _ hB, hB, rfl⟩
      simp [results, Try.results13, go_sem, *]
    · have z9 : (t != 1) = true := by simpa using q
      rw [if_neg q] at hr
      simp only [Prod.mk.injEq] at hr
      obtain ⟨⟨rfl, rfl⟩, rfl⟩ := hr
      clear q
      go_enter Try.func13, Try.ntmps13
      go_wp2_with fail
      refine HS.out.mono ?_
      rintro e w1 ⟨-, hb1, rfl⟩
      obtain ⟨c0, c1, z, HB2, hlt⟩ := fill_box hb1
      have z0 := z 0
      have z1 := z 1
      have HB2 := Hid.mk HB2
      clear HS hb1 HB0 z hlt
      go_wp2_with fail
      have hB := (HB2.out.setCell (p := ⟨W.heap.size, 0, none⟩) (Nat.le_refl _) (.int .i64 0)).setCell (p := ⟨W.heap.size, 1, none⟩) (Nat.le_refl _) (.int .i64 0)
      refine bodyPost_ret (v := .tuple #[.agg #[.int .i64 0, .int .i64 0], .int .i64 250]) ?_ rfl ⟨H0.out _ hB, hB, rfl⟩
      simp [results, Try.results13, go_sem, *]
  · rw [if_neg (by simp)] at hr
    simp only [Prod.mk.injEq] at hr
    obtain ⟨⟨rfl, rfl⟩, rfl⟩ := hr
    go_enter Try.func13, Try.ntmps13
    go_wp2_with fail
    refine HS.out.mono ?_
    rintro e w1 ⟨-, hb1, rfl⟩
    obtain ⟨c0, c1, z, HB2, hlt⟩ := fill_box hb1
    have z0 := z 0
    have z1 := z 1
    have HB2 := Hid.mk HB2
    clear HS hb1 HB0 z hlt
    go_wp2_with fail
    have hB := (HB2.out.setCell (p := ⟨W.heap.size, 0, none⟩) (Nat.le_refl _) (.int .i64 0)).setCell (p := ⟨W.heap.size, 1, none⟩) (Nat.le_refl _) (.int .i64 0)
    refine bodyPost_ret (v := .tuple #[.agg #[.int .i64 0, .int .i64 0], .int .i64 250]) ?_ rfl ⟨H0.out _ hB, hB, rfl⟩
    simp [results, Try.results13, go_sem, *]
theorem cheight_T (h : ChT w W b p k g c x l F) (hl : l.length ≤ 1000) : Calls Try.prog 25 #[.pointer (some ⟨b, 0, none⟩)] W fun e w' => ChT w w' b p k g c x l F ∧ Below W.heap.size W w' ∧ e = .returned (.int .i64 x.2.ops) := by
  have HT := Hid.mk (ctop_some h hl)
  clear h hl
  go_enter Try.func25, Try.ntmps25
  go_wp2_with fail
  refine HT.out.mono ?_
  rintro e w1 ⟨h1, hb1, rfl⟩
  have e5 := h1.fr.c5
  have HK := Hid.mk (And.intro h1 hb1)
  clear HT h1 hb1
  go_wp2_with fail
  go_ret
  exact ⟨HK.out.1, HK.out.2, rfl⟩
theorem cstore_T (h : ChT w W b p k g c x l (spA p C.S :: A :: F)) (hF : C.F = x.2 :: l.map Prod.snd) (ok : ChOk C) (i : Int) (v : Int × Int) : Calls Try.prog 21 #[.pointer (some ⟨b, 0, none⟩), .int .i64 i, .agg #[.int .i64 v.1, .int .i64 v.2]] W fun e w' => ChT w w' b p k g c x l (spA p (storeC C i v).2.S :: A :: F) ∧ e = .returned (.int .i64 (storeC C i v).1) := by
  obtain ⟨v1, v2⟩ := v
  have hm := h.more (.cells #[.int .i64 v1, .int .i64 v2] 34)
  have HS := Hid.mk (cslot_T hm hF ok i)
  obtain ⟨⟨r, C'⟩, hr⟩ : ∃ r, storeC C i (v1, v2) = r := ⟨_, rfl⟩
  rw [hr]
  unfold storeC at hr
  obtain ⟨⟨⟨a, t⟩, er⟩, hs⟩ : ∃ r, slotC C i = r := ⟨_, rfl⟩
  have her := slotC_er hF hs
  rw [hs] at HS hr
  have HX : Hid (∀ {W' : World} {S' : Sp}, ChT w W' b p k g c x l (spA p S' :: A :: bx W.heap.size (.cells #[.int .i64 v1, .int .i64 v2] 34) :: F) → ChT w W' b p k g c x l (spA p S' :: A :: F) ∧ W'.cell? ⟨W.heap.size, 0, none⟩ = some (.int .i64 v1) ∧ W'.cell? ⟨W.heap.size, 1, none⟩ = some (.int .i64 v2)) := fun {W' S'} q => by
    have B := Sep.at q (b := W.heap.size) (o := .cells #[.int .i64 v1, .int .i64 v2] 34) (by simp)
    exact ⟨Sep.lose 5 q, by rw [cell_of_row _ _ 0 _ _ _ B]; rfl, by rw [cell_of_row _ _ 1 _ _ _ B]; rfl⟩
  clear hs h hF ok hm
  rcases her with rfl | rfl
  · rw [if_pos rfl] at hr
    by_cases q : v1 = t
    · subst q
      have f1 : (v1 != v1) = false := by simp
      cases hv : okV v1 v2
      · have hq : chk v1 v2 = 21 := by unfold chk; rw [hv]; rfl
        rw [if_neg (by simp [hv])] at hr
        simp only [Prod.mk.injEq] at hr
        obtain ⟨rfl, rfl⟩ := hr
        have HC := fun w1 => Hid.mk (check_any v1 v2 w1)
        rw [hq] at HC
        clear hv hq
        go_enter Try.func21, Try.ntmps21
        go_wp2_with fail
        refine HS.out.mono ?_
        rintro e w1 ⟨h1, -, rfl⟩
        obtain ⟨-, c0, c1⟩ := HX.out h1
        have H1 := Hid.mk h1
        clear HS h1
        go_wp2_with fail
        refine (HC w1).out.mono ?_
        rintro e w2 ⟨rfl, hb2⟩
        have H2 := Hid.mk (HX.out (H1.out.keep hb2)).1
        clear H1 hb2 HC HX
        go_wp2_with fail
        go_ret
        exact ⟨H2.out, rfl⟩
      · have hq : chk v1 v2 = 0 := by unfold chk; rw [hv]; rfl
        rw [if_pos ⟨rfl, hv⟩] at hr
        simp only [Prod.mk.injEq] at hr
        obtain ⟨rfl, rfl⟩ := hr
        have HC := fun w1 => Hid.mk (check_any v1 v2 w1)
        rw [hq] at HC
        clear hv hq
        go_enter Try.func21, Try.ntmps21
        go_wp2_with fail
        refine HS.out.mono ?_
        rintro e w1 ⟨h1, -, rfl⟩
        obtain ⟨-, c0, c1⟩ := HX.out h1
        have H1 := Hid.mk h1
        clear HS h1
        go_wp2_with fail
        refine (HC w1).out.mono ?_
        rintro e w2 ⟨rfl, hb2⟩
        have H2 := Hid.mk (H1.out.keep hb2)
        have k0 := H2.out.k0
        obtain ⟨-, d0, d1⟩ := HX.out H2.out
        clear H1 hb2 HC
        go_wp2_with fail
        go_region_held3 (fun X => X.cell? ⟨b, 0, none⟩ = some (.pointer (some ⟨p, 0, none⟩)) ∧ X.cell? ⟨W.heap.size, 0, none⟩ = some (.int .i64 v1) ∧ X.cell? ⟨W.heap.size, 1, none⟩ = some (.int .i64 v2)) (first | exact s9 | exact ⟨k0, d0, d1⟩) (first | (go_at_call 47; refine (put_T (H2.out.keep (Below.refl _ _).drew) a v1 v2).mono ?_; rintro e w3 ⟨h3, rfl⟩; have s9 := And.intro h3.k0 (HX.out h3).2))
        have H3 := Hid.mk (HX.out h3).1
        clear h3
        go_wp2_with fail
        go_ret
        exact ⟨H3.out, rfl⟩
    · have f1 : (v1 != t) = true := by simpa using q
      rw [if_neg (fun x => q x.1)] at hr
      simp only [Prod.mk.injEq] at hr
      obtain ⟨rfl, rfl⟩ := hr
      clear q
      go_enter Try.func21, Try.ntmps21
      go_wp2_with fail
      refine HS.out.mono ?_
      rintro e w1 ⟨h1, -, rfl⟩
      obtain ⟨H1, c0, c1⟩ := HX.out h1
      have H1 := Hid.mk H1
      clear HS h1 HX
      go_wp2_with fail
      go_ret
      exact ⟨H1.out, rfl⟩
  · rw [if_neg (by simp)] at hr
    simp only [Prod.mk.injEq] at hr
    obtain ⟨rfl, rfl⟩ := hr
    go_enter Try.func21, Try.ntmps21
    go_wp2_with fail
    refine HS.out.mono ?_
    rintro e w1 ⟨h1, -, rfl⟩
    have H1 := Hid.mk (HX.out h1).1
    clear HS h1 HX
    go_wp2_with fail
    go_ret
    exact ⟨H1.out, rfl⟩
end
end Go.Proofs.Ytpfnnmcokbolhaa
