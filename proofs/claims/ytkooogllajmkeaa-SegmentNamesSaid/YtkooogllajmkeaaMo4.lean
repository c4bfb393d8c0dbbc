/- Parts Sa Al Op Gr Pl, put together. -/
import Derived.Test.YtkooogllajmkeaaMo3
import Derived.Laws.StructEq
import Derived.Deep.QuietTactic
import Derived.BigQuiet
import Derived.LoopTactic
import Derived.Outline
import Derived.Deep.RegionHeld3
import Derived.Deep.AppendLies
import Derived.Deep.DeepCutAuto
import Derived.RegionTactic
import Derived.BigRegion
import Derived.Deep.Slices
import Derived.OpenShut
import Derived.ProofKit
/- Slices of pairs as they are read, and the contracts of the two functions Same. -/
namespace Go.Proofs.Ytkooogllajmkeaa
open Go.RowKit

/-- a slice of structs of two numbers reads as xs -/
def Rd (w : World) (v : Value) (xs : List (Int × Int)) : Prop :=
  (v = .slice none 0 0 ∧ xs = []) ∨ ∃ b o c, v = .slice (some ⟨b, o, none⟩) xs.length c ∧ b < w.heap.size ∧
    ∀ k (hk : k < xs.length), w.cell? ⟨b, o + k * 2, none⟩ = some (.int .i64 xs[k].1) ∧ w.cell? ⟨b, o + k * 2 + 1, none⟩ = some (.int .i64 xs[k].2)
theorem Rd.below {w w' : World} {v : Value} {xs : List (Int × Int)} (h : Rd w v xs) (k : Below w.heap.size w w') : Rd w' v xs := by
  rcases h with h | ⟨b, o, c, e, hb, hc⟩
  · exact .inl h
  · exact .inr ⟨b, o, c, e, Nat.lt_of_lt_of_le hb k.size, fun i hi => ⟨(k.cell (p := ⟨b, _, none⟩) hb).trans (hc i hi).1, (k.cell (p := ⟨b, _, none⟩) hb).trans (hc i hi).2⟩⟩
theorem Rd.of_row {w : World} {base T n : Nat} {v : Value} {xs : List (Int × Int)} (h : w.ownsRow base T 2 v n (wcells xs)) (hn : n = xs.length) : Rd w v xs := by
  subst hn
  rcases h.2 with ⟨rfl, h0⟩ | ⟨g, cap, cur, rfl, _, hg, _⟩
  · exact .inl ⟨rfl, List.eq_nil_of_length_eq_zero h0⟩
  · refine .inr ⟨g, 0, cap, rfl, lt_of_heap hg, fun k hk => ?_⟩
    rw [Nat.zero_add]
    exact ⟨row_cell h (wcells_fst hk), row_cell h (wcells_snd hk)⟩
def SamePost (xs ys : List (Int × Int)) (w : World) (e : Ending) (w' : World) : Prop := Below w.heap.size w w' ∧ e = .returned (.bool (decide (xs = ys)))

theorem Rd.shape {w : World} {v : Value} {xs : List (Int × Int)} (h : Rd w v xs) : ∃ ao c, v = .slice ao xs.length c := by
  rcases h with ⟨rfl, rfl⟩ | ⟨b, o, c, rfl, _⟩
  · exact ⟨none, 0, rfl⟩
  · exact ⟨_, _, rfl⟩
theorem Rd.some {w : World} {v : Value} {xs : List (Int × Int)} (h : Rd w v xs) (hx : 0 < xs.length) : ∃ b o c, v = .slice (some ⟨b, o, none⟩) xs.length c ∧ b < w.heap.size ∧
    ∀ k (hk : k < xs.length), w.cell? ⟨b, o + k * 2, none⟩ = some (.int .i64 xs[k].1) ∧ w.cell? ⟨b, o + k * 2 + 1, none⟩ = some (.int .i64 xs[k].2) := by
  rcases h with ⟨rfl, rfl⟩ | h
  · simp at hx
  · exact h
theorem ne_of_at {xs ys : List (Int × Int)} (k : Nat) (h1 : k < xs.length) (h2 : k < ys.length) (h : xs[k] ≠ ys[k]) : xs ≠ ys := by rintro rfl; exact h rfl
set_option maxRecDepth 100000 in
set_option maxHeartbeats 1000000 in
theorem same_Same02 {w : World} {u v : Value} {xs ys : List (Int × Int)} (hu : Rd w u xs) (hv : Rd w v ys) (hb : xs.length ≤ 4194304) : Calls Try.prog 25 #[u, v] w (SamePost xs ys w) := by
  by_cases hl : xs.length = ys.length
  · rcases Nat.eq_zero_or_pos xs.length with h0 | h0
    · obtain ⟨ao, c, rfl⟩ := hu.shape
      obtain ⟨bo, d, rfl⟩ := hv.shape
      rw [← hl, h0]
      have HE : Hid (xs = ys) := (List.eq_nil_of_length_eq_zero h0).trans (List.eq_nil_of_length_eq_zero (by omega)).symm
      clear hu hv hl h0
      go_enter Try.func25, Try.ntmps25
      go_wp2
      refine wp_loop_rounds 1 ?_; rw [rounds_succ]
      go_wp2
      go_ret
      exact ⟨Below.refl _ _, by rw [decide_eq_true HE.out]; rfl⟩
    · obtain ⟨b, o, c, rfl, hbl, hc⟩ := hu.some h0
      obtain ⟨b', o', c', rfl, hbl', hc'⟩ := hv.some (by omega)
      obtain ⟨n, hn⟩ : ∃ n, xs.length = n := ⟨_, rfl⟩
      have hn' : ys.length = n := by omega
      rw [hn, hn']
      have HN := Hid.mk hn
      have HN' := Hid.mk hn'
      clear hn hn' hl hu hv
      have hnb : n ≤ 4194304 := by rw [HN.out] at hb; exact hb
      clear hb h0
      go_enter Try.func25, Try.ntmps25
      go_wp2
      go_loopw [5] (fun i wr => ∃ k : Nat, i = .int .i64 k ∧ k ≤ n ∧ (∀ j (h1 : j < xs.length) (h2 : j < ys.length), j < k → xs[j] = ys[j]) ∧ Below w.heap.size w wr) (fun i _ => n - (intOf i).toNat)
      case atStart => exact ⟨0, rfl, by omega, fun _ _ _ q => absurd q (by omega), Below.refl _ _⟩
      case round =>
        obtain ⟨k, rfl, hk, heq, hbw⟩ := hrel
        by_cases hlt : k < n
        · have h1 : k < xs.length := by rw [HN.out]; exact hlt
          have h2 : k < ys.length := by rw [HN'.out]; exact hlt
          have c0 := (hbw.cell (p := ⟨b, o + k * 2, none⟩) hbl).trans (hc k h1).1
          have c1 := (hbw.cell (p := ⟨b, o + k * 2 + 1, none⟩) hbl).trans (hc k h1).2
          have d0 := (hbw.cell (p := ⟨b', o' + k * 2, none⟩) hbl').trans (hc' k h2).1
          have d1 := (hbw.cell (p := ⟨b', o' + k * 2 + 1, none⟩) hbl').trans (hc' k h2).2
          by_cases e : xs[k] = ys[k]
          · have f1 : (xs[k].1 == ys[k].1) = true := by simp [e]
            have f2 : (xs[k].2 == ys[k].2) = true := by simp [e]
            have HE : Hid (∀ j (h1 : j < xs.length) (h2 : j < ys.length), j < k + 1 → xs[j] = ys[j]) := by
              intro j h1 h2 hj
              rcases Nat.lt_or_ge j k with q | q
              · exact heq j h1 h2 q
              · obtain rfl : j = k := by omega
                exact e
            clear e heq
            go_wp2
            go_quiet (fail)
            go_wp2
            exact ⟨⟨k + 1, by go_num, by omega, HE.out, below_drewN hbw _⟩, by simp [intOf]; omega⟩
          · have HE := Hid.mk (ne_of_at k h1 h2 e)
            by_cases e1 : xs[k].1 = ys[k].1
            · have f1 : (xs[k].1 == ys[k].1) = true := by simp [e1]
              have f2 : (xs[k].2 == ys[k].2) = false := by simp; intro e2; exact e (Prod.ext e1 e2)
              clear e e1 heq
              go_wp2
              go_quiet (fail)
              go_wp2
              go_ret
              exact ⟨below_drewN hbw _, by rw [decide_eq_false HE.out]; rfl⟩
            · have f1 : (xs[k].1 == ys[k].1) = false := by simp [e1]
              clear e e1 heq
              go_wp2
              go_quiet (fail)
              go_wp2
              go_ret
              exact ⟨below_drewN hbw _, by rw [decide_eq_false HE.out]; rfl⟩
        · obtain rfl : k = n := by omega
          have HE : Hid (xs = ys) := by
            refine List.ext_getElem (by rw [HN.out, HN'.out]) fun j h1 h2 => heq j h1 h2 ?_
            rw [HN.out] at h1; exact h1
          clear heq
          go_wp2
          go_ret
          exact ⟨hbw, by rw [decide_eq_true HE.out]; rfl⟩
  · obtain ⟨ao, c, rfl⟩ := hu.shape
    obtain ⟨bo, d, rfl⟩ := hv.shape
    have HE : Hid (xs ≠ ys) := by rintro rfl; exact hl rfl
    have hne : ((xs.length : Int) != (ys.length : Int)) = true := by simp; omega
    clear hu hv hl
    go_enter Try.func25, Try.ntmps25
    go_wp2
    go_ret
    exact ⟨Below.refl _ _, by rw [decide_eq_false HE.out]; rfl⟩
set_option maxRecDepth 100000 in
set_option maxHeartbeats 1000000 in
theorem same_Same21 {w : World} {u v : Value} {xs ys : List (Int × Int)} (hu : Rd w u xs) (hv : Rd w v ys) (hb : xs.length ≤ 4194304) : Calls Try.prog 27 #[u, v] w (SamePost xs ys w) := by
  by_cases hl : xs.length = ys.length
  · rcases Nat.eq_zero_or_pos xs.length with h0 | h0
    · obtain ⟨ao, c, rfl⟩ := hu.shape
      obtain ⟨bo, d, rfl⟩ := hv.shape
      rw [← hl, h0]
      have HE : Hid (xs = ys) := (List.eq_nil_of_length_eq_zero h0).trans (List.eq_nil_of_length_eq_zero (by omega)).symm
      clear hu hv hl h0
      go_enter Try.func27, Try.ntmps27
      go_wp2
      refine wp_loop_rounds 1 ?_; rw [rounds_succ]
      go_wp2
      go_ret
      exact ⟨Below.refl _ _, by rw [decide_eq_true HE.out]; rfl⟩
    · obtain ⟨b, o, c, rfl, hbl, hc⟩ := hu.some h0
      obtain ⟨b', o', c', rfl, hbl', hc'⟩ := hv.some (by omega)
      obtain ⟨n, hn⟩ : ∃ n, xs.length = n := ⟨_, rfl⟩
      have hn' : ys.length = n := by omega
      rw [hn, hn']
      have HN := Hid.mk hn
      have HN' := Hid.mk hn'
      clear hn hn' hl hu hv
      have hnb : n ≤ 4194304 := by rw [HN.out] at hb; exact hb
      clear hb h0
      go_enter Try.func27, Try.ntmps27
      go_wp2
      go_loopw [5] (fun i wr => ∃ k : Nat, i = .int .i64 k ∧ k ≤ n ∧ (∀ j (h1 : j < xs.length) (h2 : j < ys.length), j < k → xs[j] = ys[j]) ∧ Below w.heap.size w wr) (fun i _ => n - (intOf i).toNat)
      case atStart => exact ⟨0, rfl, by omega, fun _ _ _ q => absurd q (by omega), Below.refl _ _⟩
      case round =>
        obtain ⟨k, rfl, hk, heq, hbw⟩ := hrel
        by_cases hlt : k < n
        · have h1 : k < xs.length := by rw [HN.out]; exact hlt
          have h2 : k < ys.length := by rw [HN'.out]; exact hlt
          have c0 := (hbw.cell (p := ⟨b, o + k * 2, none⟩) hbl).trans (hc k h1).1
          have c1 := (hbw.cell (p := ⟨b, o + k * 2 + 1, none⟩) hbl).trans (hc k h1).2
          have d0 := (hbw.cell (p := ⟨b', o' + k * 2, none⟩) hbl').trans (hc' k h2).1
          have d1 := (hbw.cell (p := ⟨b', o' + k * 2 + 1, none⟩) hbl').trans (hc' k h2).2
          by_cases e : xs[k] = ys[k]
          · have f1 : (xs[k].1 == ys[k].1) = true := by simp [e]
            have f2 : (xs[k].2 == ys[k].2) = true := by simp [e]
            have HE : Hid (∀ j (h1 : j < xs.length) (h2 : j < ys.length), j < k + 1 → xs[j] = ys[j]) := by
              intro j h1 h2 hj
              rcases Nat.lt_or_ge j k with q | q
              · exact heq j h1 h2 q
              · obtain rfl : j = k := by omega
                exact e
            clear e heq
            go_wp2
            go_quiet (fail)
            go_wp2
            exact ⟨⟨k + 1, by go_num, by omega, HE.out, below_drewN hbw _⟩, by simp [intOf]; omega⟩
          · have HE := Hid.mk (ne_of_at k h1 h2 e)
            by_cases e1 : xs[k].1 = ys[k].1
            · have f1 : (xs[k].1 == ys[k].1) = true := by simp [e1]
              have f2 : (xs[k].2 == ys[k].2) = false := by simp; intro e2; exact e (Prod.ext e1 e2)
              clear e e1 heq
              go_wp2
              go_quiet (fail)
              go_wp2
              go_ret
              exact ⟨below_drewN hbw _, by rw [decide_eq_false HE.out]; rfl⟩
            · have f1 : (xs[k].1 == ys[k].1) = false := by simp [e1]
              clear e e1 heq
              go_wp2
              go_quiet (fail)
              go_wp2
              go_ret
              exact ⟨below_drewN hbw _, by rw [decide_eq_false HE.out]; rfl⟩
        · obtain rfl : k = n := by omega
          have HE : Hid (xs = ys) := by
            refine List.ext_getElem (by rw [HN.out, HN'.out]) fun j h1 h2 => heq j h1 h2 ?_
            rw [HN.out] at h1; exact h1
          clear heq
          go_wp2
          go_ret
          exact ⟨hbw, by rw [decide_eq_true HE.out]; rfl⟩
  · obtain ⟨ao, c, rfl⟩ := hu.shape
    obtain ⟨bo, d, rfl⟩ := hv.shape
    have HE : Hid (xs ≠ ys) := by rintro rfl; exact hl rfl
    have hne : ((xs.length : Int) != (ys.length : Int)) = true := by simp; omega
    clear hu hv hl
    go_enter Try.func27, Try.ntmps27
    go_wp2
    go_ret
    exact ⟨Below.refl _ _, by rw [decide_eq_false HE.out]; rfl⟩
end Go.Proofs.Ytkooogllajmkeaa
namespace Go.Proofs.Ytkooogllajmkeaa
open Go.RowKit
set_option pp.deepTerms true
theorem seven_any (w : World) : Calls Try.prog 26 #[] w fun e w' => e = .returned (.agg #[.int .i64 1, .int .i64 7]) ∧ Below w.heap.size w w' := by
  go_enter Try.func26, Try.ntmps26
  go_wp2
  exact bodyPost_ret (v := .agg #[.int .i64 1, .int .i64 7]) (by simp [results, Try.results26, go_sem]) rfl ⟨rfl, (Below.refl _ _).alloc (Nat.le_refl _) _⟩

/-- a space that nobody made -/
theorem Spc.zero (w : World) : Spc (w.alloc (.cells #[.slice none 0 0, .int .i64 0] 27)) w.heap.size ⟨[], 0⟩ [w.heap.size] := by
  refine ⟨.slice none 0 0, [], ⟨heap_alloc_new w _, World.ownsRow_nil _ _ _ _, by simp, by simp [foot, Value.ownBlock]⟩, ⟨by simp, by simp, by simp, by simp, by simp⟩, rfl, by simp [foot, Value.ownBlock]⟩

namespace Al
def a0 : Sp := ⟨[], 0⟩
def a1 : Sp := ⟨[⟨1, [(0, 0), (0, 0), (0, 0)]⟩], 3⟩
def a2 : Sp := ⟨[⟨1, [(0, 0), (0, 0), (0, 0)]⟩, ⟨5, [(0, 0)]⟩], 5⟩
def a3 : Sp := ⟨[⟨1, [(0, 0), (0, 0), (1, 7)]⟩, ⟨5, [(0, 0)]⟩], 5⟩
def a4 : Sp := ⟨[⟨5, [(0, 0)]⟩], 5⟩
def a5 : Sp := ⟨[⟨5, [(0, 0)]⟩, ⟨7, [(0, 0), (0, 0)]⟩], 8⟩
theorem t0 : a0.take 3 = ((1, 0), a1) := by rfl
theorem t1 : a1.take 1 = ((5, 0), a2) := by rfl
theorem t2 : a2.put 3 (1, 7) = (0, a3) := by rfl
theorem t3 : a3.get 3 = ((1, 7), 0) := by rfl
theorem t4 : a3.get 2 = ((0, 0), 212) := by rfl
theorem t5 : a3.get 4 = ((0, 0), 210) := by rfl
theorem t6 : a3.let_ 1 = (0, a4) := by rfl
theorem t7 : a4.get 3 = ((0, 0), 210) := by rfl
theorem t8 : a4.take 2 = ((7, 0), a5) := by rfl
end Al

/-- a space of the call's own, in block p, made since w; E: other blocks of the call's own, with what they hold -/
def Loc (w : World) (p : Nat) (S : Sp) (E : List (Nat × Obj)) (W : World) : Prop := ∃ fs, Spc W p S fs ∧ (∀ b ∈ fs, w.heap.size ≤ b) ∧ Below w.heap.size w W ∧ ∀ x ∈ E, x.1 ∉ fs ∧ W.heap[x.1]? = some x.2

theorem Kp.to_below {w W W' : World} {fs : List Nat} (k : Kp fs W W') (hb : Below w.heap.size w W) (hf : ∀ b ∈ fs, w.heap.size ≤ b) : Below w.heap.size w W' :=
  hb.trans ⟨k.os, k.tape, k.output, k.size, fun i hi => k.block i (Nat.lt_of_lt_of_le hi hb.size) (fun q => by have := hf i q; omega)⟩
theorem Loc.stp {w W W' : World} {p : Nat} {S' : Sp} {E : List (Nat × Obj)} {fs : List Nat} (hf : ∀ b ∈ fs, w.heap.size ≤ b) (hb : Below w.heap.size w W) (hE : ∀ x ∈ E, x.1 ∉ fs ∧ W.heap[x.1]? = some x.2) (hs : Stp W p fs S' W') : Loc w p S' E W' := by
  obtain ⟨fs', h1, h2, h3⟩ := hs
  refine ⟨fs', h1, fun b hb' => (h3 b hb').elim (hf b) (fun q => Nat.le_trans hb.size q), h2.to_below hb hf, fun x hx => ⟨fun q => ?_, h2.at (hE x hx).2 (hE x hx).1⟩⟩
  rcases h3 _ q with q | q
  · exact (hE x hx).1 q
  · have := lt_of_heap (hE x hx).2; omega
theorem Loc.keep {w W W' : World} {p : Nat} {S : Sp} {E : List (Nat × Obj)} (h : Loc w p S E W) (k : Below W.heap.size W W') : Loc w p S E W' := by
  obtain ⟨fs, h1, h2, h3, h4⟩ := h
  exact ⟨fs, h1.below k, h2, h3.trans (k.mono h3.size), fun x hx => ⟨(h4 x hx).1, below_at k (h4 x hx).2 (lt_of_heap (h4 x hx).2)⟩⟩
theorem Loc.size {w W : World} {p : Nat} {S : Sp} {E : List (Nat × Obj)} (h : Loc w p S E W) : Below w.heap.size w W := let ⟨_, _, _, q, _⟩ := h; q
theorem Loc.zero (w : World) : Loc w w.heap.size ⟨[], 0⟩ [] (w.alloc (.cells #[.slice none 0 0, .int .i64 0] 27)) := ⟨_, Spc.zero w, by simp, (Below.refl _ _).alloc (Nat.le_refl _) _, by simp⟩
/-- a new block of the call's own -/
theorem Loc.alloc {w W : World} {p : Nat} {S : Sp} {E : List (Nat × Obj)} (h : Loc w p S E W) (o : Obj) : Loc w p S ((W.heap.size, o) :: E) (W.alloc o) := by
  have hk := h.keep ((Below.refl W.heap.size W).alloc (Nat.le_refl _) o)
  obtain ⟨fs, h1, h2, h3, h4⟩ := hk
  obtain ⟨fs0, q1, q2, q3, q4⟩ := h
  refine ⟨fs0, q1.below ((Below.refl W.heap.size W).alloc (Nat.le_refl _) o), q2, h3, fun x hx => ?_⟩
  rcases List.mem_cons.1 hx with rfl | hx
  · exact ⟨fun q => by have := q1.lt _ q; omega, heap_alloc_new W o⟩
  · exact ⟨(q4 x hx).1, (h4 x hx).2⟩
theorem Loc.box {w W : World} {p : Nat} {S : Sp} {E : List (Nat × Obj)} (h : Loc w p S E W) {b j : Nat} {cs : Array Value} {T : TypeId} {v : Value} (hm : (b, Obj.cells cs T (0, 0)) ∈ E) (hv : cs[j]? = some v) : W.cell? ⟨b, j, none⟩ = some v := by
  obtain ⟨fs, h1, h2, h3, h4⟩ := h
  rw [cell_of_row W b j _ _ _ (h4 _ hm).2, hv]
section
variable {w W : World} {p : Nat} {S S' : Sp} {E : List (Nat × Obj)}
theorem take_loc (h : Loc w p S E W) (m : Int) (hl : S.last ≤ 1152921504606846976) {r1 r2 : Int} (he : S.take m = ((r1, r2), S')) :
    Calls Try.prog 12 #[.pointer (some ⟨p, 0, none⟩), .int .i64 m] W fun e w' => Loc w p S' E w' ∧ e = .returned (.tuple #[.int .i64 r1, .int .i64 r2]) := by
  obtain ⟨fs, h1, h2, h3, h4⟩ := h
  refine (take_spc h1 m hl).mono ?_
  rw [he]
  rintro e w' ⟨hs, rfl⟩
  exact ⟨Loc.stp h2 h3 h4 hs, rfl⟩
theorem let_loc (h : Loc w p S E W) (a : Int) {r : Int} (he : S.let_ a = (r, S')) :
    Calls Try.prog 13 #[.pointer (some ⟨p, 0, none⟩), .int .i64 a] W fun e w' => Loc w p S' E w' ∧ e = .returned (.int .i64 r) := by
  obtain ⟨fs, h1, h2, h3, h4⟩ := h
  refine (let_spc h1 a).mono ?_
  rw [he]
  rintro e w' ⟨hs, rfl⟩
  exact ⟨Loc.stp h2 h3 h4 hs, rfl⟩
theorem put_loc (h : Loc w p S E W) (a t n : Int) {r : Int} (he : S.put a (t, n) = (r, S')) :
    Calls Try.prog 17 #[.pointer (some ⟨p, 0, none⟩), .int .i64 a, .agg #[.int .i64 t, .int .i64 n]] W fun e w' => Loc w p S' E w' ∧ e = .returned (.int .i64 r) := by
  obtain ⟨fs, h1, h2, h3, h4⟩ := h
  refine (put_spc h1 a t n).mono ?_
  rw [he]
  rintro e w' ⟨hs, rfl⟩
  exact ⟨Loc.stp h2 h3 h4 hs, rfl⟩
theorem drop_loc (h : Loc w p S E W) (a m : Int) {r : Int} (he : S.drop a m = (r, S')) :
    Calls Try.prog 18 #[.pointer (some ⟨p, 0, none⟩), .int .i64 a, .int .i64 m] W fun e w' => Loc w p S' E w' ∧ e = .returned (.int .i64 r) := by
  obtain ⟨fs, h1, h2, h3, h4⟩ := h
  refine (drop_spc h1 a m).mono ?_
  rw [he]
  rintro e w' ⟨hs, rfl⟩
  exact ⟨Loc.stp h2 h3 h4 hs, rfl⟩
theorem move_loc (h : Loc w p S E W) (b a m : Int) {r : Int} (he : S.move b a m = (r, S')) :
    Calls Try.prog 23 #[.pointer (some ⟨p, 0, none⟩), .int .i64 b, .int .i64 a, .int .i64 m] W fun e w' => Loc w p S' E w' ∧ e = .returned (.int .i64 r) := by
  obtain ⟨fs, h1, h2, h3, h4⟩ := h
  refine (move_spc h1 b a m).mono ?_
  rw [he]
  rintro e w' ⟨hs, rfl⟩
  exact ⟨Loc.stp h2 h3 h4 hs, rfl⟩
theorem get_loc (h : Loc w p S E W) (a : Int) {t n r : Int} (he : S.get a = ((t, n), r)) :
    Calls Try.prog 19 #[.pointer (some ⟨p, 0, none⟩), .int .i64 a] W fun e w' => Loc w p S E w' ∧ e = .returned (.tuple #[.agg #[.int .i64 t, .int .i64 n], .int .i64 r]) := by
  have h0 := h
  obtain ⟨fs, h1, h2, h3, h4⟩ := h
  refine (get_spc h1 a).mono ?_
  rw [he]
  rintro e w' ⟨hb, rfl⟩
  exact ⟨h0.keep hb, rfl⟩
theorem of_loc (h : Loc w p S E W) (a : Int) {b k : Int} {is : Bool} (he : S.of a = ((b, k), is)) :
    Calls Try.prog 15 #[.pointer (some ⟨p, 0, none⟩), .int .i64 a] W fun e w' => Loc w p S E w' ∧ e = .returned (.tuple #[.agg #[.int .i64 b, .int .i64 k], .bool is]) := by
  have h0 := h
  obtain ⟨fs, h1, h2, h3, h4⟩ := h
  refine (find_of h1 a).mono ?_
  rw [he]
  rintro e w' ⟨hb, rfl⟩
  exact ⟨h0.keep hb, rfl⟩
theorem run_loc_none (h : Loc w p S E W) (a m : Int) {r : Int} (he : S.run a m = (none, r)) :
    Calls Try.prog 24 #[.pointer (some ⟨p, 0, none⟩), .int .i64 a, .int .i64 m] W fun e w' => Loc w p S E w' ∧ e = .returned (.tuple #[.slice none 0 0, .int .i64 r]) := by
  have h0 := h
  obtain ⟨fs, h1, h2, h3, h4⟩ := h
  refine (run_spc h1 a m).mono ?_
  rw [he]
  rintro e w' ⟨hb, hr⟩
  exact ⟨h0.keep hb, hr⟩
theorem run_loc_some (h : Loc w p S E W) (a m : Int) {l : List (Int × Int)} {r : Int} (he : S.run a m = (some l, r)) :
    Calls Try.prog 24 #[.pointer (some ⟨p, 0, none⟩), .int .i64 a, .int .i64 m] W fun e w' => Loc w p S E w' ∧ ∃ v, Rd w' v l ∧ (∃ g c, v = .slice (some ⟨g, 0, none⟩) l.length c ∧ W.heap.size ≤ g) ∧ e = .returned (.tuple #[v, .int .i64 r]) := by
  have h0 := h
  obtain ⟨fs, h1, h2, h3, h4⟩ := h
  refine (run_spc h1 a m).mono ?_
  rw [he]
  rintro e w' ⟨hb, g, c, hrow, rfl⟩
  exact ⟨h0.keep hb, _, Rd.of_row hrow rfl, ⟨g, c, rfl, (hrow.lt g rfl).1⟩, rfl⟩
theorem live_loc (h : Loc w p S E W) {n : Nat} (he : total S.regs = n) :
    Calls Try.prog 16 #[.pointer (some ⟨p, 0, none⟩)] W fun e w' => Loc w p S E w' ∧ e = .returned (.int .i64 n) := by
  have h0 := h
  obtain ⟨fs, h1, h2, h3, h4⟩ := h
  refine (live_spc h1).mono ?_
  rw [he]
  rintro e w' ⟨rfl, hb⟩
  exact ⟨h0.keep hb, rfl⟩
theorem regions_loc (h : Loc w p S E W) {l : List (Int × Int)} (he : tells S.regs = l) :
    Calls Try.prog 14 #[.pointer (some ⟨p, 0, none⟩)] W fun e w' => Loc w p S E w' ∧ ∃ v, Rd w' v l ∧ e = .returned v := by
  have h0 := h
  obtain ⟨fs, h1, h2, h3, h4⟩ := h
  refine (regions_spc h1).mono ?_
  rw [he]
  rintro e w' ⟨hb, v, rfl, hrow, _⟩
  exact ⟨h0.keep hb, v, Rd.of_row hrow (by rw [← he]; simp [tells]), rfl⟩
end

set_option maxRecDepth 100000 in
set_option maxHeartbeats 1000000 in
theorem alive21_any (w : World) : Calls Try.prog 10 #[] w fun e w' => e = .returned (.bool true) ∧ Below w.heap.size w w' := by
  have h0 := Loc.zero w
  go_enter Try.func10, Try.ntmps10
  go_wp2_with fail
  refine (take_loc (w := w) (E := ?e1) ?h1 3 (by decide) Al.t0).mono ?k1
  case h1 => first | exact h0 | exact Loc.alloc h0 _ | exact Loc.alloc (Loc.alloc h0 _) _ | exact Loc.alloc (Loc.alloc (Loc.alloc h0 _) _) _
  rintro e w1 ⟨h1, rfl⟩
  clear h0; have h0 := h1; clear h1
  go_wp2_with fail
  refine (take_loc (w := w) (E := ?e2) ?h2 1 (by decide) Al.t1).mono ?k2
  case h2 => first | exact h0 | exact Loc.alloc h0 _ | exact Loc.alloc (Loc.alloc h0 _) _ | exact Loc.alloc (Loc.alloc (Loc.alloc h0 _) _) _
  rintro e w2 ⟨h1, rfl⟩
  clear h0; have h0 := h1; clear h1
  go_wp2_with fail
  refine (seven_any _).mono ?_
  rintro e w3 ⟨rfl, hb⟩
  have h1 := Loc.keep (p := w.heap.size) (by repeat (first | exact h0 | apply Loc.alloc)) hb
  clear h0 hb; have h0 := h1; clear h1
  go_wp2_with fail
  refine (put_loc (w := w) (E := ?e3) ?h3 3 1 7 Al.t2).mono ?k3
  case h3 => first | exact h0 | exact Loc.alloc h0 _ | exact Loc.alloc (Loc.alloc h0 _) _ | exact Loc.alloc (Loc.alloc (Loc.alloc h0 _) _) _
  rintro e w4 ⟨h1, rfl⟩
  clear h0; have h0 := h1; clear h1
  go_wp2_with fail
  refine (get_loc (w := w) (E := ?e4) ?h4 3 Al.t3).mono ?k4
  case h4 => first | exact h0 | exact Loc.alloc h0 _ | exact Loc.alloc (Loc.alloc h0 _) _ | exact Loc.alloc (Loc.alloc (Loc.alloc h0 _) _) _
  rintro e w5 ⟨h1, rfl⟩
  clear h0; have h0 := h1; clear h1
  go_wp2_with fail
  refine (get_loc (w := w) (E := ?e5) ?h5 2 Al.t4).mono ?k5
  case h5 => first | exact h0 | exact Loc.alloc h0 _ | exact Loc.alloc (Loc.alloc h0 _) _ | exact Loc.alloc (Loc.alloc (Loc.alloc h0 _) _) _
  rintro e w6 ⟨h1, rfl⟩
  clear h0; have h0 := h1; clear h1
  go_wp2_with fail
  refine (get_loc (w := w) (E := ?e6) ?h6 4 Al.t5).mono ?k6
  case h6 => first | exact h0 | exact Loc.alloc h0 _ | exact Loc.alloc (Loc.alloc h0 _) _ | exact Loc.alloc (Loc.alloc (Loc.alloc h0 _) _) _
  rintro e w7 ⟨h1, rfl⟩
  clear h0; have h0 := h1; clear h1
  go_wp2_with fail
  refine (let_loc (w := w) (E := ?e7) ?h7 1 Al.t6).mono ?k7
  case h7 => first | exact h0 | exact Loc.alloc h0 _ | exact Loc.alloc (Loc.alloc h0 _) _ | exact Loc.alloc (Loc.alloc (Loc.alloc h0 _) _) _
  rintro e w8 ⟨h1, rfl⟩
  clear h0; have h0 := h1; clear h1
  go_wp2_with fail
  refine (get_loc (w := w) (E := ?e8) ?h8 3 Al.t7).mono ?k8
  case h8 => first | exact h0 | exact Loc.alloc h0 _ | exact Loc.alloc (Loc.alloc h0 _) _ | exact Loc.alloc (Loc.alloc (Loc.alloc h0 _) _) _
  rintro e w9 ⟨h1, rfl⟩
  clear h0; have h0 := h1; clear h1
  go_wp2_with fail
  refine (take_loc (w := w) (E := ?e9) ?h9 2 (by decide) Al.t8).mono ?k9
  case h9 => first | exact h0 | exact Loc.alloc h0 _ | exact Loc.alloc (Loc.alloc h0 _) _ | exact Loc.alloc (Loc.alloc (Loc.alloc h0 _) _) _
  rintro e w10 ⟨h1, rfl⟩
  clear h0; have h0 := h1; clear h1
  have c00 := h0.box (j := 0) (List.Mem.head _) rfl
  have c01 := h0.box (j := 1) (List.Mem.head _) rfl
  have c10 := h0.box (j := 0) (List.Mem.tail _ (List.Mem.head _)) rfl
  have c11 := h0.box (j := 1) (List.Mem.tail _ (List.Mem.head _)) rfl
  have c20 := h0.box (j := 0) (List.Mem.tail _ (List.Mem.tail _ (List.Mem.head _))) rfl
  have c21 := h0.box (j := 1) (List.Mem.tail _ (List.Mem.tail _ (List.Mem.head _))) rfl
  have c30 := h0.box (j := 0) (List.Mem.tail _ (List.Mem.tail _ (List.Mem.tail _ (List.Mem.head _)))) rfl
  have c31 := h0.box (j := 1) (List.Mem.tail _ (List.Mem.tail _ (List.Mem.tail _ (List.Mem.head _)))) rfl
  have hz := h0.size
  go_wp2_with fail
  have hdr : Below w10.heap.size w10 w10.drew := (Below.refl _ _).drew
  have b0 := h0.keep hdr
  have e0 := b0.box (j := 0) (List.Mem.tail _ (List.Mem.tail _ (List.Mem.tail _ (List.Mem.head _)))) rfl
  have e1 := b0.box (j := 1) (List.Mem.tail _ (List.Mem.tail _ (List.Mem.tail _ (List.Mem.head _)))) rfl
  have ez := b0.size
  go_region_held3 (fun W => (W.cell? ⟨w5.heap.size, 0, none⟩ = some (.int .i64 1) ∧ W.cell? ⟨w5.heap.size, 1, none⟩ = some (.int .i64 7)) ∧ Below w.heap.size w W) (first | exact ⟨⟨e0, e1⟩, ez⟩ | exact ⟨⟨d0, d1⟩, hz⟩) (first | (go_at_call 26; refine (seven_any _).mono ?_; rintro e w11 ⟨rfl, hb11⟩; have h9 := b0.keep hb11; have hz := h9.size; have d0 := h9.box (j := 0) (List.Mem.tail _ (List.Mem.tail _ (List.Mem.tail _ (List.Mem.head _)))) rfl; have d1 := h9.box (j := 1) (List.Mem.tail _ (List.Mem.tail _ (List.Mem.tail _ (List.Mem.head _)))) rfl))
  all_goals
    go_wp2
    go_ret
    exact ⟨rfl, by assumption⟩
end Go.Proofs.Ytkooogllajmkeaa
/- The laws' operations: a slice of structs of six numbers, as it comes in. -/
namespace Go.Proofs.Ytkooogllajmkeaa
open Go.ChangeShapes Go.WideShapes Go.RowKit Go.Deep
theorem Try.cells31 : Try.prog.cellsOf 31 = 6 := by kernel_rfl
theorem Try.cells29 : Try.prog.cellsOf 29 = 2 := by kernel_rfl
theorem Try.cells3 : Try.prog.cellsOf 3 = 1 := by kernel_rfl
theorem Try.cells2 : Try.prog.cellsOf 2 = 1 := by kernel_rfl

/-- one operation -/
structure Opr where
  k : Int
  n : Int
  a : Int
  b : Int
  t : Int
  v : Int
def In64 (x : Int) : Prop := -9223372036854775808 ≤ x ∧ x ≤ 9223372036854775807
def OprOk (o : Opr) : Prop := In64 o.k ∧ In64 o.n ∧ In64 o.a ∧ In64 o.b ∧ In64 o.t ∧ In64 o.v
def Opr0 : Opr := ⟨0, 0, 0, 0, 0, 0⟩
instance : Inhabited Opr := ⟨Opr0⟩
def OprAt (w : World) (b o : Nat) (x : Opr) : Prop :=
  w.cell? ⟨b, o, none⟩ = some (.int .i64 x.k) ∧ w.cell? ⟨b, o + 1, none⟩ = some (.int .i64 x.n) ∧ w.cell? ⟨b, o + 2, none⟩ = some (.int .i64 x.a) ∧
    w.cell? ⟨b, o + 3, none⟩ = some (.int .i64 x.b) ∧ w.cell? ⟨b, o + 4, none⟩ = some (.int .i64 x.t) ∧ w.cell? ⟨b, o + 5, none⟩ = some (.int .i64 x.v)
/-- a slice of operations reads as os -/
def OpsAt (w : World) (v : Value) (os : List Opr) : Prop :=
  (∃ ao c, v = .slice ao os.length c) ∧ os.length ≤ maxLen ∧ (∀ x ∈ os, OprOk x) ∧ (0 < os.length → ∃ b o c, v = .slice (some ⟨b, o, none⟩) os.length c ∧ b < w.heap.size ∧
    ∀ i (hi : i < os.length), OprAt w b (o + i * 6) os[i])
theorem OprAt.below {w w' : World} {b o : Nat} {x : Opr} (h : OprAt w b o x) (k : Below w.heap.size w w') (hb : b < w.heap.size) : OprAt w' b o x := by
  obtain ⟨h0, h1, h2, h3, h4, h5⟩ := h
  exact ⟨(k.cell (p := ⟨b, _, none⟩) hb).trans h0, (k.cell (p := ⟨b, _, none⟩) hb).trans h1, (k.cell (p := ⟨b, _, none⟩) hb).trans h2, (k.cell (p := ⟨b, _, none⟩) hb).trans h3, (k.cell (p := ⟨b, _, none⟩) hb).trans h4, (k.cell (p := ⟨b, _, none⟩) hb).trans h5⟩
theorem OpsAt.below {w w' : World} {v : Value} {os : List Opr} (h : OpsAt w v os) (k : Below w.heap.size w w') : OpsAt w' v os := by
  obtain ⟨h1, h0, h2, h3⟩ := h
  refine ⟨h1, h0, h2, fun hp => ?_⟩
  obtain ⟨b, o, c, e, hb, hc⟩ := h3 hp
  exact ⟨b, o, c, e, Nat.lt_of_lt_of_le hb k.size, fun i hi => (hc i hi).below k hb⟩
theorem cell_lt {w : World} {a : Addr} {v : Value} (h : w.cell? a = some v) : a.block < w.heap.size := by
  unfold World.cell? at h
  rcases Nat.lt_or_ge a.block w.heap.size with h' | h'
  · exact h'
  · rw [Array.getElem?_eq_none h'] at h
    cases h
theorem in64_of_wf {n : Int} (h : (Lit.int .i64 n).wf = true) : In64 n := bounds_i64 h

set_option maxRecDepth 100000 in
theorem open_op {H : Type} {enc : TypeId × Value → H} {w : World} {base fuel : Nat} {spare : Nat → Bool} {held : Bool} {cs : List Value} {x : DataW H × List MemPlace}
    (h : DataW.trod enc Try.prog w base spare held fuel 31 cs = some x) (hl : cs.length = 6) :
    ∃ y : Opr, OprOk y ∧ cs = [.int .i64 y.k, .int .i64 y.n, .int .i64 y.a, .int .i64 y.b, .int .i64 y.t, .int .i64 y.v] := by
  obtain ⟨xs, n, _, _, _, hlen, hf⟩ := DataW.trod_struct Try.underlying31 h
  match cs, hl with
  | [v0, v1, v2, v3, v4, v5], _ =>
  match xs, hlen with
  | [y0, y1, y2, y3, y4], _ =>
  have f0 : DataW.trod enc Try.prog w base spare held n 3 (([v0, v1, v2, v3, v4, v5].drop 0).take (Try.prog.cellsOf 3)) = some y0 := hf 0 _ rfl
  have f1 : DataW.trod enc Try.prog w base spare held n 3 (([v0, v1, v2, v3, v4, v5].drop 1).take (Try.prog.cellsOf 3)) = some y1 := hf 1 _ rfl
  have f2 : DataW.trod enc Try.prog w base spare held n 2 (([v0, v1, v2, v3, v4, v5].drop 2).take (Try.prog.cellsOf 2)) = some y2 := hf 2 _ rfl
  have f3 : DataW.trod enc Try.prog w base spare held n 2 (([v0, v1, v2, v3, v4, v5].drop 3).take (Try.prog.cellsOf 2)) = some y3 := hf 3 _ rfl
  have f4 : DataW.trod enc Try.prog w base spare held n 29 (([v0, v1, v2, v3, v4, v5].drop 4).take (Try.prog.cellsOf 29)) = some y4 := hf 4 _ rfl
  rw [Try.cells3] at f0 f1
  rw [Try.cells2] at f2 f3
  rw [Try.cells29] at f4
  simp only [List.drop, List.take] at f0 f1 f2 f3 f4
  obtain ⟨k, e0, _, b0⟩ := DataW.trod_int Try.underlying3 f0
  obtain ⟨m, e1, _, b1⟩ := DataW.trod_int Try.underlying3 f1
  obtain ⟨a, e2, _, b2⟩ := DataW.trod_int Try.underlying2 f2
  obtain ⟨b, e3, _, b3⟩ := DataW.trod_int Try.underlying2 f3
  obtain ⟨zs, n', _, _, _, hlen', hf'⟩ := DataW.trod_struct Try.underlying29 f4
  match zs, hlen' with
  | [z0, z1], _ =>
  have g0 : DataW.trod enc Try.prog w base spare held n' 3 (([v4, v5].drop 0).take (Try.prog.cellsOf 3)) = some z0 := hf' 0 _ rfl
  have g1 : DataW.trod enc Try.prog w base spare held n' 2 (([v4, v5].drop 1).take (Try.prog.cellsOf 2)) = some z1 := hf' 1 _ rfl
  rw [Try.cells3] at g0
  rw [Try.cells2] at g1
  simp only [List.drop, List.take] at g0 g1
  obtain ⟨t, e4, _, b4⟩ := DataW.trod_int Try.underlying3 g0
  obtain ⟨v, e5, _, b5⟩ := DataW.trod_int Try.underlying2 g1
  simp only [List.cons.injEq, and_true] at e0 e1 e2 e3 e4 e5
  subst e0 e1 e2 e3 e4 e5
  exact ⟨⟨k, m, a, b, t, v⟩, ⟨in64_of_wf b0, in64_of_wf b1, in64_of_wf b2, in64_of_wf b3, in64_of_wf b4, in64_of_wf b5⟩, rfl⟩

set_option maxRecDepth 100000 in
theorem open_ops {H : Type} {enc : TypeId × Value → H} {w : World} {base : Nat} {spare : Nat → Bool} {held : Bool} {v : Value} {d : DataW H} {ps : List MemPlace} {r : Reach} {b0 : Nat}
    (hval : Value.okWide Try.prog w r b0 22 v) (h : DataW.Trod enc Try.prog w base spare held 22 v d ps) : ∃ os, OpsAt w v os := by
  obtain ⟨a0, l0, c0, rfl⟩ := okWide_slice Try.underlying22 hval
  obtain ⟨fuel, h⟩ := h
  rcases open_slice Try.underlying22 h with ⟨hcs, _⟩ | ⟨a, len, cap, m, n, D, Pl, hcs, hb, hl, hm, hmm, _, hx⟩
  · simp [Value.cells] at hcs
    obtain ⟨rfl, rfl, rfl⟩ := hcs
    exact ⟨[], ⟨none, 0, rfl⟩, by simp, by simp, by simp⟩
  · simp [Value.cells] at hcs
    obtain ⟨rfl, rfl, rfl⟩ := hcs
    have hlm : l0 ≤ m := by rw [hmm]; split <;> omega
    rcases Nat.eq_zero_or_pos l0 with h0 | h0
    · subst h0
      exact ⟨[], ⟨_, _, rfl⟩, by simp, by simp, by simp⟩
    obtain ⟨ab, ao, sq⟩ := a
    have hs : sq = none := by
      obtain ⟨cs, h1, h2⟩ := hx 0 (by omega)
      rw [Try.cells31] at h1
      obtain ⟨_, hlen, hcell⟩ := World.cells?_some h1
      obtain ⟨y, hy, rfl⟩ := open_op h2 hlen
      have c := hcell 0 (by omega)
      have := World.cell?_spot c
      simpa [Addr.add] using this
    subst hs
    have each : ∀ i, i < l0 → ∃ y : Opr, OprOk y ∧ OprAt w ab (ao + i * 6) y := by
      intro i hi
      obtain ⟨cs, h1, h2⟩ := hx i (by omega)
      rw [Try.cells31] at h1
      obtain ⟨_, hlen, hcell⟩ := World.cells?_some h1
      obtain ⟨y, hy, rfl⟩ := open_op h2 hlen
      have c0 := hcell 0 (by omega)
      have c1 := hcell 1 (by omega)
      have c2 := hcell 2 (by omega)
      have c3 := hcell 3 (by omega)
      have c4 := hcell 4 (by omega)
      have c5 := hcell 5 (by omega)
      rw [add_add, add_plain] at c0 c1 c2 c3 c4 c5
      exact ⟨y, hy, by simpa using c0, by simpa [Nat.add_assoc] using c1, by simpa [Nat.add_assoc] using c2, by simpa [Nat.add_assoc] using c3, by simpa [Nat.add_assoc] using c4, by simpa [Nat.add_assoc] using c5⟩
    obtain ⟨f, hf⟩ := choose_lt each
    refine ⟨(List.range l0).map f, ⟨some ⟨ab, ao, none⟩, c0, by simp⟩, by simp; omega, ?_, fun hp => ?_⟩
    · intro x hx
      obtain ⟨i, hi, rfl⟩ := List.mem_map.1 hx
      exact (hf i (List.mem_range.1 hi)).1
    · refine ⟨ab, ao, c0, by simp, cell_lt (hf 0 h0).2.1, fun i hi => ?_⟩
      have := (hf i (by simpa using hi)).2
      simpa using this
end Go.Proofs.Ytkooogllajmkeaa
/- Great: no operation asks for too much. -/
namespace Go.Proofs.Ytkooogllajmkeaa
open Go.RowKit
def Small (os : List Opr) : Prop := os.length ≤ 150 ∧ ∀ x ∈ os, x.k = 0 → x.n ≤ 200 ∨ 1048576 < x.n
def Bad (x : Opr) : Prop := x.k = 0 ∧ 200 < x.n ∧ x.n ≤ 1048576
instance (x : Opr) : Decidable (Bad x) := by unfold Bad; infer_instance
set_option maxRecDepth 100000 in
set_option maxHeartbeats 1000000 in
theorem great21_any {w : World} {v : Value} {os : List Opr} (h : OpsAt w v os) : Calls Try.prog 11 #[v] w fun e w' => Below w.heap.size w w' ∧ (e = .returned (.int .i64 1) ∨ e = .returned (.int .i64 0) ∧ Small os) := by
  obtain ⟨⟨ao, c, rfl⟩, hml, hok, hc⟩ := h
  clear hok
  have hmx : os.length ≤ 9223372036854775807 := by unfold maxLen at hml; omega
  clear hml
  obtain ⟨n, hn⟩ : ∃ n, os.length = n := ⟨_, rfl⟩
  have HN := Hid.mk hn
  have HC : Hid (∀ i (hi : i < os.length), ∃ b o, ao = some ⟨b, o, none⟩ ∧ b < w.heap.size ∧ OprAt w b (o + i * 6) os[i]) := by
    intro i hi
    obtain ⟨b, o, c', e, hb, ha⟩ := hc (by omega)
    simp only [Value.slice.injEq] at e
    exact ⟨b, o, e.1, hb, ha i hi⟩
  clear hc
  rw [hn] at hmx ⊢
  clear hn
  go_enter Try.func11, Try.ntmps11
  go_wp2
  go_loopw [6] (fun i wr => ∃ k : Nat, i = .int .i64 k ∧ k ≤ n ∧ Hid (∀ j (h1 : j < os.length), j < k → ¬ Bad os[j]) ∧ Below w.heap.size w wr) (fun i _ => n - (intOf i).toNat)
  case atStart => exact ⟨0, rfl, by omega, fun _ _ q => absurd q (by omega), Below.refl _ _⟩
  case round =>
    obtain ⟨k, rfl, hk, HB, hbw⟩ := hrel
    by_cases hlt : k < n
    · have h1 : k < os.length := by rw [HN.out]; exact hlt
      obtain ⟨b, o, rfl, hbl, a0, a1, -⟩ := HC.out k h1
      have c0 := (hbw.cell (p := ⟨b, o + k * 6, none⟩) hbl).trans a0
      have c1 := (hbw.cell (p := ⟨b, o + k * 6 + 1, none⟩) hbl).trans a1
      clear a0 a1
      obtain ⟨x, hx⟩ : ∃ x, x = os[k] := ⟨_, rfl⟩
      by_cases hbad : Bad x
      · have hq0 : x.k = 0 := hbad.1
        have hq1 : 200 < x.n := hbad.2.1
        have hq2 : x.n ≤ 1048576 := hbad.2.2
        rw [← hx, hq0] at c0
        rw [← hx] at c1
        clear hx hbad hq0
        obtain ⟨y, rfl⟩ : ∃ y, y = x.n := ⟨_, rfl⟩
        go_wp2
        go_ret
        exact ⟨hbw, .inl rfl⟩
      · have HB' : Hid (∀ j (h1 : j < os.length), j < k + 1 → ¬ Bad os[j]) := by
          intro j h1 hj
          rcases Nat.lt_or_ge j k with q | q
          · exact HB.out j h1 q
          · obtain rfl : j = k := by omega
            rw [← hx]; exact hbad
        rw [← hx] at c0 c1
        clear hx HB
        by_cases hq0 : x.k = 0
        · by_cases hq1 : 200 < x.n
          · have hq2 : 1048576 < x.n := by unfold Bad at hbad; omega
            clear hbad
            rw [hq0] at c0
            clear hq0
            go_wp2
            exact ⟨⟨k + 1, by go_num, by omega, HB', hbw⟩, by simp [intOf]; omega⟩
          · clear hbad
            rw [hq0] at c0
            clear hq0
            go_wp2
            exact ⟨⟨k + 1, by go_num, by omega, HB', hbw⟩, by simp [intOf]; omega⟩
        · clear hbad
          go_wp2
          exact ⟨⟨k + 1, by go_num, by omega, HB', hbw⟩, by simp [intOf]; omega⟩
    · obtain rfl : k = n := by omega
      by_cases hq : k ≤ 150
      · have HS : Hid (Small os) := by
          refine ⟨by rw [HN.out]; exact hq, fun x hx h0 => ?_⟩
          obtain ⟨j, hj, rfl⟩ := List.mem_iff_getElem.1 hx
          have := HB.out j hj (by rw [HN.out] at hj; exact hj)
          unfold Bad at this
          omega
        clear HB HC
        go_wp2
        go_ret
        exact ⟨hbw, .inr ⟨rfl, HS.out⟩⟩
      · clear HB HC
        go_wp2
        go_ret
        exact ⟨hbw, .inl rfl⟩
end Go.Proofs.Ytkooogllajmkeaa
/- What the laws ask of a space, in plain words. -/
namespace Go.Proofs.Ytkooogllajmkeaa
open Go.RowKit

def Spok (S : Sp) : Prop := ∃ ls : List LReg, S.regs = ls.map LReg.reg ∧ RegsOk S.last ls
theorem Spc.ok {w : World} {p : Nat} {S : Sp} {fs : List Nat} (h : Spc w p S fs) : Spok S := let ⟨_, ls, _, ok, hr, _⟩ := h; ⟨ls, hr, ok⟩
theorem Loc.ok {w W : World} {p : Nat} {S : Sp} {E : List (Nat × Obj)} (h : Loc w p S E W) : Spok S := let ⟨_, h1, _⟩ := h; h1.ok
theorem Spok.last0 {S : Sp} (h : Spok S) : 0 ≤ S.last := let ⟨_, _, ok⟩ := h; ok.last0
theorem Spok.last1 {S : Sp} (h : Spok S) : S.last ≤ 2305843009213693952 := let ⟨_, _, ok⟩ := h; ok.last1
theorem tells_len (rs : List Reg) : (tells rs).length = rs.length := by simp [tells]
theorem tells_get {rs : List Reg} {i : Nat} (hi : i < (tells rs).length) : ∃ h : i < rs.length, (tells rs)[i] = (rs[i].base, (rs[i].words.length : Int)) := ⟨by simpa [tells] using hi, by simp [tells]⟩

theorem tells_at {S : Sp} (h : Spok S) {i : Nat} (hi : i < (tells S.regs).length) :
    1 ≤ (tells S.regs)[i].1 ∧ 1 ≤ (tells S.regs)[i].2 ∧ (tells S.regs)[i].1 + (tells S.regs)[i].2 ≤ S.last + 1 ∧
    S.of (tells S.regs)[i].1 = ((tells S.regs)[i], true) ∧ S.of ((tells S.regs)[i].1 + (tells S.regs)[i].2 - 1) = ((tells S.regs)[i], true) := by
  obtain ⟨hr, e⟩ := tells_get hi
  obtain ⟨ls, hl, ok⟩ := h
  have hil : i < ls.length := by rw [hl] at hr; simpa using hr
  have er : S.regs[i] = ls[i].reg := by simp [hl]
  rw [e, er]
  obtain ⟨l1, l2, l3, l4⟩ := ok.lo ls[i] (List.getElem_mem hil)
  have q0 := loc_at ok hil (j := 0) (m := 1) (by omega) (by omega)
  have q1 := loc_at ok hil (j := ls[i].words.length - 1) (m := 1) (by omega) (by omega)
  have ea : ls[i].base + ((ls[i].words.length - 1 : Nat) : Int) = ls[i].base + (ls[i].words.length : Int) - 1 := by omega
  rw [ea] at q1
  simp only [Int.natCast_zero, Int.add_zero] at q0
  refine ⟨l1, by simp only [LReg.reg]; omega, by simpa [LReg.reg] using l4, ?_, ?_⟩
  · unfold Sp.of
    rw [hl]
    simp only [LReg.reg] at q0 ⊢
    rw [q0]
    simp [hil, wordsAt, LReg.reg]
  · unfold Sp.of
    rw [hl]
    simp only [LReg.reg] at q1 ⊢
    rw [q1]
    simp [hil, wordsAt, LReg.reg]
theorem tells_sep {S : Sp} (h : Spok S) {i : Nat} (hi : i + 1 < (tells S.regs).length) : (tells S.regs)[i].1 + (tells S.regs)[i].2 < (tells S.regs)[i + 1].1 := by
  obtain ⟨hr, e⟩ := tells_get hi
  obtain ⟨hr', e'⟩ := tells_get (rs := S.regs) (i := i) (by omega)
  obtain ⟨ls, hl, ok⟩ := h
  rw [e, e']
  have hil : i + 1 < ls.length := by rw [hl] at hr; simpa using hr
  have er : S.regs[i] = ls[i].reg := by simp [hl]
  have er' : S.regs[i + 1] = ls[i + 1].reg := by simp [hl]
  rw [er, er']
  have := List.pairwise_iff_getElem.1 ok.sep i (i + 1) (by omega) hil (by omega)
  simpa [LReg.reg] using this
def sumTo (l : List (Int × Int)) (i : Nat) : Int := ((l.take i).map (·.2)).sum
theorem sumTo_zero (l : List (Int × Int)) : sumTo l 0 = 0 := by simp [sumTo]
theorem sumTo_succ {l : List (Int × Int)} {i : Nat} (hi : i < l.length) : sumTo l (i + 1) = sumTo l i + l[i].2 := by
  rw [sumTo, List.take_succ_eq_append_getElem hi, List.map_append, List.sum_append]
  simp [sumTo]
theorem sumTo_all (rs : List Reg) : sumTo (tells rs) (tells rs).length = (total rs : Int) := by
  unfold sumTo
  rw [List.take_length]
  induction rs with
  | nil => rfl
  | cons r rs ih =>
    simp only [tells, total, List.map_cons, List.sum_cons] at ih ⊢
    rw [ih]
    simp
theorem sumTo_le {S : Sp} (h : Spok S) : ∀ {i : Nat}, i ≤ (tells S.regs).length → 0 ≤ sumTo (tells S.regs) i ∧ sumTo (tells S.regs) i ≤ 4194304 := by
  have h1 : ∀ d i : Nat, i + d = (tells S.regs).length → sumTo (tells S.regs) i ≤ (total S.regs : Int) := by
    intro d
    induction d with
    | zero => intro i hi; rw [← sumTo_all, ← hi]; exact Int.le_refl _
    | succ d ih =>
      intro i hi
      have h2 := ih (i + 1) (by omega)
      rw [sumTo_succ (by omega)] at h2
      have := (tells_at h (i := i) (by omega)).2.1
      omega
  have h0 : ∀ i : Nat, i ≤ (tells S.regs).length → 0 ≤ sumTo (tells S.regs) i := by
    intro i
    induction i with
    | zero => intro _; rw [sumTo_zero]; exact Int.le_refl _
    | succ i ih =>
      intro hi
      rw [sumTo_succ (by omega)]
      have := (tells_at h (i := i) (by omega)).2.1
      have := ih (by omega)
      omega
  intro i hi
  refine ⟨h0 i hi, Int.le_trans (h1 ((tells S.regs).length - i) i (by omega)) ?_⟩
  obtain ⟨ls, hl, ok⟩ := h
  rw [hl, total_map]
  have q := ok.live
  unfold tot
  omega
theorem tells_count {S : Sp} (h : Spok S) : (tells S.regs).length ≤ 4194304 := by
  obtain ⟨ls, hl, ok⟩ := h
  rw [hl, tells_len, List.length_map]
  exact ok.count
/-- what a Take that answers is -/
theorem take_cases (S : Sp) (m : Int) : (S.take m = ((0, 211), S)) ∨ (1 ≤ m ∧ m ≤ 1048576 ∧ S.take m = ((nextBase S.last, 0), (S.take m).2) ∧ (S.take m).2.last = nextBase S.last + m - 1) := by
  by_cases h : m < 1 ∨ 1048576 < m ∨ 4194304 < (total S.regs : Int) + m
  · exact .inl (by unfold Sp.take; rw [if_pos h])
  · have e : S.take m = ((nextBase S.last, 0), ⟨S.regs ++ [⟨nextBase S.last, List.replicate m.toNat (0, 0)⟩], nextBase S.last + m - 1⟩) := by unfold Sp.take; rw [if_neg h]
    exact .inr ⟨by omega, by omega, by rw [e], by rw [e]⟩
theorem let_last (S : Sp) (a : Int) : (S.let_ a).2.last = S.last := by unfold Sp.let_; split <;> rfl
end Go.Proofs.Ytkooogllajmkeaa
