/- Parts Ge Gf Gg, put together. -/
import Derived.Test.YtpfnnmcokbolhaaMe4
/- slices.Backward over told regions: the iterator's contract for whatever loop. -/
namespace Go.Proofs.Ytpfnnmcokbolhaa
open Go.RowKit Go.Shelf
attribute [local go_sem] Oper.semAt_some
set_option pp.deepTerms true
def benc (xs : List (Int × Int)) (x : Fin xs.length) : Array Value := #[.int .i64 x.1, .agg #[.int .i64 xs[x.1].1, .int .i64 xs[x.1].2]]
/-- all places, the last one first -/
def rev (n : Nat) : List (Fin n) := (List.finRange n).reverse
theorem rev_len (n : Nat) : (rev n).length = n := by simp [rev]
theorem rev_at {n k : Nat} (hk : k < n) : (rev n)[n - (k + 1)]'(by rw [rev_len]; omega) = ⟨k, hk⟩ := by
  unfold rev
  rw [List.getElem_reverse]
  simp only [List.length_finRange, List.getElem_finRange]
  ext
  simp
  omega
theorem rev_take {n k : Nat} (hk : k < n) : (rev n).take (n - k) = (rev n).take (n - (k + 1)) ++ [⟨k, hk⟩] := by
  rw [show n - k = n - (k + 1) + 1 by omega, List.take_succ_eq_append_getElem (by rw [rev_len]; omega), rev_at hk]
set_option maxRecDepth 100000 in
set_option maxHeartbeats 2000000 in
theorem backward1_in (n : Nat) (hn : 1 ≤ n) (l Bs n₀ cap : Nat) (ao : Option Addr) (xs : List (Int × Int)) (hcnt : xs.length ≤ 4194304) (J Jx : List (Fin xs.length) → World → Prop) (B0 : Nat) (hJ : AbidesFrom B0 J)
    (hY : ∀ pre x W, J pre W → pre.length < xs.length → YieldAt Fence.wide (n - 1) Try.prog l (benc xs x) W fun e W' =>
      (e = .returned (.bool true) ∧ J (pre ++ [x]) W' ∧ Below n₀ W W') ∨ (e = .returned (.bool false) ∧ Jx (pre ++ [x]) W'))
    (W : World) (hBs : W.cell? ⟨Bs, 0, none⟩ = some (.slice ao xs.length cap)) (hc : ∀ j (hj : j < xs.length), ∃ g, ao = some ⟨g, 0, none⟩ ∧ g < n₀ ∧ W.cell? ⟨g, j * 2, none⟩ = some (.int .i64 xs[j].1) ∧ W.cell? ⟨g, j * 2 + 1, none⟩ = some (.int .i64 xs[j].2))
    (hB : Bs < n₀) (hn0 : n₀ ≤ W.heap.size) (h0 : J [] W) :
    CallsIn Fence.wide n Try.prog 104 #[.func (.yield l) #[] #[], .pointer (some ⟨Bs, 0, none⟩)] W fun e W' => (∃ v, e = .returned v) ∧
      ((∃ ys, ys = rev xs.length ∧ J ys W') ∨ (∃ pre, pre <+: rev xs.length ∧ Jx pre W')) := by
  have w1 : IntKind.i64.wrap ((xs.length : Int) - 1) = (xs.length : Int) - 1 := by rw [IntKind.wrap_i64]; omega
  refine callsIn_of_wp Try.func104 rfl trivial ?_ rfl
  simp only [Try.ntmps104, List.size_toArray, List.length_cons, List.length_nil, Nat.reduceAdd, Nat.reduceSub, Array.replicate_succ, Array.replicate_zero, List.push_toArray, List.append_toArray, List.nil_append, List.cons_append]
  gi_wp2
  gi_loopw [3] (fun i wr => ∃ k : Nat, k ≤ xs.length ∧ i = .int .i64 ((k : Int) - 1) ∧ J ((rev xs.length).take (xs.length - k)) wr ∧ Below n₀ W wr)
    (fun i _ => (intOf i + 1).toNat)
  case atStart => exact ⟨xs.length, Nat.le_refl _, rfl, by simpa using h0, Below.refl _ _⟩
  case round =>
    clear w1
    obtain ⟨k, hk, rfl, hJs, hnx⟩ := hrel
    have c0 := (hnx.cell (p := ⟨Bs, 0, none⟩) hB).trans hBs
    rcases Nat.eq_zero_or_pos k with h0k | h0k
    · subst h0k
      gi_wp2
      go_end0
      exact ⟨⟨_, rfl⟩, .inl ⟨_, rfl, by have q := hJs; rw [List.take_of_length_le (by rw [rev_len]; omega)] at q; exact q⟩⟩
    · obtain ⟨m, rfl⟩ : ∃ m, k = m + 1 := ⟨k - 1, by omega⟩
      have hm : m < xs.length := by omega
      obtain ⟨g, rfl, hg, e0, e1⟩ := hc m hm
      have d0 := (hnx.cell (p := ⟨g, m * 2, none⟩) hg).trans e0
      have d1 := (hnx.cell (p := ⟨g, m * 2 + 1, none⟩) hg).trans e1
      have z1 : (((m + 1 : Nat) : Int) - 1) = (m : Int) := by omega
      rw [z1]
      have z2 : decide ((m : Int) ≥ 0) = true := by simp
      have HY := Hid.mk (hY _ ⟨m, hm⟩ _ hJs (by rw [List.length_take, rev_len]; omega))
      obtain ⟨fn, tmps, assign, body, hyy, hR⟩ := HY.out
      unfold benc at hyy
      clear z1 hc hY
      gi_wp2
      refine hR.mono ?_
      have hsz := hnx.size
      rintro e W3 (⟨rfl, hJ3, hk3⟩ | ⟨rfl, hJx3⟩)
      · have w2 : IntKind.i64.wrap ((m : Int) - 1) = (m : Int) - 1 := by rw [IntKind.wrap_i64]; omega
        gi_wp2
        go_roundw
        case rel => exact ⟨m, by omega, rfl, by rw [rev_take hm]; exact hJ3, hnx.trans hk3⟩
        case measure => simp [intOf]
      · gi_wp2
        refine bodyPost_ret (results_none rfl _ _ _) rfl ?_
        exact ⟨⟨_, rfl⟩, .inr ⟨_, by rw [← rev_take hm]; exact List.take_prefix _ _, hJx3⟩⟩
theorem backward_stops (n : Nat) (hn : 1 ≤ n) (Bs n₀ cap : Nat) (ao : Option Addr) (xs : List (Int × Int)) (hcnt : xs.length ≤ 4194304) (w : World) (hn₀ : n₀ ≤ w.heap.size)
    (hBs : w.cell? ⟨Bs, 0, none⟩ = some (.slice ao xs.length cap)) (hc : ∀ j (hj : j < xs.length), ∃ g, ao = some ⟨g, 0, none⟩ ∧ g < n₀ ∧ w.cell? ⟨g, j * 2, none⟩ = some (.int .i64 xs[j].1) ∧ w.cell? ⟨g, j * 2 + 1, none⟩ = some (.int .i64 xs[j].2)) (hB : Bs < n₀) :
    SeqStopsK Fence.wide n Try.prog 104 #[.pointer (some ⟨Bs, 0, none⟩)] (benc xs) (Below n₀) (fun ys => ys = rev xs.length) (fun pre => pre <+: rev xs.length) xs.length w := fun l J Jx W hW hJ _ hY h0 => by
  refine backward1_in n hn l Bs n₀ cap ao xs hcnt J Jx _ hJ hY W ((hW.cell (p := ⟨Bs, 0, none⟩) (Nat.lt_of_lt_of_le hB hn₀)).trans hBs) (fun j hj => ?_) hB (Nat.le_trans hn₀ hW.size) h0
  obtain ⟨g, e, hg, e0, e1⟩ := hc j hj
  exact ⟨g, e, hg, (hW.cell (p := ⟨g, j * 2, none⟩) (Nat.lt_of_lt_of_le hg hn₀)).trans e0, (hW.cell (p := ⟨g, j * 2 + 1, none⟩) (Nat.lt_of_lt_of_le hg hn₀)).trans e1⟩
theorem backward_in (n : Nat) (ao : Option Addr) (ln c : Nat) (w : World) :
    CallsIn Fence.wide n Try.prog 93 #[.slice ao ln c] w fun e w' => e = .returned (.func (.func 104) #[] #[.pointer (some ⟨w.heap.size, 0, none⟩)]) ∧ w' = w.alloc (.cells #[.slice ao ln c] 60) := by
  refine callsIn_of_wp Try.func93 rfl trivial ?_ rfl
  simp only [Try.ntmps93, List.size_toArray, List.length_cons, List.length_nil, Nat.reduceAdd, Nat.reduceSub, Array.replicate_succ, Array.replicate_zero, List.push_toArray, List.append_toArray, List.nil_append, List.cons_append]
  gi_wp2
  go_ret
  exact ⟨rfl, rfl⟩
theorem downwards_in (n : Nat) (hn : 1 ≤ n) {b o : Nat} {ao : Option Addr} {ln c : Nat} (w : World) (hc : w.cell? ⟨b, o, none⟩ = some (.slice ao ln c)) :
    CallsIn Fence.wide n Try.prog 81 #[.pointer (some ⟨b, o, none⟩)] w fun e w' => e = .returned (.func (.func 104) #[] #[.pointer (some ⟨w.heap.size, 0, none⟩)]) ∧ w' = w.alloc (.cells #[.slice ao ln c] 60) := by
  have hfn : ∀ k, Fence.wide.fn k := fun _ => trivial
  refine callsIn_of_wp Try.func81 rfl trivial ?_ rfl
  simp only [Try.ntmps81, List.size_toArray, List.length_cons, List.length_nil, Nat.reduceAdd, Nat.reduceSub, Array.replicate_succ, Array.replicate_zero, List.push_toArray, List.append_toArray, List.nil_append, List.cons_append]
  gi_wp2_with (gi_at_call 93; refine (backward_in (n - 1) _ _ _ _).mono ?_; rintro e w' ⟨rfl, rfl⟩)
  go_ret
  exact ⟨rfl, rfl⟩
end Go.Proofs.Ytpfnnmcokbolhaa
/- The kept segment that is taken: the last one that has so many words. -/
namespace Go.Proofs.Ytpfnnmcokbolhaa
open Go.RowKit Go.Shelf
set_option pp.deepTerms true
attribute [local go_sem] Oper.semAt_some
/-- the last place whose segment has so many words -/
def fitAt (xs : List (Int × Int)) (m : Int) : Option Nat := ((rev xs.length).find? (fun i => decide (m ≤ xs[i.1].2))).map (·.1)
theorem fit_none {xs : List (Int × Int)} {m : Int} (h : ∀ x ∈ rev xs.length, ¬ m ≤ xs[x.1].2) : fitAt xs m = none := by
  unfold fitAt
  rw [List.find?_eq_none.2 (fun x hx => by simpa using h x hx)]
  rfl
theorem fit_some {xs : List (Int × Int)} {m : Int} {pre : List (Fin xs.length)} {x : Fin xs.length} (hp : pre ++ [x] <+: rev xs.length) (hno : ∀ y ∈ pre, ¬ m ≤ xs[y.1].2) (hx : m ≤ xs[x.1].2) : fitAt xs m = some x.1 := by
  unfold fitAt
  obtain ⟨t, ht⟩ := hp
  rw [← ht, List.append_assoc, List.find?_append, List.find?_eq_none.2 (fun y hy => by simpa using hno y hy)]
  simp [hx]
theorem cell_new (w : World) (v : Value) (T : TypeId) : (w.alloc (.cells #[v] T)).cell? ⟨w.heap.size, 0, none⟩ = some v := by rw [cell_of_row _ w.heap.size 0 _ _ _ (heap_alloc_new w (.cells #[v] T))]; rfl
/-- where the loop was left: x is taken -/
def FitStop (xs : List (Int × Int)) (m : Int) (W0 : World) (b o : Nat) (cs : Array Value) (T : TypeId) (F : Nat) (pre : List (Fin xs.length)) (W : World) : Prop :=
  ∃ pre0 x v', pre = pre0 ++ [x] ∧ (∀ y ∈ pre0, ¬ m ≤ xs[y.1].2) ∧ m ≤ xs[x.1].2 ∧ W.heap[F]? = some (.cells #[.int .i64 xs[x.1].1, .int .i64 xs[x.1].2] 88 (0, 0)) ∧ W.heap[b]? = some (.cells (cs.setIfInBounds o v') T (0, 0)) ∧
    W.ownsRow W0.heap.size 88 2 v' (xs.eraseIdx x.1).length (wcells (xs.eraseIdx x.1)) ∧ Kp [b, F] W0 W
theorem fitStop_own (xs : List (Int × Int)) (m : Int) (W0 : World) (b o : Nat) (cs : Array Value) (T : TypeId) (F : Nat) : OwnFrom W0.heap.size (fun (pre : List (Fin xs.length)) W => FitStop xs m W0 b o cs T F pre W) := by
  rintro pre X Y row ⟨pre0, x, v', h1, h2, h3, h4, h5, h6, h7⟩ hg hr
  have hr2 : ∀ r, row = some r → ∃ o : Obj, X.heap[r]? = some o ∧ o.isCells = false := fun r e => (hr r e).2
  refine ⟨pre0, x, v', h1, h2, h3, (grownBy_keeps_cells hg hr2 h4 rfl).trans h4, (grownBy_keeps_cells hg hr2 h5 rfl).trans h5, ?_, h7.grown hg (fun k e => .inr (hr k e).1)⟩
  refine h6.kept hg ?_
  rcases h6.2 with ⟨rfl, _⟩ | ⟨g, cap, cur, rfl, _, hgb, _⟩
  · exact .inl rfl
  · refine .inr fun e' => ?_
    obtain ⟨o, ho, hc⟩ := hr2 g (by simpa [Value.ownBlock] using e'.symm)
    rw [hgb] at ho; cases ho; cases hc
def FitPost (xs : List (Int × Int)) (m : Int) (w : World) (b o : Nat) (cs : Array Value) (T : TypeId) (e : Ending) (w' : World) : Prop :=
  match fitAt xs m with
  | none => Below w.heap.size w w' ∧ e = .returned (.tuple #[.agg #[.int .i64 0, .int .i64 0], .bool false])
  | some i => RowAt w b o cs T (xs.eraseIdx i) w' ∧ ∃ y1 y2, xs[i]? = some (y1, y2) ∧ e = .returned (.tuple #[.agg #[.int .i64 y1, .int .i64 y2], .bool true])
set_option maxRecDepth 100000 in
set_option maxHeartbeats 4000000 in
theorem fit_in {w : World} {b o base : Nat} {cs : Array Value} {T : TypeId} {v : Value} {xs : List (Int × Int)} (hb : w.heap[b]? = some (.cells cs T (0, 0))) (ho : cs[o]? = some v) (h : w.ownsRow base 88 2 v xs.length (wcells xs)) (hn : xs.length ≤ 4194304)
    (m : Int) (hm : 1 ≤ m) (n : Nat) (hn5 : 6 ≤ n) : CallsIn Fence.wide n Try.prog 61 #[.pointer (some ⟨b, o, none⟩), .int .i64 m] w (FitPost xs m w b o cs T) := by
  have hfn : ∀ k, Fence.wide.fn k := fun _ => trivial
  have hn1 : 1 ≤ n := by omega
  have hn2 : 1 ≤ n - 1 := by omega
  obtain ⟨ao, cap, rfl⟩ := own_shape h
  have hc : w.cell? ⟨b, o, none⟩ = some (.slice ao xs.length cap) := by rw [cell_of_row w b o _ _ _ hb, ho]
  have hc4 := fun o1 o2 o3 o4 => alloc_cell (o := o4) (alloc_cell (o := o3) (alloc_cell (o := o2) (alloc_cell (o := o1) hc)))
  refine callsIn_of_wp_marks Try.func61 rfl trivial ?_ rfl
  simp only [Try.ntmps61, List.size_toArray, List.length_cons, List.length_nil, Nat.reduceAdd, Nat.reduceSub, Array.replicate_succ, Array.replicate_zero, List.push_toArray, List.append_toArray, List.nil_append, List.cons_append]
  gi_wp2
  refine wpIn_scope' ?_
  gi_wp2
  refine wpIn_label' ?_
  gi_wp2_with (gi_at_call 81; refine (downwards_in (n - 1) (by omega) _ (hc4 _ _ _ _)).mono ?_; rintro e w' ⟨rfl, rfl⟩)
  have hB0 : Below w.heap.size w (((((w.alloc (.cells #[.pointer (some ⟨b, o, none⟩)] 141)).alloc (.cells #[.int .i64 m] 3)).alloc (.cells #[.int .i64 0, .int .i64 0] 88)).alloc (.cells #[.int .i64 0, .int .i64 0] 88)).alloc (.cells #[.slice ao xs.length cap] 60)) := ((((((Below.refl _ w).alloc (Nat.le_refl _) _).alloc (by simp) _).alloc (by simp; omega) _).alloc (by simp; omega) _).alloc (by simp; omega) _)
  have hsz : (((((w.alloc (.cells #[.pointer (some ⟨b, o, none⟩)] 141)).alloc (.cells #[.int .i64 m] 3)).alloc (.cells #[.int .i64 0, .int .i64 0] 88)).alloc (.cells #[.int .i64 0, .int .i64 0] 88)).alloc (.cells #[.slice ao xs.length cap] 60)).heap.size = w.heap.size + 5 := by simp
  have hk0 : (((((w.alloc (.cells #[.pointer (some ⟨b, o, none⟩)] 141)).alloc (.cells #[.int .i64 m] 3)).alloc (.cells #[.int .i64 0, .int .i64 0] 88)).alloc (.cells #[.int .i64 0, .int .i64 0] 88)).alloc (.cells #[.slice ao xs.length cap] 60)).cell? ⟨w.heap.size, 0, none⟩ = some (.pointer (some ⟨b, o, none⟩)) := alloc_cell (alloc_cell (alloc_cell (alloc_cell (cell_new w _ _))))
  have hk1 : (((((w.alloc (.cells #[.pointer (some ⟨b, o, none⟩)] 141)).alloc (.cells #[.int .i64 m] 3)).alloc (.cells #[.int .i64 0, .int .i64 0] 88)).alloc (.cells #[.int .i64 0, .int .i64 0] 88)).alloc (.cells #[.slice ao xs.length cap] 60)).cell? ⟨w.heap.size + 1, 0, none⟩ = some (.int .i64 m) := alloc_cell (alloc_cell (alloc_cell (by simp)))
  have hk2 : (((((w.alloc (.cells #[.pointer (some ⟨b, o, none⟩)] 141)).alloc (.cells #[.int .i64 m] 3)).alloc (.cells #[.int .i64 0, .int .i64 0] 88)).alloc (.cells #[.int .i64 0, .int .i64 0] 88)).alloc (.cells #[.slice ao xs.length cap] 60)).heap[w.heap.size + 1 + 1]? = some (.cells #[.int .i64 0, .int .i64 0] 88 (0, 0)) := by
    rw [Below.heap_alloc _ _ _ (by simp), Below.heap_alloc _ _ _ (by simp)]
    have := heap_alloc_new ((w.alloc (.cells #[.pointer (some ⟨b, o, none⟩)] 141)).alloc (.cells #[.int .i64 m] 3)) (.cells #[.int .i64 0, .int .i64 0] 88)
    simpa using this
  have hk3 : (((((w.alloc (.cells #[.pointer (some ⟨b, o, none⟩)] 141)).alloc (.cells #[.int .i64 m] 3)).alloc (.cells #[.int .i64 0, .int .i64 0] 88)).alloc (.cells #[.int .i64 0, .int .i64 0] 88)).alloc (.cells #[.slice ao xs.length cap] 60)).heap[w.heap.size + 1 + 1 + 1]? = some (.cells #[.int .i64 0, .int .i64 0] 88 (0, 0)) := by
    rw [Below.heap_alloc _ _ _ (by simp)]
    have := heap_alloc_new (((w.alloc (.cells #[.pointer (some ⟨b, o, none⟩)] 141)).alloc (.cells #[.int .i64 m] 3)).alloc (.cells #[.int .i64 0, .int .i64 0] 88)) (.cells #[.int .i64 0, .int .i64 0] 88)
    simpa using this
  have hk4 : (((((w.alloc (.cells #[.pointer (some ⟨b, o, none⟩)] 141)).alloc (.cells #[.int .i64 m] 3)).alloc (.cells #[.int .i64 0, .int .i64 0] 88)).alloc (.cells #[.int .i64 0, .int .i64 0] 88)).alloc (.cells #[.slice ao xs.length cap] 60)).cell? ⟨w.heap.size + 1 + 1 + 1 + 1, 0, none⟩ = some (.slice ao xs.length cap) := by
    have := cell_new ((((w.alloc (.cells #[.pointer (some ⟨b, o, none⟩)] 141)).alloc (.cells #[.int .i64 m] 3)).alloc (.cells #[.int .i64 0, .int .i64 0] 88)).alloc (.cells #[.int .i64 0, .int .i64 0] 88)) (.slice ao xs.length cap) 60
    simp only [World.size_alloc] at this
    exact this
  obtain ⟨W0, hW0⟩ : ∃ W0, (((((w.alloc (.cells #[.pointer (some ⟨b, o, none⟩)] 141)).alloc (.cells #[.int .i64 m] 3)).alloc (.cells #[.int .i64 0, .int .i64 0] 88)).alloc (.cells #[.int .i64 0, .int .i64 0] 88)).alloc (.cells #[.slice ao xs.length cap] 60)) = W0 := ⟨_, rfl⟩
  rw [hW0] at hB0 hsz hk0 hk1 hk2 hk3 hk4 ⊢
  clear hW0 hc4
  have hbl := lt_of_heap hb
  have hrow0 := Kp.row (fs := []) (Kp.of_below hB0 _) h (by simp)
  have hb0 := below_at hB0 hb hbl
  have hcells : ∀ j (hj : j < xs.length), ∃ g, ao = some ⟨g, 0, none⟩ ∧ g < W0.heap.size ∧ W0.cell? ⟨g, j * 2, none⟩ = some (.int .i64 xs[j].1) ∧ W0.cell? ⟨g, j * 2 + 1, none⟩ = some (.int .i64 xs[j].2) := by
    intro j hj
    obtain ⟨g, c, e⟩ := row_shape hrow0 (by omega)
    simp only [Value.slice.injEq, true_and] at e
    obtain ⟨rfl, rfl⟩ := e
    exact ⟨g, rfl, (hrow0.lt g rfl).2, row_cell hrow0 (wcells_fst hj), row_cell hrow0 (wcells_snd hj)⟩
  refine wpIn_rangeFunc_ownH (F := Fence.wide) rfl (by omega) (gf := 104) (lb := #[.pointer (some ⟨w.heap.size + 1 + 1 + 1 + 1, 0, none⟩)]) rfl trivial (enters_of Try.func104 (by kernel_rfl) rfl)
    (backward_stops (n - 1) (by omega) (w.heap.size + 1 + 1 + 1 + 1) W0.heap.size cap ao xs hn W0 (Nat.le_refl _) hk4 hcells (by omega)) belowK_t (belowK_b (Nat.le_refl _)) (Below.refl _ _) (fun _ => rfl)
    (fun pre W => (∀ y ∈ pre, ¬ m ≤ xs[y.1].2) ∧ Below W0.heap.size W0 W)
    (fun c pre W => (c = .exit 0 ∧ True) ∧ FitStop xs m W0 b o cs T (w.heap.size + 1 + 1 + 1) pre W)
    (OwnFrom.and (ownFrom_pure _ _) (ownFrom_below (Nat.le_refl _) (Nat.le_refl _)))
    (fun c => OwnFrom.and (ownFrom_pure _ _) (fitStop_own xs m W0 b o cs T _))
    ⟨by simp, Below.refl _ _⟩
    (fun x a' W => ∃ Bx, W0.heap.size ≤ Bx ∧ W.heap[Bx]? = some (.cells #[.int .i64 xs[x.1].1, .int .i64 xs[x.1].2] 88 (0, 0)) ∧ a' = { tmps := #[.pointer (some ⟨b, o, none⟩), .int .i64 m, .pointer (some ⟨w.heap.size, 0, none⟩), .pointer (some ⟨w.heap.size + 1, 0, none⟩), .pointer (some ⟨w.heap.size + 1 + 1, 0, none⟩), .bool false, .pointer (some ⟨w.heap.size + 1 + 1 + 1, 0, none⟩), .int .i64 x.1, .pointer (some ⟨Bx, 0, none⟩), .pointer (some ⟨b, o, none⟩), .func (.func 104) #[] #[.pointer (some ⟨w.heap.size + 1 + 1 + 1 + 1, 0, none⟩)], .int .i64 x.1, .agg #[.int .i64 xs[x.1].1, .int .i64 xs[x.1].2], undef, undef, undef, undef, undef, undef, undef, undef, undef, undef, undef, undef, undef, undef, undef, undef, undef, undef, undef, undef, undef, undef, undef], defers := [] })
    (fun x a' _ X Y row hs hg hr => by obtain ⟨Bx, h1, h2, h3⟩ := hs; exact ⟨Bx, h1, (hg.block Bx (lt_of_heap h2) (fun e => by obtain ⟨_, o, ho, hc⟩ := hr Bx e.symm; rw [h2] at ho; cases ho; simp [Obj.isCells] at hc)).trans h2, h3⟩)
    ?assign ?body ?done ?stop
  case assign =>
    rintro l pre x W K ⟨hno, hB1⟩ hK
    unfold benc
    gi_wp2
    exact hK _ _ ((KeepsOthers.alloc _ _).from _) ((Below.refl _ W).alloc hB1.size _) ⟨hno, hB1.alloc hB1.size _⟩ ⟨W.heap.size, hB1.size, heap_alloc_new W _, rfl⟩
  case body =>
    have hn3 : 1 ≤ n - 1 - 1 := by omega
    rintro l pre x a' W hl ⟨r, hr⟩ ⟨hno, hB1⟩ ⟨Bx, hBx, bX, rfl⟩ hlt
    have HSZ := Hid.mk hsz
    clear hsz
    have cX0 : W.cell? ⟨Bx, 0, none⟩ = some (.int .i64 xs[x.1].1) := by rw [cell_of_row W Bx 0 _ _ _ bX]; rfl
    have cX1 : W.cell? ⟨Bx, 1, none⟩ = some (.int .i64 xs[x.1].2) := by rw [cell_of_row W Bx 1 _ _ _ bX]; rfl
    have c0 := keep_be hB1 hk0
    have c1 := keep_be hB1 hk1
    have hF := below_at hB1 hk3 (lt_of_heap hk3)
    have cF0 : W.cell? ⟨w.heap.size + 1 + 1 + 1, 0, none⟩ = some (.int .i64 0) := by rw [cell_of_row W _ 0 _ _ _ hF]; rfl
    have cF1 : W.cell? ⟨w.heap.size + 1 + 1 + 1, 1, none⟩ = some (.int .i64 0) := by rw [cell_of_row W _ 1 _ _ _ hF]; rfl
    have fF := fun o => frozen_of_row W (w.heap.size + 1 + 1 + 1) o _ _ hF
    obtain ⟨i, hi⟩ := x
    simp only at cX0 cX1
    obtain ⟨y1, hy1⟩ : ∃ y1, xs[i].1 = y1 := ⟨_, rfl⟩
    obtain ⟨y2, hy2⟩ : ∃ y2, xs[i].2 = y2 := ⟨_, rfl⟩
    rw [hy1] at cX0
    rw [hy2] at cX1
    have HNO := Hid.mk hno
    have HY := Hid.mk (And.intro hy1 hy2)
    simp only [hy1, hy2]
    clear hy1 hy2 hno
    by_cases hq : m ≤ y2
    · have z : decide (y2 ≥ m) = true := by simpa using hq
      obtain ⟨g, rfl, -⟩ := hcells i hi
      have hFl := lt_of_heap hF
      have hbF : b ≠ w.heap.size + 1 + 1 + 1 := by omega
      have hgF : (Value.slice (some ⟨g, 0, none⟩) xs.length cap).ownBlock ≠ some (w.heap.size + 1 + 1 + 1) := by
        simp only [Value.ownBlock, ne_eq, Option.some.injEq]
        have := (h.lt g rfl).2
        omega
      have hbW := below_at hB1 hb0 (lt_of_heap hb0)
      have hrowW := Kp.row (fs := []) (Kp.of_below hB1 _) hrow0 (by simp)
      gi_wp2
      obtain ⟨W1, hW1⟩ : ∃ W1, (W.setCell ⟨w.heap.size + 1 + 1 + 1, 0, none⟩ (.int .i64 y1)).setCell ⟨w.heap.size + 1 + 1 + 1, 1, none⟩ (.int .i64 y2) = W1 := ⟨_, rfl⟩
      have hF1 : W1.heap[w.heap.size + 1 + 1 + 1]? = some (.cells #[.int .i64 y1, .int .i64 y2] 88 (0, 0)) := by
        rw [← hW1]
        have e1 := heap_setCell_same W _ 0 _ _ (.int .i64 y1) hF
        have e2 := heap_setCell_same _ _ 1 _ _ (.int .i64 y2) e1
        simpa using e2
      have hb1 : W1.heap[b]? = some (.cells cs T (0, 0)) := by rw [← hW1, Below.heap_setCell _ _ _ _ hbF, Below.heap_setCell _ _ _ _ hbF]; exact hbW
      have hrow1 : W1.ownsRow base 88 2 (.slice (some ⟨g, 0, none⟩) xs.length cap) xs.length (wcells xs) := by
        rw [← hW1]
        exact ownsRow_setCell_other (ownsRow_setCell_other hrowW hgF _) hgF _
      have hk1' : KeepsOthers W W1 := by rw [← hW1]; exact (KeepsOthers.setCell _ _ _).trans (KeepsOthers.setCell _ _ _)
      have hKp1 : Kp [b, w.heap.size + 1 + 1 + 1] W0 W1 := by rw [← hW1]; exact ((Kp.of_below hB1 _).setCell (.inl (by simp)) _).setCell (.inl (by simp)) _
      have s0 : W1.cell? ⟨w.heap.size, 0, none⟩ = some (.pointer (some ⟨b, o, none⟩)) := by rw [← hW1]; exact set_far (set_far c0 (by simp; omega)) (by simp; omega)
      have s1 : W1.cell? ⟨b, o, none⟩ = some (.slice (some ⟨g, 0, none⟩) xs.length cap) := by rw [cell_of_row W1 b o _ _ _ hb1, ho]
      have hb1l := lt_of_heap hb1
      rw [hW1]
      clear hW1 cX0 cX1 cF0 cF1 fF hF bX hbW hrowW c0 c1
      obtain ⟨r2, hxl⟩ : ∃ r2, xs.length = i + 1 + r2 := ⟨xs.length - (i + 1), by omega⟩
      have HXL := Hid.mk hxl
      have w1 : IntKind.i64.wrap ((i : Int) + 1) = (i : Int) + 1 := by rw [IntKind.wrap_i64]; omega
      clear hxl
      refine region_round_L 14 (fun W' => W'.cell? ⟨w.heap.size, 0, none⟩ = some (.pointer (some ⟨b, o, none⟩)) ∧ W'.cell? ⟨b, o, none⟩ = some (.slice (some ⟨g, 0, none⟩) xs.length cap)) (by kernel_rfl) ?hL (no_defer (by kernel_rfl)) ?hS (fun hHeld => ?hH)
      case hL => rintro ⟨a, w, h⟩; exact h
      case hS => exact ⟨s0, s1⟩
      refine wpAnyL_take (i := 0) (v := ?_) rfl (by kernel_rfl) (by kernel_rfl) (by kernel_rfl) (by kernel_rfl) (fun _ _ _ h => h) (Or.inl ⟨by rfl, ?_⟩) (by assumption) ?_
      rotate_left
      · (intro w hSw; (try dsimp only at hSw); go_simp <;> with_reducible rfl)
      (try simp only [Act.put, List.getElem_toArray, List.getElem_cons_zero, List.setIfInBounds_toArray, List.set_cons_zero, List.set_cons_succ])
      refine wpAnyL_take (i := 1) (v := ?_) rfl (by kernel_rfl) (by kernel_rfl) (by kernel_rfl) (by kernel_rfl) (fun _ _ _ h => h) (Or.inl ⟨by rfl, ?_⟩) (by assumption) ?_
      rotate_left
      · (intro w hSw; (try dsimp only at hSw); go_simp <;> with_reducible rfl)
      (try simp only [Act.put, List.getElem_toArray, List.getElem_cons_zero, List.getElem_cons_succ, List.setIfInBounds_toArray, List.set_cons_zero, List.set_cons_succ])
      refine wpAnyL_take (i := 2) (v := ?_) rfl (by kernel_rfl) (by kernel_rfl) (by kernel_rfl) (by kernel_rfl) (fun _ _ _ h => h) (Or.inl ⟨by rfl, ?_⟩) (by assumption) ?_
      rotate_left
      · (intro w hSw; (try dsimp only at hSw); go_simp <;> with_reducible rfl)
      (try simp only [Act.put, List.getElem_toArray, List.getElem_cons_zero, List.getElem_cons_succ, List.setIfInBounds_toArray, List.set_cons_zero, List.set_cons_succ])
      refine wpAnyL_take (i := 3) (v := ?_) rfl (by kernel_rfl) (by kernel_rfl) (by kernel_rfl) (by kernel_rfl) (fun _ _ _ h => h) (Or.inl ⟨by rfl, ?_⟩) (by assumption) ?_
      rotate_left
      · (intro w hSw; (try dsimp only at hSw); go_simp <;> with_reducible rfl)
      (try simp only [Act.put, List.getElem_toArray, List.getElem_cons_zero, List.getElem_cons_succ, List.setIfInBounds_toArray, List.set_cons_zero, List.set_cons_succ])
      refine wpAnyL_take (i := 4) (v := ?_) rfl (by kernel_rfl) (by kernel_rfl) (by kernel_rfl) (by kernel_rfl) (fun _ _ _ h => h) (Or.inl ⟨by rfl, ?_⟩) (by assumption) ?_
      rotate_left
      · (intro w hSw; (try dsimp only at hSw); go_simp <;> with_reducible rfl)
      (try simp only [Act.put, List.getElem_toArray, List.getElem_cons_zero, List.getElem_cons_succ, List.setIfInBounds_toArray, List.set_cons_zero, List.set_cons_succ])
      refine wpAnyL_take (i := 5) (v := ?_) rfl (by kernel_rfl) (by kernel_rfl) (by kernel_rfl) (by kernel_rfl) (fun _ _ _ h => h) (Or.inl ⟨by rfl, ?_⟩) (by assumption) ?_
      rotate_left
      · (intro w hSw; (try dsimp only at hSw); go_simp <;> with_reducible rfl)
      (try simp only [Act.put, List.getElem_toArray, List.getElem_cons_zero, List.getElem_cons_succ, List.setIfInBounds_toArray, List.set_cons_zero, List.set_cons_succ])
      refine wpAnyL_take (i := 7) (v := ?_) rfl (by kernel_rfl) (by kernel_rfl) (by kernel_rfl) (by kernel_rfl) (fun _ _ _ h => h) (Or.inl ⟨by rfl, ?_⟩) (by assumption) ?_
      rotate_left
      · (intro w hSw; (try dsimp only at hSw); go_simp <;> with_reducible rfl)
      (try simp only [Act.put, List.getElem_toArray, List.getElem_cons_zero, List.getElem_cons_succ, List.setIfInBounds_toArray, List.set_cons_zero, List.set_cons_succ])
      refine wpAnyL_take (i := 8) (v := ?_) rfl (by kernel_rfl) (by kernel_rfl) (by kernel_rfl) (by kernel_rfl) (fun _ _ _ h => h) (Or.inl ⟨by rfl, ?_⟩) (by assumption) ?_
      rotate_left
      · (intro w hSw; (try dsimp only at hSw); go_simp <;> with_reducible rfl)
      (try simp only [Act.put, List.getElem_toArray, List.getElem_cons_zero, List.getElem_cons_succ, List.setIfInBounds_toArray, List.set_cons_zero, List.set_cons_succ])
      refine wpAnyL_take (i := 9) (v := ?_) rfl (by kernel_rfl) (by kernel_rfl) (by kernel_rfl) (by kernel_rfl) (fun _ _ _ h => h) (Or.inl ⟨by rfl, ?_⟩) (by assumption) ?_
      rotate_left
      · (intro w hSw; (try dsimp only at hSw); go_simp <;> with_reducible rfl)
      (try simp only [Act.put, List.getElem_toArray, List.getElem_cons_zero, List.getElem_cons_succ, List.setIfInBounds_toArray, List.set_cons_zero, List.set_cons_succ])
      clear w1
      refine wpAnyL_only (i := 6) (by kernel_rfl) rfl (fun K hK => ?_)
      go_simp
      refine (cloneR_any (w := W1.drew) hrow1.drew hn).mono ?_
      rintro e wx ⟨hbx, vx, rfl, hown⟩
      have hown0 := hown
      rw [HXL.out] at hown
      obtain ⟨gx, cx2, rfl⟩ := row_shape hown (by omega)
      have cx := And.intro (keep_dr hbx s0) (keep_dr hbx s1)
      refine hK _ _ (fun _ => cx) (fun hHeld0 => ?_)
      have hHeld := hHeld0 rfl
      clear hK K hHeld0
      (try simp only [Act.put, List.getElem_toArray, List.getElem_cons_zero, List.getElem_cons_succ, List.setIfInBounds_toArray, List.set_cons_zero, List.set_cons_succ])
      refine wpAnyL_only (i := 10) (by kernel_rfl) rfl (fun K hK => ?_)
      go_simp
      refine (delR_any (base := W1.drew.heap.size) (i := i) (r := r2) (xs := wcells xs) hown (by have := HXL.out; omega) wc_one).mono ?_
      rintro e wy ⟨hy1, hy2, rfl⟩
      have hgx : W1.heap.size ≤ gx := (hown.lt gx rfl).1
      have hhx : wx.heap[b]? = some (.cells cs T (0, 0)) := below_at (undrew hbx) hb1 hb1l
      have hhy : wy.heap[b]? = some (.cells cs T (0, 0)) := hy2.at hhx (by simp only [List.mem_singleton]; intro e; omega)
      have cy0 : wy.cell? ⟨w.heap.size, 0, none⟩ = some (.pointer (some ⟨b, o, none⟩)) := (kp_cell hy2 (cell_lt cx.1) (by simp only [List.mem_singleton]; intro e; have := cell_lt s0; simp at this; omega)).trans cx.1
      have cy : wy.cell? ⟨b, o, none⟩ = some (.slice (some ⟨g, 0, none⟩) xs.length cap) := by rw [cell_of_row wy b o _ _ _ hhy, ho]
      have fy : wy.frozen? ⟨b, o, none⟩ = false := frozen_of_row wy b o _ _ hhy
      refine hK _ _ (fun _ => ⟨cy0, cy⟩) (fun hHeld0 => ?_)
      have hHeld := hHeld0 rfl
      clear hK K hHeld0
      (try simp only [Act.put, List.getElem_toArray, List.getElem_cons_zero, List.getElem_cons_succ, List.setIfInBounds_toArray, List.set_cons_zero, List.set_cons_succ])
      refine wpAnyL_only (i := 11) (by kernel_rfl) rfl (fun K hK => ?_)
      go_simp
      refine hK _ _ (fun _ => ⟨cy0, cy⟩) (fun hHeld0 => ?_)
      have hHeld := hHeld0 rfl
      clear hK K hHeld0
      (try simp only [Act.put, List.getElem_toArray, List.getElem_cons_zero, List.getElem_cons_succ, List.setIfInBounds_toArray, List.set_cons_zero, List.set_cons_succ])
      refine wpAnyL_only (i := 12) (by kernel_rfl) rfl (fun K hK => ?_)
      go_simp
      refine hK _ _ (fun _ => ⟨cy0, cy⟩) (fun hHeld0 => ?_)
      have hHeld := hHeld0 rfl
      clear hK K hHeld0
      (try simp only [Act.put, List.getElem_toArray, List.getElem_cons_zero, List.getElem_cons_succ, List.setIfInBounds_toArray, List.set_cons_zero, List.set_cons_succ])
      refine wpAnyL_only (i := 13) (by kernel_rfl) rfl (fun K hK => ?_)
      go_simp
      refine hK _ _ (fun _ => ⟨cy0, cy⟩) (fun hHeld0 => ?_)
      have hHeld := hHeld0 rfl
      clear hK K hHeld0
      (try simp only [Act.put, List.getElem_toArray, List.getElem_cons_zero, List.getElem_cons_succ, List.setIfInBounds_toArray, List.set_cons_zero, List.set_cons_succ])
      refine wpAnyL_only (i := 14) (by kernel_rfl) rfl (fun K hK => ?_)
      go_simp
      refine hK _ _ (fun q => by cases q) (fun hHeld0 => ?_)
      clear hK K hHeld0
      refine wpAnyL_done (by kernel_rfl) ?_
      have hwy1 := (undrew hbx).size
      have hFx : wy.heap[w.heap.size + 1 + 1 + 1]? = some (.cells #[.int .i64 y1, .int .i64 y2] 88 (0, 0)) := hy2.at (below_at (undrew hbx) hF1 (lt_of_heap hF1)) (by simp only [List.mem_singleton]; intro e; have := lt_of_heap hF1; omega)
      have hgxb : gx ≠ b := by omega
      have hln : (xs.eraseIdx i).length = i + r2 := by rw [List.length_eraseIdx, if_pos hi, HXL.out]; omega
      have HF : Hid (FitStop xs m W0 b o cs T (w.heap.size + 1 + 1 + 1) (pre ++ [⟨i, hi⟩]) (wy.setCell ⟨b, o, none⟩ (.slice (some ⟨gx, 0, none⟩) (i + r2) cx2))) := by
        refine ⟨pre, ⟨i, hi⟩, .slice (some ⟨gx, 0, none⟩) (i + r2) cx2, rfl, (fun y hy => by have := HNO.out y hy; omega), ?_, ?_, ?_, ?_, ?_⟩
        · simp only [HY.out.2]; exact hq
        · simp only [HY.out.1, HY.out.2]
          exact (Below.heap_setCell _ _ _ _ (Ne.symm hbF)).trans hFx
        · have := heap_setCell_same wy b o _ _ (.slice (some ⟨gx, 0, none⟩) (i + r2) cx2) hhy
          simpa using this
        · simp only
          rw [hln, wcells_erase]
          exact ownsRow_setCell_other (hy1.mono (by have := hKp1.size; simpa using this)) (by simp [Value.ownBlock, hgxb]) _
        · exact (((hKp1.trans (Kp.of_below (undrew hbx) []) (by simp)).trans hy2 (fun x hx => by simp only [List.mem_singleton] at hx; subst hx; exact .inr (by have := hKp1.size; omega)))).setCell (.inl (by simp)) _
      have HK1 : Hid (KeepsOthers W (wy.setCell ⟨b, o, none⟩ (.slice (some ⟨gx, 0, none⟩) (i + r2) cx2))) := by
        refine ((hk1'.trans ⟨hwy1, fun k o hk _ => below_at (undrew hbx) hk (lt_of_heap hk)⟩).trans ⟨hy2.size, fun k o hk ho' => hy2.at hk (fun e => ?_)⟩).trans (KeepsOthers.setCell _ _ _)
        simp only [List.mem_singleton] at e
        subst e
        rcases hown.2 with ⟨q, _⟩ | ⟨g', cap', cur', q, _, hgb, _⟩
        · simp at q
        · simp only [Value.slice.injEq, Option.some.injEq, Addr.mk.injEq, and_true, true_and] at q
          rw [← q.1, hk] at hgb
          cases hgb; cases ho'
      clear hbx hown hy1 hy2 hhx hhy cy0 cy fy hFx
      gi_wp2
      exact ⟨HK1.out.from _, rfl, HF.out⟩
    · have z : decide (y2 ≥ m) = false := by simpa using hq
      gi_wp2
      refine ⟨(KeepsOthers.refl _).from _, Below.refl _ _, ?_, hB1⟩
      intro y hy
      rcases List.mem_append.1 hy with q | q
      · exact HNO.out y q
      · simp only [List.mem_singleton] at q
        subst q
        simp only [HY.out.2]
        exact hq
  case done =>
    rintro D zs W hD rfl ⟨hno, hB1⟩ hK
    have hN := Hid.mk (fit_none (fun x hx => hno x hx))
    have hF := below_at hB1 hk3 (lt_of_heap hk3)
    have hR := below_at hB1 hk2 (lt_of_heap hk2)
    have cF0 : W.cell? ⟨w.heap.size + 1 + 1 + 1, 0, none⟩ = some (.int .i64 0) := by rw [cell_of_row W _ 0 _ _ _ hF]; rfl
    have cF1 : W.cell? ⟨w.heap.size + 1 + 1 + 1, 1, none⟩ = some (.int .i64 0) := by rw [cell_of_row W _ 1 _ _ _ hF]; rfl
    have cR0 : W.cell? ⟨w.heap.size + 1 + 1, 0, none⟩ = some (.int .i64 0) := by rw [cell_of_row W _ 0 _ _ _ hR]; rfl
    have cR1 : W.cell? ⟨w.heap.size + 1 + 1, 1, none⟩ = some (.int .i64 0) := by rw [cell_of_row W _ 1 _ _ _ hR]; rfl
    have fR := fun o => frozen_of_row W (w.heap.size + 1 + 1) o _ _ hR
    have hbW : Below w.heap.size w W := hB0.trans (hB1.mono hB0.size)
    have HSZ := Hid.mk hsz
    clear hsz hno hB1 hF
    gi_wp2
    refine wpIn_wide.2 ?_
    have hDR : D ≠ w.heap.size + 1 + 1 := by have := HSZ.out; omega
    have hR2 : ((W.setCell ⟨w.heap.size + 1 + 1, 0, none⟩ (.int .i64 0)).setCell ⟨w.heap.size + 1 + 1, 1, none⟩ (.int .i64 0)).heap[w.heap.size + 1 + 1]? = some (.cells #[.int .i64 0, .int .i64 0] 88 (0, 0)) := by
      have e1 := heap_setCell_same W _ 0 _ _ (.int .i64 0) hR
      have e2 := heap_setCell_same _ _ 1 _ _ (.int .i64 0) e1
      simpa using e2
    have hKD : ((W.setCell ⟨w.heap.size + 1 + 1, 0, none⟩ (.int .i64 0)).setCell ⟨w.heap.size + 1 + 1, 1, none⟩ (.int .i64 0)).heap[D]? = some (.deferred (some [])) := by rw [Below.heap_setCell _ _ _ _ hDR, Below.heap_setCell _ _ _ _ hDR]; exact hK
    have hRR : ∀ ob, (((W.setCell ⟨w.heap.size + 1 + 1, 0, none⟩ (.int .i64 0)).setCell ⟨w.heap.size + 1 + 1, 1, none⟩ (.int .i64 0)).putObj D ob).heap[w.heap.size + 1 + 1]? = some (.cells #[.int .i64 0, .int .i64 0] 88 (0, 0)) := fun ob => (World.putObj_heap_other (Ne.symm hDR)).trans hR2
    have hbF : ∀ ob, Below w.heap.size w (((W.setCell ⟨w.heap.size + 1 + 1, 0, none⟩ (.int .i64 0)).setCell ⟨w.heap.size + 1 + 1, 1, none⟩ (.int .i64 0)).drew.putObj D ob) := fun ob => (((hbW.setCell (p := ⟨w.heap.size + 1 + 1, 0, none⟩) (by simp; omega) _).setCell (p := ⟨w.heap.size + 1 + 1, 1, none⟩) (by simp; omega) _).drew).trans ((Below.refl _ _).grown (grownBy_putObj' _ D _) (by have := hbW.size; have := lt_of_heap hKD; simp [World.setCell] at *; omega) (fun k e => by cases e; have := HSZ.out; omega))
    go_region
    all_goals
      gi_wp2
      rw [Exit.noGoto_ret]
      refine ⟨by simp, .inl ⟨_, _, rfl, run_takeDeferred hKD, ?_⟩⟩
      have q0 : (((W.setCell ⟨w.heap.size + 1 + 1, 0, none⟩ (.int .i64 0)).setCell ⟨w.heap.size + 1 + 1, 1, none⟩ (.int .i64 0)).drew.putObj D (.deferred none)).cell? ⟨w.heap.size + 1 + 1, 0, none⟩ = some (.int .i64 0) := by rw [cell_of_row _ (w.heap.size + 1 + 1) 0 _ _ _ (show (((W.setCell ⟨w.heap.size + 1 + 1, 0, none⟩ (.int .i64 0)).setCell ⟨w.heap.size + 1 + 1, 1, none⟩ (.int .i64 0)).drew.putObj D (.deferred none)).heap[w.heap.size + 1 + 1]? = _ from hRR _)]; rfl
      have q1 : (((W.setCell ⟨w.heap.size + 1 + 1, 0, none⟩ (.int .i64 0)).setCell ⟨w.heap.size + 1 + 1, 1, none⟩ (.int .i64 0)).drew.putObj D (.deferred none)).cell? ⟨w.heap.size + 1 + 1, 1, none⟩ = some (.int .i64 0) := by rw [cell_of_row _ (w.heap.size + 1 + 1) 1 _ _ _ (show (((W.setCell ⟨w.heap.size + 1 + 1, 0, none⟩ (.int .i64 0)).setCell ⟨w.heap.size + 1 + 1, 1, none⟩ (.int .i64 0)).drew.putObj D (.deferred none)).heap[w.heap.size + 1 + 1]? = _ from hRR _)]; rfl
      refine ⟨.tuple #[.agg #[.int .i64 0, .int .i64 0], .bool false], by simp [results, Try.results61, go_sem, q0, q1], ?_⟩
      unfold FitPost
      rw [hN.out]
      exact ⟨hbF _, rfl⟩
  case stop =>
    rintro D c pre W hD hpre ⟨⟨rfl, -⟩, hst⟩ hK
    obtain ⟨pre0, ⟨i, hi⟩, v', rfl, h2, h3, h4, h5, h6, h7⟩ := hst
    have hN := Hid.mk (fit_some hpre h2 h3)
    simp only at h3 h4 h6
    obtain ⟨y1, hy1⟩ : ∃ y1, xs[i].1 = y1 := ⟨_, rfl⟩
    obtain ⟨y2, hy2⟩ : ∃ y2, xs[i].2 = y2 := ⟨_, rfl⟩
    rw [hy1, hy2] at h4
    rw [hy2] at h3
    have HY : Hid (xs[i]? = some (y1, y2)) := by
      show xs[i]? = some (y1, y2)
      rw [List.getElem?_eq_getElem hi, ← hy1, ← hy2]
    have z0 : (y2 == 0) = false := by simp; omega
    have hRb : w.heap.size + 1 + 1 ≠ b := by omega
    have hDb : D ≠ b := by omega
    have hR := h7.at hk2 (by simp; omega)
    have cF0 : W.cell? ⟨w.heap.size + 1 + 1 + 1, 0, none⟩ = some (.int .i64 y1) := by rw [cell_of_row W _ 0 _ _ _ h4]; rfl
    have cF1 : W.cell? ⟨w.heap.size + 1 + 1 + 1, 1, none⟩ = some (.int .i64 y2) := by rw [cell_of_row W _ 1 _ _ _ h4]; rfl
    have cR0 : W.cell? ⟨w.heap.size + 1 + 1, 0, none⟩ = some (.int .i64 0) := by rw [cell_of_row W _ 0 _ _ _ hR]; rfl
    have cR1 : W.cell? ⟨w.heap.size + 1 + 1, 1, none⟩ = some (.int .i64 0) := by rw [cell_of_row W _ 1 _ _ _ hR]; rfl
    have fR := fun o => frozen_of_row W (w.heap.size + 1 + 1) o _ _ hR
    have hx7 : ∀ x ∈ [b, w.heap.size + 1 + 1 + 1], x ∈ [b] ∨ w.heap.size ≤ x := by
      intro x hx
      simp only [List.mem_cons, List.not_mem_nil, or_false] at hx
      rcases hx with hx | hx
      · exact .inl (List.mem_singleton.2 hx)
      · exact .inr (by omega)
    have HSZ := Hid.mk hsz
    have hvR : v'.ownBlock ≠ some (w.heap.size + 1 + 1) := fun e => by have := (h6.lt _ e).1; omega
    have hDR : D ≠ w.heap.size + 1 + 1 := by omega
    have hR2 : ((W.setCell ⟨w.heap.size + 1 + 1, 0, none⟩ (.int .i64 y1)).setCell ⟨w.heap.size + 1 + 1, 1, none⟩ (.int .i64 y2)).heap[w.heap.size + 1 + 1]? = some (.cells #[.int .i64 y1, .int .i64 y2] 88 (0, 0)) := by
      have e1 := heap_setCell_same W _ 0 _ _ (.int .i64 y1) hR
      have e2 := heap_setCell_same _ _ 1 _ _ (.int .i64 y2) e1
      simpa using e2
    have hKD : ((W.setCell ⟨w.heap.size + 1 + 1, 0, none⟩ (.int .i64 y1)).setCell ⟨w.heap.size + 1 + 1, 1, none⟩ (.int .i64 y2)).heap[D]? = some (.deferred (some [])) := by rw [Below.heap_setCell _ _ _ _ hDR, Below.heap_setCell _ _ _ _ hDR]; exact hK
    have hRR : ∀ ob, (((W.setCell ⟨w.heap.size + 1 + 1, 0, none⟩ (.int .i64 y1)).setCell ⟨w.heap.size + 1 + 1, 1, none⟩ (.int .i64 y2)).putObj D ob).heap[w.heap.size + 1 + 1]? = some (.cells #[.int .i64 y1, .int .i64 y2] 88 (0, 0)) := fun ob => (World.putObj_heap_other (Ne.symm hDR)).trans hR2
    have HF : Hid (RowAt w b o cs T (xs.eraseIdx i) (((W.setCell ⟨w.heap.size + 1 + 1, 0, none⟩ (.int .i64 y1)).setCell ⟨w.heap.size + 1 + 1, 1, none⟩ (.int .i64 y2)).drew.putObj D (.deferred none))) := by
      refine ⟨v', ?_, ?_, ?_⟩
      · refine (World.putObj_heap_other (Ne.symm hDb)).trans ?_
        show ((W.setCell ⟨w.heap.size + 1 + 1, 0, none⟩ (.int .i64 y1)).setCell ⟨w.heap.size + 1 + 1, 1, none⟩ (.int .i64 y2)).heap[b]? = _
        rw [Below.heap_setCell _ _ _ _ (Ne.symm hRb), Below.heap_setCell _ _ _ _ (Ne.symm hRb)]
        exact h5
      · exact ownsRow_putObj ((ownsRow_setCell_other (ownsRow_setCell_other (h6.mono hB0.size) hvR _) hvR _).drew) _ hKD rfl
      · exact ((((Kp.of_below hB0 [b]).trans h7 hx7).setCell (p := ⟨w.heap.size + 1 + 1, 0, none⟩) (.inr (by simp; omega)) _).setCell (p := ⟨w.heap.size + 1 + 1, 1, none⟩) (.inr (by simp; omega)) _).drew.grown (grownBy_putObj' _ D _) (fun k e => by cases e; exact .inr (by omega))
    clear hsz h2 h3 h4 h5 h6 h7 hK hpre hy1 hy2
    gi_wp2
    refine wpIn_wide.2 ?_
    go_region
    all_goals
      gi_wp2
      rw [Exit.noGoto_ret]
      refine ⟨by simp, .inl ⟨_, _, rfl, run_takeDeferred hKD, ?_⟩⟩
      have q0 : (((W.setCell ⟨w.heap.size + 1 + 1, 0, none⟩ (.int .i64 y1)).setCell ⟨w.heap.size + 1 + 1, 1, none⟩ (.int .i64 y2)).drew.putObj D (.deferred none)).cell? ⟨w.heap.size + 1 + 1, 0, none⟩ = some (.int .i64 y1) := by rw [cell_of_row _ (w.heap.size + 1 + 1) 0 _ _ _ (show (((W.setCell ⟨w.heap.size + 1 + 1, 0, none⟩ (.int .i64 y1)).setCell ⟨w.heap.size + 1 + 1, 1, none⟩ (.int .i64 y2)).drew.putObj D (.deferred none)).heap[w.heap.size + 1 + 1]? = _ from hRR _)]; rfl
      have q1 : (((W.setCell ⟨w.heap.size + 1 + 1, 0, none⟩ (.int .i64 y1)).setCell ⟨w.heap.size + 1 + 1, 1, none⟩ (.int .i64 y2)).drew.putObj D (.deferred none)).cell? ⟨w.heap.size + 1 + 1, 1, none⟩ = some (.int .i64 y2) := by rw [cell_of_row _ (w.heap.size + 1 + 1) 1 _ _ _ (show (((W.setCell ⟨w.heap.size + 1 + 1, 0, none⟩ (.int .i64 y1)).setCell ⟨w.heap.size + 1 + 1, 1, none⟩ (.int .i64 y2)).drew.putObj D (.deferred none)).heap[w.heap.size + 1 + 1]? = _ from hRR _)]; rfl
      refine ⟨.tuple #[.agg #[.int .i64 y1, .int .i64 y2], .bool true], by simp [results, Try.results61, go_sem, q0, q1], ?_⟩
      unfold FitPost
      rw [hN.out]
      exact ⟨HF.out, y1, y2, HY.out, rfl⟩
theorem fit_any {w : World} {b o base : Nat} {cs : Array Value} {T : TypeId} {v : Value} {xs : List (Int × Int)} (hb : w.heap[b]? = some (.cells cs T (0, 0))) (ho : cs[o]? = some v) (h : w.ownsRow base 88 2 v xs.length (wcells xs)) (hn : xs.length ≤ 4194304)
    (m : Int) (hm : 1 ≤ m) : Calls Try.prog 61 #[.pointer (some ⟨b, o, none⟩), .int .i64 m] w (FitPost xs m w b o cs T) := callsIn_wide.1 (fit_in hb ho h hn m hm 10 (by decide))
end Go.Proofs.Ytpfnnmcokbolhaa
/- A space and its link of segments, both of the call's own: the plain part. -/
namespace Go.Proofs.Ytpfnnmcokbolhaa
open Go.RowKit
set_option pp.deepTerms true
def LStp (W : World) (b p : Nat) (sz ca : Int) (hs : List Nat) (L : Lk) (W' : World) : Prop := ∃ hs', Lkd W' b p sz ca L hs' ∧ Kp hs W W' ∧ ∀ x ∈ hs', x ∈ hs ∨ W.heap.size ≤ x
/-- a space and a link over it; E: other blocks of the call's own -/
def Seg (w : World) (p b : Nat) (sz ca : Int) (S : Sp) (L : Lk) (E : List (Nat × Obj)) (W : World) : Prop := ∃ fs hs, Spc W p S fs ∧ Lkd W b p sz ca L hs ∧ (∀ x ∈ fs, x ∉ hs) ∧ (∀ x ∈ fs, w.heap.size ≤ x) ∧ (∀ x ∈ hs, w.heap.size ≤ x) ∧ Below w.heap.size w W ∧
  ∀ x ∈ E, x.1 ∉ fs ∧ x.1 ∉ hs ∧ W.heap[x.1]? = some x.2
section
variable {w W W' : World} {p b : Nat} {sz ca : Int} {S S' : Sp} {L L' : Lk} {E : List (Nat × Obj)} {fs hs : List Nat}
theorem Seg.sstp (hL : Lkd W b p sz ca L hs) (hd : ∀ x ∈ fs, x ∉ hs) (hf : ∀ x ∈ fs, w.heap.size ≤ x) (hg : ∀ x ∈ hs, w.heap.size ≤ x) (hb : Below w.heap.size w W) (hE : ∀ x ∈ E, x.1 ∉ fs ∧ x.1 ∉ hs ∧ W.heap[x.1]? = some x.2) (hs' : Stp W p fs S' W') : Seg w p b sz ca S' L E W' := by
  obtain ⟨fs', h1, h2, h3⟩ := hs'
  have hgl := hL.lt
  refine ⟨fs', hs, h1, hL.kp h2 (fun b hb q => hd b q hb), fun b hb' q => ?_, fun b hb' => (h3 b hb').elim (hf b) (fun q => Nat.le_trans hb.size q), hg, h2.to_below hb hf, fun x hx => ⟨fun q => ?_, (hE x hx).2.1, h2.at (hE x hx).2.2 (hE x hx).1⟩⟩
  · rcases h3 b hb' with c | c
    · exact hd b c q
    · have := hgl b q; omega
  · rcases h3 _ q with q | q
    · exact (hE x hx).1 q
    · have := lt_of_heap (hE x hx).2.2; omega
theorem Seg.lstp (hS : Spc W p S fs) (hd : ∀ x ∈ fs, x ∉ hs) (hf : ∀ x ∈ fs, w.heap.size ≤ x) (hg : ∀ x ∈ hs, w.heap.size ≤ x) (hb : Below w.heap.size w W) (hE : ∀ x ∈ E, x.1 ∉ fs ∧ x.1 ∉ hs ∧ W.heap[x.1]? = some x.2) (hs' : LStp W b p sz ca hs L' W') : Seg w p b sz ca S L' E W' := by
  obtain ⟨gs', h1, h2, h3⟩ := hs'
  have hfl := hS.lt
  refine ⟨fs, gs', hS.kp h2 hd, h1, fun b hb' q => ?_, hf, fun b hb' => (h3 b hb').elim (hg b) (fun q => Nat.le_trans hb.size q), h2.to_below hb hg, fun x hx => ⟨(hE x hx).1, fun q => ?_, h2.at (hE x hx).2.2 (hE x hx).2.1⟩⟩
  · rcases h3 b q with c | c
    · exact hd b hb' c
    · have := hfl b hb'; omega
  · rcases h3 _ q with q | q
    · exact (hE x hx).2.1 q
    · have := lt_of_heap (hE x hx).2.2; omega
theorem Seg.keep (h : Seg w p b sz ca S L E W) (k : Below W.heap.size W W') : Seg w p b sz ca S L E W' := by
  obtain ⟨fs, gs, h1, h2, h3, h4, h5, h6, h7⟩ := h
  exact ⟨fs, gs, h1.below k, h2.below k, h3, h4, h5, h6.trans (k.mono h6.size), fun x hx => ⟨(h7 x hx).1, (h7 x hx).2.1, below_at k (h7 x hx).2.2 (lt_of_heap (h7 x hx).2.2)⟩⟩
theorem Seg.size (h : Seg w p b sz ca S L E W) : Below w.heap.size w W := let ⟨_, _, _, _, _, _, _, q, _⟩ := h; q
theorem Seg.alloc (h : Seg w p b sz ca S L E W) (o : Obj) : Seg w p b sz ca S L ((W.heap.size, o) :: E) (W.alloc o) := by
  have hk := h.keep ((Below.refl W.heap.size W).alloc (Nat.le_refl _) o)
  obtain ⟨fs0, gs0, q1, q2, q3, q4, q5, q6, q7⟩ := h
  have hb := (Below.refl W.heap.size W).alloc (Nat.le_refl _) o
  refine ⟨fs0, gs0, q1.below hb, q2.below hb, q3, q4, q5, hk.size, fun x hx => ?_⟩
  rcases List.mem_cons.1 hx with rfl | hx
  · exact ⟨fun q => by have := q1.lt _ q; omega, fun q => by have := q2.lt _ q; omega, heap_alloc_new W o⟩
  · exact ⟨(q7 x hx).1, (q7 x hx).2.1, below_at hb (q7 x hx).2.2 (lt_of_heap (q7 x hx).2.2)⟩
theorem Seg.at (h : Seg w p b sz ca S L E W) {B : Nat} {o : Obj} (hm : (B, o) ∈ E) : W.heap[B]? = some o := by
  obtain ⟨fs, gs, h1, h2, h3, h4, h5, h6, h7⟩ := h
  exact (h7 _ hm).2.2
theorem Seg.box (h : Seg w p b sz ca S L E W) {B j : Nat} {cs : Array Value} {T : TypeId} {v : Value} (hm : (B, Obj.cells cs T (0, 0)) ∈ E) (hv : cs[j]? = some v) : W.cell? ⟨B, j, none⟩ = some v := by
  rw [cell_of_row W B j _ _ _ (h.at hm), hv]
theorem Seg.free (h : Seg w p b sz ca S L E W) {B : Nat} {cs : Array Value} {T : TypeId} (hm : (B, Obj.cells cs T (0, 0)) ∈ E) (j : Nat) : W.frozen? ⟨B, j, none⟩ = false := frozen_of_row W B j _ _ (h.at hm)
theorem Seg.sub (h : Seg w p b sz ca S L E W) {E' : List (Nat × Obj)} (hs : ∀ x ∈ E', x ∈ E) : Seg w p b sz ca S L E' W := by
  obtain ⟨fs, gs, h1, h2, h3, h4, h5, h6, h7⟩ := h
  exact ⟨fs, gs, h1, h2, h3, h4, h5, h6, fun x hx => h7 x (hs x hx)⟩
theorem Seg.ltE (h : Seg w p b sz ca S L E W) : ∀ x ∈ E, x.1 < W.heap.size := by
  obtain ⟨fs, gs, h1, h2, h3, h4, h5, h6, h7⟩ := h
  exact fun x hx => lt_of_heap (h7 x hx).2.2
theorem Seg.store {B : Nat} {cs : Array Value} {T : TypeId} (h : Seg w p b sz ca S L ((B, .cells cs T) :: E) W) (hw : w.heap.size ≤ B) (hE : ∀ x ∈ E, x.1 ≠ B) (j : Nat) (u : Value) : Seg w p b sz ca S L ((B, .cells (cs.setIfInBounds j u) T) :: E) (W.setCell ⟨B, j, none⟩ u) := by
  obtain ⟨fs, gs, h1, h2, h3, h4, h5, h6, h7⟩ := h
  have hB := h7 _ (List.Mem.head _)
  have k : Kp [B] W (W.setCell ⟨B, j, none⟩ u) := (Kp.refl _ _).setCell (.inl (by simp)) _
  have hn : ∀ b ∈ fs, b ∉ [B] := fun b hb q => by simp only [List.mem_singleton] at q; subst q; exact hB.1 hb
  have hn' : ∀ b ∈ gs, b ∉ [B] := fun b hb q => by simp only [List.mem_singleton] at q; subst q; exact hB.2.1 hb
  refine ⟨fs, gs, h1.kp k hn, h2.kp k hn', h3, h4, h5, h6.setCell (p := ⟨B, j, none⟩) hw _, fun x hx => ?_⟩
  rcases List.mem_cons.1 hx with rfl | hx
  · exact ⟨hB.1, hB.2.1, by have := heap_setCell_same W B j _ _ u hB.2.2; simpa using this⟩
  · have := h7 x (List.mem_cons_of_mem _ hx)
    exact ⟨this.1, this.2.1, k.at this.2.2 (by simpa using hE x hx)⟩
/-- the link's cells -/
theorem Seg.link (h : Seg w p b sz ca S L E W) : ∃ lv kv, LkAt W b p sz ca L lv kv := by
  obtain ⟨fs, gs, h1, ⟨lv, kv, h2, _⟩, _⟩ := h
  exact ⟨lv, kv, h2⟩
theorem lk_kept {lv kv : Value} {ks : List (Int × Int)} (h : LkAt W b p sz ca L lv kv) (hr : RowAt W b 4 #[.pointer (some ⟨p, 0, none⟩), .int .i64 sz, .int .i64 ca, lv, kv] 122 ks W') : LStp W b p sz ca (lfoot b lv kv) ⟨L.live, ks⟩ W' := by
  obtain ⟨v', h1, h2, h3⟩ := hr
  have hd0 := List.nodup_cons.1 h.nodup
  have hd1 := List.nodup_append.1 hd0.2
  have hlt := h.lt
  have hv : ∀ x, v'.ownBlock = some x → W.heap.size ≤ x := fun x hx => (h2.lt x hx).1
  have hbl := lt_of_heap h.head
  refine ⟨_, ⟨lv, v', ⟨by simpa using h1, ?_, h2.mono (Nat.zero_le _), ?_⟩, rfl⟩, h3.mono (by simp [lfoot]), ?_⟩
  · refine h3.row h.live (fun g hg q => ?_)
    simp only [List.mem_singleton] at q
    subst q
    exact hd0.1 (List.mem_append.2 (.inl (by simp [hg])))
  · unfold lfoot
    refine List.nodup_cons.2 ⟨?_, List.nodup_append.2 ⟨hd1.1, by cases v'.ownBlock <;> simp, ?_⟩⟩
    · intro q
      simp only [List.mem_append, Option.mem_toList] at q
      rcases q with q | q
      · exact hd0.1 (List.mem_append.2 (.inl (by simp [q])))
      · have := hv b q; omega
    · intro x hx y hy e
      subst e
      simp only [Option.mem_toList] at hx hy
      have := hv x hy
      have := hlt x (by simp [lfoot, hx])
      omega
  · intro x hx
    simp only [lfoot, List.mem_cons, List.mem_append, Option.mem_toList] at hx ⊢
    rcases hx with q | q | q
    · exact .inl (.inl q)
    · exact .inl (.inr (.inl q))
    · exact .inr (hv x q)
theorem lk_liveRow {lv kv : Value} {ls : List (Int × Int)} (h : LkAt W b p sz ca L lv kv) (hr : RowAt W b 3 #[.pointer (some ⟨p, 0, none⟩), .int .i64 sz, .int .i64 ca, lv, kv] 122 ls W') : LStp W b p sz ca (lfoot b lv kv) ⟨ls, L.kept⟩ W' := by
  obtain ⟨v', h1, h2, h3⟩ := hr
  have hd0 := List.nodup_cons.1 h.nodup
  have hd1 := List.nodup_append.1 hd0.2
  have hlt := h.lt
  have hv : ∀ x, v'.ownBlock = some x → W.heap.size ≤ x := fun x hx => (h2.lt x hx).1
  have hbl := lt_of_heap h.head
  refine ⟨_, ⟨v', kv, ⟨by simpa using h1, h2.mono (Nat.zero_le _), ?_, ?_⟩, rfl⟩, h3.mono (by simp [lfoot]), ?_⟩
  · refine h3.row h.kept (fun g hg q => ?_)
    simp only [List.mem_singleton] at q
    subst q
    exact hd0.1 (List.mem_append.2 (.inr (by simp [hg])))
  · unfold lfoot
    refine List.nodup_cons.2 ⟨?_, List.nodup_append.2 ⟨by cases v'.ownBlock <;> simp, hd1.2.1, ?_⟩⟩
    · intro q
      simp only [List.mem_append, Option.mem_toList] at q
      rcases q with q | q
      · have := hv b q; omega
      · exact hd0.1 (List.mem_append.2 (.inr (by simp [q])))
    · intro x hx y hy e
      subst e
      simp only [Option.mem_toList] at hx hy
      have := hv x hx
      have := hlt x (by simp [lfoot, hy])
      omega
  · intro x hx
    simp only [lfoot, List.mem_cons, List.mem_append, Option.mem_toList] at hx ⊢
    rcases hx with q | q | q
    · exact .inl (.inl q)
    · exact .inr (hv x q)
    · exact .inl (.inr (.inr q))
/-- one more behind the live ones (o = 3), or behind the kept ones (o = 4) -/
theorem lk_push {lv kv : Value} {w2 : World} {y1 y2 : Int} {g2 cap2 : Nat} {ob : Obj} (h : LkAt W b p sz ca L lv kv) (hown2 : w2.ownsRow 0 88 2 (.slice (some ⟨g2, 0, none⟩) (L.live.length + 1) cap2) (L.live.length + 1) (wcells L.live ++ [.int .i64 y1, .int .i64 y2]))
    (hg2 : (W.alloc ob).grownBy w2 lv.ownBlock) (hat : lv.ownBlock = some g2 ∨ g2 = W.heap.size + 1) : LStp W b p sz ca (lfoot b lv kv) ⟨L.live ++ [(y1, y2)], L.kept⟩ (w2.setCell ⟨b, 3, none⟩ (.slice (some ⟨g2, 0, none⟩) (L.live.length + 1) cap2)) := by
  have hd0 := List.nodup_cons.1 h.nodup
  have hd1 := List.nodup_append.1 hd0.2
  have hlt := h.lt
  have hbl := lt_of_heap h.head
  have hbt : lv.ownBlock ≠ some b := fun e => hd0.1 (List.mem_append.2 (.inl (by simp [e])))
  have hbk : kv.ownBlock ≠ some b := fun e => hd0.1 (List.mem_append.2 (.inr (by simp [e])))
  have hlk : ∀ x, kv.ownBlock = some x → lv.ownBlock ≠ some x := fun x e e2 => hd1.2.2 x (by simp [e2]) x (by simp [e]) rfl
  have hgb : g2 ≠ b := by
    rcases hat with e | e
    · rintro rfl; exact hbt e
    · omega
  have hgk : kv.ownBlock ≠ some g2 := fun e => by
    rcases hat with q | q
    · exact hlk g2 e q
    · have := hlt g2 (by simp [lfoot, e]); omega
  have hh2 : w2.heap[b]? = some (.cells #[.pointer (some ⟨p, 0, none⟩), .int .i64 sz, .int .i64 ca, lv, kv] 122 (0, 0)) := (hg2.block b (by simp; omega) (fun e => hbt e.symm)).trans ((Below.heap_alloc _ _ _ hbl).trans h.head)
  refine ⟨_, ⟨.slice (some ⟨g2, 0, none⟩) (L.live.length + 1) cap2, kv, ⟨?_, ?_, ?_, ?_⟩, rfl⟩, ?_, ?_⟩
  · have := heap_setCell_same w2 b 3 _ _ (.slice (some ⟨g2, 0, none⟩) (L.live.length + 1) cap2) hh2
    simpa using this
  · rw [List.length_append, show wcells (L.live ++ [(y1, y2)]) = wcells L.live ++ [.int .i64 y1, .int .i64 y2] by simp [wcells, wcell]]
    exact ownsRow_setCell_other hown2 (by simp [Value.ownBlock, hgb]) _
  · refine ownsRow_setCell_other ((h.kept.alloc ob).kept hg2 ?_) (by simpa using hbk) _
    cases hx : kv.ownBlock with
    | none => exact .inl rfl
    | some x => exact .inr (fun e => hlk x hx e.symm)
  · simp only [lfoot, Value.ownBlock, Option.toList_some]
    refine List.nodup_cons.2 ⟨?_, List.nodup_append.2 ⟨by simp, hd1.2.1, ?_⟩⟩
    · intro q
      simp only [List.mem_append, List.mem_singleton, Option.mem_toList] at q
      rcases q with q | q
      · exact hgb q.symm
      · exact hbk q
    · intro x hx y hy e
      subst e
      simp only [List.mem_singleton, Option.mem_toList] at hx hy
      subst hx
      exact hgk hy
  · exact (((Kp.refl _ W).alloc ob).grown hg2 (fun x hx => .inl (by simp [lfoot, hx]))).setCell (.inl (by simp [lfoot])) _
  · intro x hx
    simp only [lfoot, Value.ownBlock, Option.toList_some, List.mem_cons, List.mem_append, List.not_mem_nil, or_false, Option.mem_toList] at hx ⊢
    rcases hx with q | q | q
    · exact .inl (.inl q)
    · subst q
      rcases hat with q | q
      · exact .inl (.inr (.inl q))
      · exact .inr (by omega)
    · exact .inl (.inr (.inr q))
theorem lk_keep1 {lv kv : Value} {w2 : World} {y1 y2 : Int} {g2 cap2 : Nat} {ob : Obj} (h : LkAt W b p sz ca L lv kv) (hown2 : w2.ownsRow 0 88 2 (.slice (some ⟨g2, 0, none⟩) (L.kept.length + 1) cap2) (L.kept.length + 1) (wcells L.kept ++ [.int .i64 y1, .int .i64 y2]))
    (hg2 : (W.alloc ob).grownBy w2 kv.ownBlock) (hat : kv.ownBlock = some g2 ∨ g2 = W.heap.size + 1) : LStp W b p sz ca (lfoot b lv kv) ⟨L.live, L.kept ++ [(y1, y2)]⟩ (w2.setCell ⟨b, 4, none⟩ (.slice (some ⟨g2, 0, none⟩) (L.kept.length + 1) cap2)) := by
  have hd0 := List.nodup_cons.1 h.nodup
  have hd1 := List.nodup_append.1 hd0.2
  have hlt := h.lt
  have hbl := lt_of_heap h.head
  have hbt : lv.ownBlock ≠ some b := fun e => hd0.1 (List.mem_append.2 (.inl (by simp [e])))
  have hbk : kv.ownBlock ≠ some b := fun e => hd0.1 (List.mem_append.2 (.inr (by simp [e])))
  have hlk : ∀ x, lv.ownBlock = some x → kv.ownBlock ≠ some x := fun x e e2 => hd1.2.2 x (by simp [e]) x (by simp [e2]) rfl
  have hgb : g2 ≠ b := by
    rcases hat with e | e
    · rintro rfl; exact hbk e
    · omega
  have hgl : lv.ownBlock ≠ some g2 := fun e => by
    rcases hat with q | q
    · exact hlk g2 e q
    · have := hlt g2 (by simp [lfoot, e]); omega
  have hh2 : w2.heap[b]? = some (.cells #[.pointer (some ⟨p, 0, none⟩), .int .i64 sz, .int .i64 ca, lv, kv] 122 (0, 0)) := (hg2.block b (by simp; omega) (fun e => hbk e.symm)).trans ((Below.heap_alloc _ _ _ hbl).trans h.head)
  refine ⟨_, ⟨lv, .slice (some ⟨g2, 0, none⟩) (L.kept.length + 1) cap2, ⟨?_, ?_, ?_, ?_⟩, rfl⟩, ?_, ?_⟩
  · have := heap_setCell_same w2 b 4 _ _ (.slice (some ⟨g2, 0, none⟩) (L.kept.length + 1) cap2) hh2
    simpa using this
  · refine ownsRow_setCell_other ((h.live.alloc ob).kept hg2 ?_) (by simpa using hbt) _
    cases hx : lv.ownBlock with
    | none => exact .inl rfl
    | some x => exact .inr (fun e => hlk x hx e.symm)
  · rw [List.length_append, show wcells (L.kept ++ [(y1, y2)]) = wcells L.kept ++ [.int .i64 y1, .int .i64 y2] by simp [wcells, wcell]]
    exact ownsRow_setCell_other hown2 (by simp [Value.ownBlock, hgb]) _
  · simp only [lfoot, Value.ownBlock, Option.toList_some]
    refine List.nodup_cons.2 ⟨?_, List.nodup_append.2 ⟨hd1.1, by simp, ?_⟩⟩
    · intro q
      simp only [List.mem_append, List.mem_singleton, Option.mem_toList] at q
      rcases q with q | q
      · exact hbt q
      · exact hgb q.symm
    · intro x hx y hy e
      subst e
      simp only [List.mem_singleton, Option.mem_toList] at hx hy
      subst hy
      exact hgl hx
  · exact (((Kp.refl _ W).alloc ob).grown hg2 (fun x hx => .inl (by simp [lfoot, hx]))).setCell (.inl (by simp [lfoot])) _
  · intro x hx
    simp only [lfoot, Value.ownBlock, Option.toList_some, List.mem_cons, List.mem_append, List.not_mem_nil, or_false, Option.mem_toList] at hx ⊢
    rcases hx with q | q | q
    · exact .inl (.inl q)
    · exact .inl (.inr (.inl q))
    · subst q
      rcases hat with q | q
      · exact .inl (.inr (.inr q))
      · exact .inr (by omega)
end
end Go.Proofs.Ytpfnnmcokbolhaa
