/- Contracts of slices.Index and slices.Contains at values, and of the empty value. -/
import Derived.Test.YtkooogllajmkeaaSm
import Derived.Laws.StructEq
import Derived.Deep.QuietTactic
import Derived.BigQuiet
import Derived.LoopTactic
namespace Go.Proofs.Ytkooogllajmkeaa
open Go.RowKit

/-- whether a value is among values, as a place that is -1 if it isn't -/
def IdxPost (ws : List (Int × Int)) (v : Int × Int) (w : World) (e : Ending) (w' : World) : Prop :=
  Below w.heap.size w w' ∧ ∃ r : Int, e = .returned (.int .i64 r) ∧ ((r = -1 ∧ v ∉ ws) ∨ (0 ≤ r ∧ v ∈ ws))

theorem indexV_any (b o n cap : Nat) (ws : List (Int × Int)) (t m : Int) (w : World) (hb : b < w.heap.size) (hn : ws.length = n) (hn2 : n ≤ 4194304)
    (h0 : ∀ k (hk : k < ws.length), w.cell? ⟨b, o + k * 2, none⟩ = some (.int .i64 ws[k].1)) (h1 : ∀ k (hk : k < ws.length), w.cell? ⟨b, o + k * 2 + 1, none⟩ = some (.int .i64 ws[k].2)) :
    Calls Try.prog 83 #[.slice (some ⟨b, o, none⟩) n cap, .agg #[.int .i64 t, .int .i64 m]] w (IdxPost ws (t, m) w) := by
  have hn' := Hid.mk hn
  clear hn
  go_enter Try.func83, Try.ntmps83
  go_wp2
  go_loopw [5, 8] (fun _ i wr => ∃ k : Nat, i = .int .i64 k ∧ k ≤ n ∧ (∀ j (hj : j < ws.length), j < k → ws[j] ≠ (t, m)) ∧ Below (w.heap.size + 1) (w.alloc (.cells #[.int .i64 t, .int .i64 m] 29)) wr) (fun _ i _ => n - (intOf i).toNat)
  case atStart => exact ⟨0, rfl, by omega, fun _ _ q => absurd q (by omega), Below.refl _ _⟩
  case round =>
    obtain ⟨k, rfl, hk, hno, hbl⟩ := hrel
    by_cases hlt : k < n
    · have hk' : k < ws.length := by have := hn'.out; omega
      have c0 := ((below_of_alloc hbl).cell (p := ⟨b, o + k * 2, none⟩) hb).trans (h0 k hk')
      have c1 := ((below_of_alloc hbl).cell (p := ⟨b, o + k * 2 + 1, none⟩) hb).trans (h1 k hk')
      have d0 : wr.cell? ⟨w.heap.size, 0, none⟩ = some (.int .i64 t) := by rw [hbl.cell (p := ⟨w.heap.size, 0, none⟩) (by simp)]; simp
      have d1 : wr.cell? ⟨w.heap.size, 1, none⟩ = some (.int .i64 m) := by rw [hbl.cell (p := ⟨w.heap.size, 1, none⟩) (by simp)]; simp
      by_cases e : ws[k] = (t, m)
      · have f1 : (t == ws[k].1) = true := by simp [e]
        have f2 : (m == ws[k].2) = true := by simp [e]
        have E := Hid.mk e
        clear e
        go_wp2
        go_quiet (fail)
        go_wp2
        go_ret
        exact ⟨below_of_alloc (below_drewN hbl _), k, rfl, .inr ⟨by omega, by rw [← E.out]; exact List.getElem_mem hk'⟩⟩
      · have E : Hid (∀ j (hj : j < ws.length), j < k + 1 → ws[j] ≠ (t, m)) := by
          intro j hj hjk
          rcases Nat.lt_or_ge j k with q | q
          · exact hno j hj q
          · obtain rfl : j = k := by omega
            exact e
        by_cases e1 : t = ws[k].1
        · have f1 : (t == ws[k].1) = true := by simp [e1]
          have f2 : (m == ws[k].2) = false := by simp; intro e2; exact e (by rw [e1, e2])
          clear e1 e hno
          go_wp2
          go_quiet (fail)
          go_wp2
          exact ⟨⟨k + 1, by go_num, by omega, E.out, below_drewN hbl _⟩, by simp [intOf]; omega⟩
        · have f1 : (t == ws[k].1) = false := by simp [e1]
          clear e1 e hno
          go_wp2
          go_quiet (fail)
          go_wp2
          exact ⟨⟨k + 1, by go_num, by omega, E.out, below_drewN hbl _⟩, by simp [intOf]; omega⟩
    · obtain rfl : k = n := by omega
      go_wp2
      go_ret
      exact ⟨below_of_alloc hbl, -1, rfl, .inl ⟨rfl, fun q => by
        obtain ⟨j, hj, e⟩ := List.getElem_of_mem q
        exact hno j hj (by have := hn'.out; omega) e⟩⟩
theorem indexV_nil (t m : Int) (w : World) : Calls Try.prog 83 #[.slice none 0 0, .agg #[.int .i64 t, .int .i64 m]] w (IdxPost [] (t, m) w) := by
  go_enter Try.func83, Try.ntmps83
  go_wp2
  refine wp_loop_rounds 1 ?_; rw [rounds_succ]
  go_wp2
  go_ret
  exact ⟨(Below.refl _ _).alloc (Nat.le_refl _) _, -1, rfl, .inl ⟨rfl, by simp⟩⟩

def ConPost (ws : List (Int × Int)) (v : Int × Int) (w : World) (e : Ending) (w' : World) : Prop :=
  Below w.heap.size w w' ∧ e = .returned (.bool (decide (v ∈ ws)))
theorem containsV_of (s : Value) (ws : List (Int × Int)) (t m : Int) (w : World) (h : ∀ w1, Below w.heap.size w w1 → Calls Try.prog 83 #[s, .agg #[.int .i64 t, .int .i64 m]] w1 (IdxPost ws (t, m) w1)) :
    Calls Try.prog 59 #[s, .agg #[.int .i64 t, .int .i64 m]] w (ConPost ws (t, m) w) := by
  have HI := Hid.mk (h (w.alloc (.cells #[.int .i64 t, .int .i64 m] 29)) ((Below.refl _ _).alloc (Nat.le_refl _) _))
  clear h
  go_enter Try.func59, Try.ntmps59
  go_wp2_with fail
  refine HI.out.mono ?_
  clear HI
  rintro e w1 ⟨hb, r, rfl, ⟨rfl, hv⟩ | ⟨hr, hv⟩⟩
  · go_wp2
    go_ret
    exact ⟨((Below.refl _ _).alloc (Nat.le_refl _) _).trans (hb.mono (by simp)), by simp [hv]⟩
  · go_wp2
    go_ret
    exact ⟨((Below.refl _ _).alloc (Nat.le_refl _) _).trans (hb.mono (by simp)), by simp [hv]⟩

theorem empty_any (w : World) : Calls Try.prog 60 #[] w fun e w' => e = .returned (.agg #[.int .i64 0, .int .i64 0]) ∧ Below w.heap.size w w' := by
  go_enter Try.func60, Try.ntmps60
  go_wp2
  exact bodyPost_ret (v := .agg #[.int .i64 0, .int .i64 0]) (by simp [results, Try.results60, go_sem]) rfl ⟨rfl, ((Below.refl _ _).alloc (Nat.le_refl _) _).alloc (by simp) _⟩
end Go.Proofs.Ytkooogllajmkeaa
