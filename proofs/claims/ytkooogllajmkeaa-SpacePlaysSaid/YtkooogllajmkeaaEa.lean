/- The iterator of a space's regions: its contract for whatever loop. -/
import Derived.Test.YtkooogllajmkeaaMv
import Derived.RangeFuncNested
import Derived.RangeFuncBound
import Derived.RangeFuncCalls
import Derived.RangeFuncLeaves
import Derived.Shelf.Abstract
import Derived.OwnWalkIn
import Derived.TacticsInMore
import Derived.LoopNIn
import Derived.LoopIn
namespace Go.Proofs.Ytkooogllajmkeaa
open Go.RowKit Go.Shelf
attribute [local go_sem] Oper.semAt_some

abbrev In (ls : List LReg) : Type := { r : LReg // r ∈ ls }
def renc {ls : List LReg} (r : In ls) : Array Value := #[.agg #[.int .i64 r.1.base, .slice (some ⟨r.1.wb, 0, none⟩) r.1.words.length r.1.cap]]
theorem take_attach {ls : List LReg} {k : Nat} (hlt : k < ls.length) : ls.attach.take (k + 1) = ls.attach.take k ++ [⟨ls[k], List.getElem_mem hlt⟩] := by
  rw [List.take_succ_eq_append_getElem (by simpa using hlt)]; simp

set_option maxRecDepth 100000 in
set_option maxHeartbeats 1000000 in
theorem each_in (n : Nat) (p : Option Addr) (w : World) :
    CallsIn Fence.wide n Try.prog 46 #[.pointer p] w fun e w' => e = .returned (.func (.func 79) #[] #[.pointer (some ⟨w.heap.size, 0, none⟩)]) ∧ w' = w.alloc (.cells #[.pointer p] 52) := by
  refine callsIn_of_wp Try.func46 rfl trivial ?_ rfl
  simp only [Try.ntmps46, List.size_toArray, List.length_cons, List.length_nil, Nat.reduceAdd, Nat.reduceSub, Array.replicate_succ, Array.replicate_zero, List.push_toArray, List.append_toArray, List.nil_append, List.cons_append]
  gi_wp2
  go_ret
  exact ⟨rfl, rfl⟩

set_option maxRecDepth 100000 in
set_option maxHeartbeats 2000000 in
theorem each1_in (n : Nat) (hn : 1 ≤ n) (l Bn n₀ p B cap : Nat) (last : Int) (ls : List LReg) (hcnt : ls.length ≤ 4194304) (J Jx : List (In ls) → World → Prop) (B0 : Nat) (hJ : AbidesFrom B0 J)
    (hY : ∀ pre x W, J pre W → pre.length < ls.length → YieldAt Fence.wide (n - 1) Try.prog l (renc x) W fun e W' =>
      (e = .returned (.bool true) ∧ J (pre ++ [x]) W' ∧ Below n₀ W W') ∨ (e = .returned (.bool false) ∧ Jx (pre ++ [x]) W'))
    (W : World) (hBn : W.cell? ⟨Bn, 0, none⟩ = some (.pointer (some ⟨p, 0, none⟩))) (h : SpAt W p last (.slice (some ⟨B, 0, none⟩) ls.length cap) ls) (hf : ∀ b ∈ foot p (.slice (some ⟨B, 0, none⟩) ls.length cap) ls, b < n₀) (hn0 : n₀ ≤ W.heap.size) (h0 : J [] W) :
    CallsIn Fence.wide n Try.prog 79 #[.func (.yield l) #[] #[], .pointer (some ⟨Bn, 0, none⟩)] W fun e W' => (∃ v, e = .returned v) ∧
      ((∃ ys, ys = ls.attach ∧ J ys W') ∨ (∃ pre, pre <+: ls.attach ∧ Jx pre W')) := by
  have hc0 := h.cell0
  refine callsIn_of_wp Try.func79 rfl trivial ?_ rfl
  simp only [Try.ntmps79, List.size_toArray, List.length_cons, List.length_nil, Nat.reduceAdd, Nat.reduceSub, Array.replicate_succ, Array.replicate_zero, List.push_toArray, List.append_toArray, List.nil_append, List.cons_append]
  gi_wp2
  gi_loopw [12] (fun i wr => ∃ k : Nat, k ≤ ls.length ∧ i = .int .i64 k ∧ J (ls.attach.take k) wr ∧ Below n₀ W wr)
    (fun i _ => ls.length - (intOf i).toNat)
  case atStart => exact ⟨0, Nat.zero_le _, rfl, by simpa using h0, Below.refl _ _⟩
  case round =>
    obtain ⟨k, hk, rfl, hJs, hnx⟩ := hrel
    by_cases hlt : k < ls.length
    · have hB : B < n₀ := hf B (by simp [foot, Value.ownBlock])
      have hx := (hnx.cell (p := ⟨B, k * 2, none⟩) hB).trans (h.base hlt)
      have hy := (hnx.cell (p := ⟨B, k * 2 + 1, none⟩) hB).trans (h.wslice hlt)
      have hJ1 : ∀ o : Obj, J (ls.attach.take k) (wr.alloc o) := fun o => hJ _ _ _ none hJs (World.grownBy_alloc wr o none) (fun r e => by cases e)
      have HY := Hid.mk (hY _ ⟨ls[k], List.getElem_mem hlt⟩ _ (hJ1 (.cells #[.int .i64 ls[k].base, .slice (some ⟨ls[k].wb, 0, none⟩) ls[k].words.length ls[k].cap] 100)) (by rw [List.length_take, List.length_attach]; omega))
      clear hJ1
      obtain ⟨fn, tmps, assign, body, hyy, hR⟩ := HY.out
      unfold renc at hyy
      gi_wp2
      refine hR.mono ?_
      have hsz := hnx.size
      rintro e W3 (⟨rfl, hJ3, hk3⟩ | ⟨rfl, hJx3⟩)
      · gi_wp2
        go_roundw
        case rel => exact ⟨k + 1, by omega, by simp, by rw [take_attach hlt]; exact hJ3, (hnx.alloc (by omega) _).trans hk3⟩
        case measure => simp [intOf]; omega
      · gi_wp2
        refine bodyPost_ret (results_none rfl _ _ _) rfl ?_
        exact ⟨⟨_, rfl⟩, .inr ⟨_, by rw [← take_attach hlt]; exact List.take_prefix _ _, hJx3⟩⟩
    · obtain rfl : k = ls.length := by omega
      gi_wp2
      go_end0
      exact ⟨⟨_, rfl⟩, .inl ⟨_, rfl, by have q := hJs; rw [List.take_of_length_le (by simp)] at q; exact q⟩⟩

set_option maxRecDepth 100000 in
set_option maxHeartbeats 1000000 in
theorem each1_nil_in (n : Nat) (l Bn p : Nat) (J : List (In []) → World → Prop) (W : World) (hBn : W.cell? ⟨Bn, 0, none⟩ = some (.pointer (some ⟨p, 0, none⟩))) (hp : W.cell? ⟨p, 0, none⟩ = some (.slice none 0 0)) (h0 : J [] W) :
    CallsIn Fence.wide n Try.prog 79 #[.func (.yield l) #[] #[], .pointer (some ⟨Bn, 0, none⟩)] W fun e W' => (∃ v, e = .returned v) ∧ J [] W' := by
  refine callsIn_of_wp Try.func79 rfl trivial ?_ rfl
  simp only [Try.ntmps79, List.size_toArray, List.length_cons, List.length_nil, Nat.reduceAdd, Nat.reduceSub, Array.replicate_succ, Array.replicate_zero, List.push_toArray, List.append_toArray, List.nil_append, List.cons_append]
  gi_wp2
  gi_loopw [12] (fun i wr => i = .int .i64 0 ∧ J [] wr) (fun _ _ => 0)
  case atStart => exact ⟨rfl, h0⟩
  case round =>
    obtain ⟨rfl, hJs⟩ := hrel
    gi_wp2
    go_end0
    exact ⟨⟨_, rfl⟩, hJs⟩
theorem each1_none_in (n : Nat) (l Bn : Nat) (J : List (In []) → World → Prop) (W : World) (hBn : W.cell? ⟨Bn, 0, none⟩ = some (.pointer none)) (h0 : J [] W) :
    CallsIn Fence.wide n Try.prog 79 #[.func (.yield l) #[] #[], .pointer (some ⟨Bn, 0, none⟩)] W fun e W' => (∃ v, e = .returned v) ∧ J [] W' := by
  refine callsIn_of_wp Try.func79 rfl trivial ?_ rfl
  simp only [Try.ntmps79, List.size_toArray, List.length_cons, List.length_nil, Nat.reduceAdd, Nat.reduceSub, Array.replicate_succ, Array.replicate_zero, List.push_toArray, List.append_toArray, List.nil_append, List.cons_append]
  gi_wp2
  refine bodyPost_ret (results_none rfl _ _ _) rfl ?_
  exact ⟨⟨_, rfl⟩, h0⟩

/-- what each hands back tells all regions, in their order -/
theorem each_stops (n : Nat) (hn : 1 ≤ n) (Bn p n₀ : Nat) (last : Int) (sl : Value) (ls : List LReg) (hcnt : ls.length ≤ 4194304) (w : World) (hBs : Bn < w.heap.size) (hn₀ : n₀ ≤ w.heap.size)
    (hc : w.cell? ⟨Bn, 0, none⟩ = some (.pointer (some ⟨p, 0, none⟩))) (h : SpAt w p last sl ls) (hf : ∀ b ∈ foot p sl ls, b < n₀) :
    SeqStopsK Fence.wide n Try.prog 79 #[.pointer (some ⟨Bn, 0, none⟩)] (renc (ls := ls)) (Below n₀) (fun ys => ys = ls.attach) (fun pre => pre <+: ls.attach) ls.length w := fun l J Jx W hW hJ _ hY h0 => by
  have hc' := (hW.cell (p := ⟨Bn, 0, none⟩) hBs).trans hc
  have h' := h.below hW
  rcases h'.shape with ⟨rfl, rfl⟩ | ⟨B, cap, rfl, _⟩
  · exact (each1_nil_in n l Bn p J W hc' h'.cell0 h0).mono fun e W' ⟨he, hj⟩ => ⟨he, .inl ⟨_, rfl, hj⟩⟩
  · exact each1_in n hn l Bn n₀ p B cap last ls hcnt J Jx _ hJ hY W hc' h' hf (Nat.le_trans hn₀ hW.size) h0
theorem each_none_stops (n : Nat) (Bn n₀ : Nat) (w : World) (hBs : Bn < w.heap.size) (hc : w.cell? ⟨Bn, 0, none⟩ = some (.pointer none)) :
    SeqStopsK Fence.wide n Try.prog 79 #[.pointer (some ⟨Bn, 0, none⟩)] (renc (ls := [])) (Below n₀) (fun ys => ys = []) (fun pre => pre <+: []) 0 w := fun l J Jx W hW _ _ _ h0 => by
  have hc' := (hW.cell (p := ⟨Bn, 0, none⟩) hBs).trans hc
  exact (each1_none_in n l Bn J W hc' h0).mono fun e W' ⟨he, hj⟩ => ⟨he, .inl ⟨_, rfl, hj⟩⟩
end Go.Proofs.Ytkooogllajmkeaa
