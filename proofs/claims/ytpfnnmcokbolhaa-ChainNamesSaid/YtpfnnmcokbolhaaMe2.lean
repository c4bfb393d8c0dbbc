/- Parts Pt Dp Mv Ea Lv Rg Tk, put together. -/
import Derived.Test.YtpfnnmcokbolhaaMe1
import Derived.RangeFuncNested
import Derived.RangeFuncBound
import Derived.RangeFuncCalls
import Derived.RangeFuncLeaves
import Derived.Shelf.Abstract
import Derived.OwnWalkIn
import Derived.TacticsInMore
import Derived.LoopNIn
import Derived.LoopIn
import Derived.WalkMore
import Derived.Maps.AppendAt
import Derived.Deep.RegionHeld3
import Derived.Deep.AppendLies
import Derived.Deep.DeepCutAuto
import Derived.RegionTactic
import Derived.BigRegion
/- The contract of Put: a value is put into a word. -/
namespace Go.Proofs.Ytpfnnmcokbolhaa
open Go.RowKit

/-- region i has other words -/
def setWords (ls : List LReg) (i : Nat) (ws : List (Int × Int)) : List LReg := ls.modify i (fun r => { r with words := ws })
theorem setWords_get {ls : List LReg} {i : Nat} {ws : List (Int × Int)} (k : Nat) : (setWords ls i ws)[k]? = (ls[k]?).map (fun r => if i = k then { r with words := ws } else r) := by
  simp only [setWords, List.getElem?_modify]
  split <;> simp_all
theorem setWords_len {ls : List LReg} {i : Nat} {ws : List (Int × Int)} : (setWords ls i ws).length = ls.length := by simp [setWords]
theorem setWords_map {β : Type} {ls : List LReg} {i : Nat} {ws : List (Int × Int)} (f : LReg → β) (hf : ∀ (hi : i < ls.length), f { ls[i] with words := ws } = f ls[i]) : (setWords ls i ws).map f = ls.map f := by
  apply List.ext_getElem?
  intro k
  rw [List.getElem?_map, List.getElem?_map, setWords_get]
  rcases Nat.lt_or_ge k ls.length with hk | hk
  · simp only [hk, List.getElem?_eq_getElem, Option.map_some]
    split
    · rename_i q; subst q; rw [hf hk]
    · rfl
  · simp [List.getElem?_eq_none hk]
theorem flatMap_map' {α β γ : Type} (f : α → β) (g : β → List γ) (l : List α) : (l.map f).flatMap g = l.flatMap (fun a => g (f a)) := by
  induction l with
  | nil => rfl
  | cons a l ih => simp [ih]
theorem rcells_eq {l1 l2 : List LReg} (h : l1.map LReg.cells = l2.map LReg.cells) : rcells l1 = rcells l2 := by
  have : ∀ l : List LReg, rcells l = (l.map LReg.cells).flatMap id := fun l => by rw [flatMap_map']; rfl
  rw [this, this, h]
theorem setWords_mem {ls : List LReg} {i : Nat} {ws : List (Int × Int)} {r : LReg} (h : r ∈ setWords ls i ws) : (∃ hi : i < ls.length, r = { ls[i] with words := ws }) ∨ (r ∈ ls ∧ ∃ k, k ≠ i ∧ ls[k]? = some r) := by
  obtain ⟨k, hk⟩ := List.getElem?_of_mem h
  rw [setWords_get] at hk
  rcases Nat.lt_or_ge k ls.length with q | q
  · simp only [q, List.getElem?_eq_getElem, Option.map_some, Option.some.injEq] at hk
    split at hk
    · rename_i e; subst e; exact .inl ⟨q, hk.symm⟩
    · rename_i e; subst hk; exact .inr ⟨List.getElem_mem q, k, fun q' => e q'.symm, by simp [q]⟩
  · simp [List.getElem?_eq_none q] at hk

theorem wb_ne {p : Nat} {sl : Value} {ls : List LReg} (h : (foot p sl ls).Nodup) {i k : Nat} (hi : i < ls.length) (hk : k < ls.length) (hne : k ≠ i) : ls[k].wb ≠ ls[i].wb := by
  have h2 : (ls.map (·.wb)).Nodup := by
    have := (List.nodup_cons.1 h).2
    exact (List.nodup_append.1 this).2.1
  intro e
  rcases Nat.lt_or_gt_of_ne hne with q | q
  · exact List.pairwise_iff_getElem.1 h2 k i (by simpa using hk) (by simpa using hi) q (by simpa using e)
  · exact List.pairwise_iff_getElem.1 h2 i k (by simpa using hi) (by simpa using hk) q (by simpa using e.symm)

theorem SpAt.replace {w w' : World} {p : Nat} {last : Int} {sl : Value} {ls : List LReg} (h : SpAt w p last sl ls) {i : Nat} (hi : i < ls.length) (k : Kp [ls[i].wb] w w') (ws : List (Int × Int)) (hl : ws.length = ls[i].words.length)
    (hrow : w'.ownsRow 0 34 2 (.slice (some ⟨ls[i].wb, 0, none⟩) ls[i].words.length ls[i].cap) ls[i].words.length (wcells ws)) : SpAt w' p last sl (setWords ls i ws) := by
  have hnd := h.nodup
  have hin : ls[i].wb ∈ ls.map (·.wb) := List.mem_map.2 ⟨_, List.getElem_mem hi, rfl⟩
  have hp : p ≠ ls[i].wb := by
    rintro e
    exact (List.nodup_cons.1 hnd).1 (List.mem_append.2 (.inr (e ▸ hin)))
  have hB : ∀ g, sl.ownBlock = some g → g ∉ [ls[i].wb] := by
    intro g hg e
    have hdis := (List.nodup_append.1 (List.nodup_cons.1 hnd).2).2.2
    simp only [List.mem_singleton] at e
    exact hdis g (by simp [hg]) _ hin e
  refine ⟨k.at h.head (by simpa using hp), ?_, ?_, ?_⟩
  · rw [setWords_len, rcells_eq (setWords_map _ (fun _ => by simp [LReg.cells, hl]))]
    exact k.row h.row hB
  · intro r hr
    rcases setWords_mem hr with ⟨_, rfl⟩ | ⟨hr, q, hq, hqr⟩
    · simpa [hl] using hrow
    · refine k.row (h.words r hr) ?_
      intro g hg
      simp [Value.ownBlock] at hg
      subst hg
      obtain ⟨hql, rfl⟩ := List.getElem?_eq_some_iff.1 hqr
      simpa using wb_ne hnd hi hql hq
  · unfold foot
    rw [setWords_map (fun r => r.wb) (fun _ => rfl)]
    exact hnd
theorem foot_setWords {p : Nat} {sl : Value} {ls : List LReg} {i : Nat} {ws : List (Int × Int)} : foot p sl (setWords ls i ws) = foot p sl ls := by
  unfold foot
  rw [setWords_map (fun r => r.wb) (fun _ => rfl)]
theorem RegsOk.replace {last : Int} {ls : List LReg} (h : RegsOk last ls) {i : Nat} (hi : i < ls.length) (ws : List (Int × Int)) (hl : ws.length = ls[i].words.length) : RegsOk last (setWords ls i ws) := by
  have e : (setWords ls i ws).map (fun r => (r.base, r.words.length)) = ls.map (fun r => (r.base, r.words.length)) := setWords_map _ (fun _ => by simp [hl])
  refine ⟨?_, ?_, h.last0, h.last1, ?_⟩
  · intro r hr
    rcases setWords_mem hr with ⟨_, rfl⟩ | ⟨hr, _⟩
    · have := h.lo _ (List.getElem_mem hi)
      simpa [hl] using this
    · exact h.lo r hr
  · have hs := h.sep
    have : ∀ l : List LReg, l.Pairwise (fun a b => a.base + (a.words.length : Int) < b.base) ↔ (l.map (fun r => (r.base, r.words.length))).Pairwise (fun a b => a.1 + (a.2 : Int) < b.1) := fun l => by rw [List.pairwise_map]
    rw [this] at hs ⊢
    rw [e]; exact hs
  · rw [setWords_map (fun r => r.words.length) (fun _ => by simp [hl])]
    exact h.live

def PutPost (p : Nat) (last : Int) (sl : Value) (ls : List LReg) (a t n : Int) (w : World) (e : Ending) (w' : World) : Prop :=
  (∃ (i j : Nat) (hi : i < ls.length) (_ : j < ls[i].words.length), a = ls[i].base + j ∧
      ((okV t n = false ∧ Below w.heap.size w w' ∧ e = .returned (.int .i64 21)) ∨
       (okV t n = true ∧ Kp [ls[i].wb] w w' ∧ SpAt w' p last sl (setWords ls i (ls[i].words.set j (t, n))) ∧ e = .returned (.int .i64 0)))) ∨
   ((∀ (i : Nat) (hi : i < ls.length), hasB ls[i].base ls[i].words.length a 1 = false) ∧ Below w.heap.size w w' ∧ e = .returned (.int .i64 210))

theorem wcells_set : ∀ (l : List (Int × Int)) (j : Nat) (v : Int × Int), wcells (l.set j v) = ((wcells l).set (j * 2) (.int .i64 v.1)).set (j * 2 + 1) (.int .i64 v.2)
  | [], j, v => by simp [wcells]
  | x :: l, 0, v => by simp [wcells, wcell]
  | x :: l, j + 1, v => by
    have := wcells_set l j v
    simp only [wcells, List.set_cons_succ, List.flatMap_cons, wcell] at this ⊢
    rw [this]
    simp [show (j + 1) * 2 = j * 2 + 2 by omega]

theorem SpAt.wrow {w : World} {p : Nat} {last : Int} {sl : Value} {ls : List LReg} (h : SpAt w p last sl ls) {i : Nat} (hi : i < ls.length) : w.ownsRow 0 34 2 (.slice (some ⟨ls[i].wb, 0, none⟩) ls[i].words.length ls[i].cap) ls[i].words.length (wcells ls[i].words) := h.words _ (List.getElem_mem hi)

set_option maxRecDepth 100000 in
theorem put_any {w : World} {p : Nat} {last : Int} {sl : Value} {ls : List LReg} (h : SpAt w p last sl ls) (ok : RegsOk last ls) (a t n : Int) :
    Calls Try.prog 47 #[.pointer (some ⟨p, 0, none⟩), .int .i64 a, .agg #[.int .i64 t, .int .i64 n]] w (PutPost p last sl ls a t n w) := by
  have hb0 : Below w.heap.size w (w.alloc (.cells #[.int .i64 t, .int .i64 n] 34)) := (Below.refl _ _).alloc (Nat.le_refl _) _
  have HF := Hid.mk (some_any (h.below hb0) ok a 1)
  go_enter Try.func47, Try.ntmps47
  go_wp2_with fail
  refine HF.out.mono ?_
  clear HF
  rintro e w1 ⟨hb, ⟨q, _⟩ | ⟨i, j, k, hi, rfl, hk1, hk, hjk, rfl⟩ | ⟨hm, hno, rfl⟩⟩
  · exact absurd q (by omega)
  all_goals
    obtain ⟨c0, c1, f0, hsz⟩ := box2 hb
    have hbb := hb0.trans (hb.mono hb0.size)
  · obtain rfl : k = 1 := by omega
    have hj : j < ls[i].words.length := by omega
    clear hk1
    go_wp2_with fail
    refine (check_any t n _).mono ?_
    rintro e w2 ⟨rfl, hb2⟩
    have hb3 := hbb.trans (hb2.mono hbb.size)
    have h3 := h.below hb3
    cases hok : okV t n
    · rw [chk_no hok]
      have HO := Hid.mk hok
      clear hok
      go_wp2
      go_ret
      exact .inl ⟨i, j, hi, hj, rfl, .inl ⟨HO.out, hb3, rfl⟩⟩
    · rw [chk_ok hok]
      have HO := Hid.mk hok
      clear hok
      have d0 := (hb2.cell (p := ⟨w.heap.size, 0, none⟩) hsz).trans c0
      have d1 := (hb2.cell (p := ⟨w.heap.size, 1, none⟩) hsz).trans c1
      have x0 := h3.type hi hj
      have x1 := h3.num hi hj
      have g0 := row_free (h3.wrow hi)
      go_wp2
      go_ret
      refine .inl ⟨i, j, hi, hj, rfl, .inr ⟨HO.out, ?_, ?_, rfl⟩⟩
      · exact ((Kp.of_below hb3 _).setCell (.inl (by simp)) _).setCell (.inl (by simp)) _
      · refine h3.replace hi (((Kp.refl _ _).setCell (.inl (by simp)) _).setCell (.inl (by simp)) _) _ (by simp) ?_
        rw [wcells_set]
        exact (((h3.wrow hi).stored (j * 2) _).1.stored (j * 2 + 1) _).1
  · go_wp2
    go_ret
    exact .inr ⟨fun i hi => hno i hi (by omega), hbb, rfl⟩
end Go.Proofs.Ytpfnnmcokbolhaa
/- The contract of Drop: words are emptied. -/
namespace Go.Proofs.Ytpfnnmcokbolhaa
open Go.RowKit

theorem zeroV (w : World) : (zeroValue 34).run Try.prog w = .ok (.agg #[.int .i64 0, .int .i64 0]) w := by kernel_rfl
/-- words laid over others, from the j-th on -/
def over (l : List (Int × Int)) (j : Nat) (vs : List (Int × Int)) : List (Int × Int) := l.take j ++ (vs ++ l.drop (j + vs.length))
theorem over_len {l vs : List (Int × Int)} {j : Nat} (h : j + vs.length ≤ l.length) : (over l j vs).length = l.length := by simp [over]; omega
theorem wcells_app (a b : List (Int × Int)) : wcells (a ++ b) = wcells a ++ wcells b := by simp [wcells]
theorem wcells_take (l : List (Int × Int)) (j : Nat) : wcells (l.take j) = (wcells l).take (j * 2) := by
  induction l generalizing j with
  | nil => simp [wcells]
  | cons a l ih =>
    cases j with
    | zero => simp [wcells]
    | succ j => have := ih j; simp only [wcells, List.take_succ_cons, List.flatMap_cons, wcell, show (j + 1) * 2 = j * 2 + 2 by omega] at this ⊢; rw [this]; simp
theorem wcells_drop (l : List (Int × Int)) (j : Nat) : wcells (l.drop j) = (wcells l).drop (j * 2) := by
  induction l generalizing j with
  | nil => simp [wcells]
  | cons a l ih =>
    cases j with
    | zero => simp [wcells]
    | succ j => have := ih j; simp only [wcells, List.drop_succ_cons, List.flatMap_cons, wcell, show (j + 1) * 2 = j * 2 + 2 by omega] at this ⊢; rw [this]; simp
theorem wcells_over (l : List (Int × Int)) (j : Nat) (vs : List (Int × Int)) : wcells (over l j vs) = splice (wcells l) (j * 2) (wcells vs) := by
  unfold over splice
  rw [wcells_app, wcells_app, wcells_take, wcells_drop, wcells_len, Nat.add_mul]
theorem zeros_cells (k : Nat) : (Builtin.zeroCells #[Value.int .i64 0, .int .i64 0] k).toList = wcells (List.replicate k (0, 0)) := by
  apply List.ext_getElem?
  intro i
  rcases Nat.lt_or_ge i (k * 2) with h | h
  · have h1 : i < (Builtin.zeroCells #[Value.int .i64 0, .int .i64 0] k).toList.length := by simp [Builtin.zeroCells]; omega
    have h2 : i / 2 < (List.replicate k ((0 : Int), (0 : Int))).length := by simp; omega
    rcases Nat.mod_two_eq_zero_or_one i with e | e
    · have := wcells_fst h2
      rw [show i / 2 * 2 = i by omega] at this
      rw [this]
      simp [Builtin.zeroCells, h, e]
    · have := wcells_snd h2
      rw [show i / 2 * 2 + 1 = i by omega] at this
      rw [this]
      simp [Builtin.zeroCells, h, e]
  · rw [List.getElem?_eq_none (by simp [Builtin.zeroCells]; omega), List.getElem?_eq_none (by rw [wcells_len]; simp; omega)]


theorem wpList_clear_nil {P : Program} {w : World} {e : TypeId} {ops : Array Oper} {rest : List Oper} {o : Oper} {a : Act} {Q : Exit → Act → World → Prop} (hgd : o.guard = none) (s : Operand) (t : TypeId)
    (ho : o.op = .call { callee := .builtin .clear, args := #[s], argTypes := #[t] }) (ht : P.underlying t = some (.slice e)) (k c : Nat) (hs : a.eval s = .slice none k c)
    (h : wpList P ops Q rest (a.put o.dst (.tuple #[])) w) : wpList P ops Q (o :: rest) a w := by
  refine wpList_plain hgd fun K hK => ?_
  have hrun : (Builtin.clear_ #[t] o.type #[.slice none k c]).run P w = .ok (.tuple #[]) w := by
    simp [Builtin.clear_, run_underlying ht]
  unfold Oper.wp
  simp [execOp, ho, resolve, invoke, builtin, hs, hrun, Result.andThen]
  exact hK _ _ h
/-- what Drop and Move come to -/
def DropPost (p : Nat) (last : Int) (sl : Value) (ls : List LReg) (a m : Int) (w : World) (e : Ending) (w' : World) : Prop :=
  (m = 0 ∧ Below w.heap.size w w' ∧ e = .returned (.int .i64 0)) ∨
  (∃ (i j k : Nat) (hi : i < ls.length), a = ls[i].base + j ∧ m = k ∧ 1 ≤ k ∧ j + k ≤ ls[i].words.length ∧ Kp [ls[i].wb] w w' ∧ SpAt w' p last sl (setWords ls i (over ls[i].words j (List.replicate k (0, 0)))) ∧ e = .returned (.int .i64 0)) ∨
  (m ≠ 0 ∧ (∀ (i : Nat) (hi : i < ls.length), 0 ≤ m → hasB ls[i].base ls[i].words.length a m = false) ∧ Below w.heap.size w w' ∧ e = .returned (.int .i64 210))

set_option maxRecDepth 100000 in
theorem drop_any {w : World} {p : Nat} {last : Int} {sl : Value} {ls : List LReg} (h : SpAt w p last sl ls) (ok : RegsOk last ls) (a m : Int) :
    Calls Try.prog 50 #[.pointer (some ⟨p, 0, none⟩), .int .i64 a, .int .i64 m] w (DropPost p last sl ls a m w) := by
  have HF := Hid.mk (some_any h ok a m)
  go_enter Try.func50, Try.ntmps50
  go_wp2_with fail
  refine HF.out.mono ?_
  clear HF
  rintro e w1 ⟨hb, ⟨rfl, rfl⟩ | ⟨i, j, k, hi, rfl, rfl, hk, hjk, rfl⟩ | ⟨hm, hno, rfl⟩⟩
  · go_wp2_with (with_reducible refine wpList_clear_nil rfl (.tmp 16) 32 rfl Try.underlying32 0 0 rfl ?_)
    go_ret
    exact .inl ⟨rfl, hb, rfl⟩
  · have h1 := h.below hb
    have hr := h1.wrow hi
    go_wp2_with (with_reducible refine wpList_clear_row rfl (.tmp 16) 32 rfl Try.underlying32 (.agg #[.int .i64 0, .int .i64 0]) zeroV (j * 2) k (ls[i].cap - j) rfl hk hr (wcells (List.replicate k (0, 0))) ?c0 ?c1 (mem_one _) ?_)
    case c0 => exact zeros_cells k
    case c1 => rw [wcells_len]; simp; omega
    intro w2 hr2 hg2
    go_wp2
    go_ret
    refine .inr (.inl ⟨i, j, k, hi, rfl, rfl, hk, hjk, ?_, ?_, rfl⟩)
    · exact (Kp.of_below hb _).grown hg2 (by intro q hq; simp at hq; exact .inl (by simp [hq]))
    · refine h1.replace hi ((Kp.refl _ _).grown hg2 (by intro q hq; simp at hq; exact .inl (by simp [hq]))) _ (over_len (by simp; omega)) ?_
      rw [wcells_over]; exact hr2
  · go_wp2_with (with_reducible refine wpList_clear_nil rfl (.tmp 16) 32 rfl Try.underlying32 0 0 rfl ?_)
    go_ret
    exact .inr (.inr ⟨hm, hno, hb, rfl⟩)
end Go.Proofs.Ytpfnnmcokbolhaa
/- The contract of Move: words go over. -/
namespace Go.Proofs.Ytpfnnmcokbolhaa
open Go.RowKit
end Go.Proofs.Ytpfnnmcokbolhaa
/- The iterator of a space's regions: its contract for whatever loop. -/
namespace Go.Proofs.Ytpfnnmcokbolhaa
open Go.RowKit Go.Shelf
attribute [local go_sem] Oper.semAt_some

abbrev In (ls : List LReg) : Type := { r : LReg // r ∈ ls }
def renc {ls : List LReg} (r : In ls) : Array Value := #[.agg #[.int .i64 r.1.base, .slice (some ⟨r.1.wb, 0, none⟩) r.1.words.length r.1.cap]]
theorem take_attach {ls : List LReg} {k : Nat} (hlt : k < ls.length) : ls.attach.take (k + 1) = ls.attach.take k ++ [⟨ls[k], List.getElem_mem hlt⟩] := by
  rw [List.take_succ_eq_append_getElem (by simpa using hlt)]; simp

set_option maxRecDepth 100000 in
set_option maxHeartbeats 1000000 in
theorem each_in (n : Nat) (p : Option Addr) (w : World) :
    CallsIn Fence.wide n Try.prog 94 #[.pointer p] w fun e w' => e = .returned (.func (.func 105) #[] #[.pointer (some ⟨w.heap.size, 0, none⟩)]) ∧ w' = w.alloc (.cells #[.pointer p] 47) := by
  refine callsIn_of_wp Try.func94 rfl trivial ?_ rfl
  simp only [Try.ntmps94, List.size_toArray, List.length_cons, List.length_nil, Nat.reduceAdd, Nat.reduceSub, Array.replicate_succ, Array.replicate_zero, List.push_toArray, List.append_toArray, List.nil_append, List.cons_append]
  gi_wp2
  go_ret
  exact ⟨rfl, rfl⟩

set_option maxRecDepth 100000 in
set_option maxHeartbeats 2000000 in
theorem each1_in (n : Nat) (hn : 1 ≤ n) (l Bn n₀ p B cap : Nat) (last : Int) (ls : List LReg) (hcnt : ls.length ≤ 4194304) (J Jx : List (In ls) → World → Prop) (B0 : Nat) (hJ : AbidesFrom B0 J)
    (hY : ∀ pre x W, J pre W → pre.length < ls.length → YieldAt Fence.wide (n - 1) Try.prog l (renc x) W fun e W' =>
      (e = .returned (.bool true) ∧ J (pre ++ [x]) W' ∧ Below n₀ W W') ∨ (e = .returned (.bool false) ∧ Jx (pre ++ [x]) W'))
    (W : World) (hBn : W.cell? ⟨Bn, 0, none⟩ = some (.pointer (some ⟨p, 0, none⟩))) (h : SpAt W p last (.slice (some ⟨B, 0, none⟩) ls.length cap) ls) (hf : ∀ b ∈ foot p (.slice (some ⟨B, 0, none⟩) ls.length cap) ls, b < n₀) (hn0 : n₀ ≤ W.heap.size) (h0 : J [] W) :
    CallsIn Fence.wide n Try.prog 105 #[.func (.yield l) #[] #[], .pointer (some ⟨Bn, 0, none⟩)] W fun e W' => (∃ v, e = .returned v) ∧
      ((∃ ys, ys = ls.attach ∧ J ys W') ∨ (∃ pre, pre <+: ls.attach ∧ Jx pre W')) := by
  have hc0 := h.cell0
  refine callsIn_of_wp Try.func105 rfl trivial ?_ rfl
  simp only [Try.ntmps105, List.size_toArray, List.length_cons, List.length_nil, Nat.reduceAdd, Nat.reduceSub, Array.replicate_succ, Array.replicate_zero, List.push_toArray, List.append_toArray, List.nil_append, List.cons_append]
  gi_wp2
  gi_loopw [12] (fun i wr => ∃ k : Nat, k ≤ ls.length ∧ i = .int .i64 k ∧ J (ls.attach.take k) wr ∧ Below n₀ W wr)
    (fun i _ => ls.length - (intOf i).toNat)
  case atStart => exact ⟨0, Nat.zero_le _, rfl, by simpa using h0, Below.refl _ _⟩
  case round =>
    obtain ⟨k, hk, rfl, hJs, hnx⟩ := hrel
    by_cases hlt : k < ls.length
    · have hB : B < n₀ := hf B (by simp [foot, Value.ownBlock])
      have hx := (hnx.cell (p := ⟨B, k * 2, none⟩) hB).trans (h.base hlt)
      have hy := (hnx.cell (p := ⟨B, k * 2 + 1, none⟩) hB).trans (h.wslice hlt)
      have hJ1 : ∀ o : Obj, J (ls.attach.take k) (wr.alloc o) := fun o => hJ _ _ _ none hJs (World.grownBy_alloc wr o none) (fun r e => by cases e)
      have HY := Hid.mk (hY _ ⟨ls[k], List.getElem_mem hlt⟩ _ (hJ1 (.cells #[.int .i64 ls[k].base, .slice (some ⟨ls[k].wb, 0, none⟩) ls[k].words.length ls[k].cap] 147)) (by rw [List.length_take, List.length_attach]; omega))
      clear hJ1
      obtain ⟨fn, tmps, assign, body, hyy, hR⟩ := HY.out
      unfold renc at hyy
      gi_wp2
      refine hR.mono ?_
      have hsz := hnx.size
      rintro e W3 (⟨rfl, hJ3, hk3⟩ | ⟨rfl, hJx3⟩)
      · gi_wp2
        go_roundw
        case rel => exact ⟨k + 1, by omega, by simp, by rw [take_attach hlt]; exact hJ3, (hnx.alloc (by omega) _).trans hk3⟩
        case measure => simp [intOf]; omega
      · gi_wp2
        refine bodyPost_ret (results_none rfl _ _ _) rfl ?_
        exact ⟨⟨_, rfl⟩, .inr ⟨_, by rw [← take_attach hlt]; exact List.take_prefix _ _, hJx3⟩⟩
    · obtain rfl : k = ls.length := by omega
      gi_wp2
      go_end0
      exact ⟨⟨_, rfl⟩, .inl ⟨_, rfl, by have q := hJs; rw [List.take_of_length_le (by simp)] at q; exact q⟩⟩

set_option maxRecDepth 100000 in
set_option maxHeartbeats 1000000 in
theorem each1_nil_in (n : Nat) (l Bn p : Nat) (J : List (In []) → World → Prop) (W : World) (hBn : W.cell? ⟨Bn, 0, none⟩ = some (.pointer (some ⟨p, 0, none⟩))) (hp : W.cell? ⟨p, 0, none⟩ = some (.slice none 0 0)) (h0 : J [] W) :
    CallsIn Fence.wide n Try.prog 105 #[.func (.yield l) #[] #[], .pointer (some ⟨Bn, 0, none⟩)] W fun e W' => (∃ v, e = .returned v) ∧ J [] W' := by
  refine callsIn_of_wp Try.func105 rfl trivial ?_ rfl
  simp only [Try.ntmps105, List.size_toArray, List.length_cons, List.length_nil, Nat.reduceAdd, Nat.reduceSub, Array.replicate_succ, Array.replicate_zero, List.push_toArray, List.append_toArray, List.nil_append, List.cons_append]
  gi_wp2
  gi_loopw [12] (fun i wr => i = .int .i64 0 ∧ J [] wr) (fun _ _ => 0)
  case atStart => exact ⟨rfl, h0⟩
  case round =>
    obtain ⟨rfl, hJs⟩ := hrel
    gi_wp2
    go_end0
    exact ⟨⟨_, rfl⟩, hJs⟩
/-- what each hands back tells all regions, in their order -/
theorem each_stops (n : Nat) (hn : 1 ≤ n) (Bn p n₀ : Nat) (last : Int) (sl : Value) (ls : List LReg) (hcnt : ls.length ≤ 4194304) (w : World) (hBs : Bn < w.heap.size) (hn₀ : n₀ ≤ w.heap.size)
    (hc : w.cell? ⟨Bn, 0, none⟩ = some (.pointer (some ⟨p, 0, none⟩))) (h : SpAt w p last sl ls) (hf : ∀ b ∈ foot p sl ls, b < n₀) :
    SeqStopsK Fence.wide n Try.prog 105 #[.pointer (some ⟨Bn, 0, none⟩)] (renc (ls := ls)) (Below n₀) (fun ys => ys = ls.attach) (fun pre => pre <+: ls.attach) ls.length w := fun l J Jx W hW hJ _ hY h0 => by
  have hc' := (hW.cell (p := ⟨Bn, 0, none⟩) hBs).trans hc
  have h' := h.below hW
  rcases h'.shape with ⟨rfl, rfl⟩ | ⟨B, cap, rfl, _⟩
  · exact (each1_nil_in n l Bn p J W hc' h'.cell0 h0).mono fun e W' ⟨he, hj⟩ => ⟨he, .inl ⟨_, rfl, hj⟩⟩
  · exact each1_in n hn l Bn n₀ p B cap last ls hcnt J Jx _ hJ hY W hc' h' hf (Nat.le_trans hn₀ hW.size) h0
end Go.Proofs.Ytpfnnmcokbolhaa
/- The contract of Live: how many words there are. -/
namespace Go.Proofs.Ytpfnnmcokbolhaa
open Go.RowKit Go.Shelf
attribute [local go_sem] Oper.semAt_some

def tot (ls : List LReg) : Nat := (ls.map (·.words.length)).sum
def totIn {ls : List LReg} (pre : List (In ls)) : Nat := (pre.map (·.1.words.length)).sum
theorem totIn_snoc {ls : List LReg} (pre : List (In ls)) (x : In ls) : totIn (pre ++ [x]) = totIn pre + x.1.words.length := by simp [totIn]
theorem totIn_all (ls : List LReg) : totIn ls.attach = tot ls := by
  have : ls.attach.map (fun x : In ls => x.1.words.length) = ls.map (·.words.length) := by
    rw [show (fun x : In ls => x.1.words.length) = (fun r : LReg => r.words.length) ∘ Subtype.val from rfl, ← List.map_map, List.attach_map_subtype_val]
  rw [totIn, this, tot]
theorem totIn_le {ls : List LReg} (h : ∀ r ∈ ls, r.words.length ≤ 1048576) (pre : List (In ls)) : totIn pre ≤ pre.length * 1048576 := by
  induction pre with
  | nil => simp [totIn]
  | cons a l ih => have := h a.1 a.2; simp only [totIn, List.map_cons, List.sum_cons, List.length_cons] at ih ⊢; omega
theorem totIn_prefix {ls : List LReg} {pre : List (In ls)} (h : pre <+: ls.attach) : totIn pre ≤ tot ls := by
  obtain ⟨r, hr⟩ := h
  rw [← totIn_all, ← hr]
  simp [totIn]

def Full {ls : List LReg} (pre : List (In ls)) : Prop := 4194304 ≤ totIn pre
theorem wpIn_scope' {n : Nat} {P : Program} {c : Code} {Q : Exit → Act → World → Prop} {a : Act} {w : World} (h : c.wpIn Fence.wide n P (Exit.noGoto Q) a w) : (Code.scope c).wpIn Fence.wide n P Q a w := wpIn_wide.2 (wp_scope_straight (wpIn_wide.1 h))
theorem wpIn_label' {n : Nat} {P : Program} {l : Nat} {Q : Exit → Act → World → Prop} {a : Act} {w : World} (h : Q .normal a w) : (Code.label l).wpIn Fence.wide n P Q a w := wpIn_wide.2 (wp_label h)
set_option maxRecDepth 100000 in
set_option maxHeartbeats 2000000 in
theorem live_in {w : World} {p : Nat} {last : Int} {sl : Value} {ls : List LReg} (h : SpAt w p last sl ls) (ok : RegsOk last ls) (n : Nat) (hn : 5 ≤ n) :
    CallsIn Fence.wide n Try.prog 83 #[.pointer (some ⟨p, 0, none⟩)] w fun e w' => e = .returned (.int .i64 (tot ls)) ∧ Below w.heap.size w w' := by
  have hfn : ∀ k, Fence.wide.fn k := fun _ => trivial
  have hn1 : 1 ≤ n := by omega
  refine callsIn_of_wp_marks Try.func83 rfl trivial ?_ rfl
  simp only [Try.ntmps83, List.size_toArray, List.length_cons, List.length_nil, Nat.reduceAdd, Nat.reduceSub, Array.replicate_succ, Array.replicate_zero, List.push_toArray, List.append_toArray, List.nil_append, List.cons_append]
  gi_wp2
  refine wpIn_scope' ?_
  gi_wp2
  refine wpIn_label' ?_
  gi_wp2_with (gi_at_call 94; refine (each_in (n - 1) _ _).mono ?_; rintro e w' ⟨rfl, rfl⟩)
  have bN := (Boxed.new w 3 (.int .i64 0)).alloc (.cells #[.pointer (some ⟨p, 0, none⟩)] 47)
  have bE := Boxed.new (w.alloc (.cells #[.int .i64 0] 3)) 47 (.pointer (some ⟨p, 0, none⟩))
  simp only [World.size_alloc] at bE
  have hB0 : Below w.heap.size w ((w.alloc (.cells #[.int .i64 0] 3)).alloc (.cells #[.pointer (some ⟨p, 0, none⟩)] 47)) := ((Below.refl _ w).alloc (Nat.le_refl _) _).alloc (by simp) _
  have hsz : ((w.alloc (.cells #[.int .i64 0] 3)).alloc (.cells #[.pointer (some ⟨p, 0, none⟩)] 47)).heap.size = w.heap.size + 2 := by simp
  obtain ⟨W0, hW0⟩ : ∃ W0, (w.alloc (.cells #[.int .i64 0] 3)).alloc (.cells #[.pointer (some ⟨p, 0, none⟩)] 47) = W0 := ⟨_, rfl⟩
  rw [hW0] at bN bE hB0 hsz ⊢
  clear hW0
  have hw63 : ∀ r ∈ ls, r.words.length ≤ 1048576 := fun r hr => (ok.lo r hr).2.2.1
  refine wpIn_rangeFunc_ownH (F := Fence.wide) rfl (by omega) (gf := 105) (lb := #[.pointer (some ⟨w.heap.size + 1, 0, none⟩)]) rfl trivial (enters_of Try.func105 (by kernel_rfl) rfl)
    (each_stops (n - 1) (by omega) (w.heap.size + 1) p w.heap.size last sl ls ok.count W0 (by omega) (by omega) bE.cell (h.below hB0) h.lt) belowK_t (belowK_b (by omega)) (Below.refl _ _) (fun _ => rfl)
    (fun pre W => Boxed W w.heap.size 3 (.int .i64 (totIn pre)) ∧ Below w.heap.size w W)
    (fun c pre W => (c = .exit 0 ∧ Full pre) ∧ Boxed W w.heap.size 3 (.int .i64 (totIn pre)) ∧ Below w.heap.size w W)
    (OwnFrom.and (Own.from (boxed_own _ _ _) _) (ownFrom_below (Nat.le_refl _) (by omega)))
    (fun c => OwnFrom.and (ownFrom_pure _ _) (OwnFrom.and (Own.from (boxed_own _ _ _) _) (ownFrom_below (Nat.le_refl _) (by omega))))
    ⟨bN, hB0⟩
    (fun x a' W => ∃ Bx, w.heap.size < Bx ∧ W.heap[Bx]? = some (.cells #[.int .i64 x.1.base, .slice (some ⟨x.1.wb, 0, none⟩) x.1.words.length x.1.cap] 147 (0, 0)) ∧ a' = { tmps := #[.pointer (some ⟨p, 0, none⟩), undef, .int .i64 0, .pointer (some ⟨w.heap.size, 0, none⟩), .pointer (some ⟨Bx, 0, none⟩), .pointer (some ⟨p, 0, none⟩), .func (.func 105) #[] #[.pointer (some ⟨w.heap.size + 1, 0, none⟩)], .agg #[.int .i64 x.1.base, .slice (some ⟨x.1.wb, 0, none⟩) x.1.words.length x.1.cap], undef, undef, undef, undef, undef, undef, undef, undef], defers := [] })
    (fun x a' _ X Y row hs hg hr => by obtain ⟨Bx, h1, h2, h3⟩ := hs; exact ⟨Bx, h1, (hg.block Bx (lt_of_heap h2) (fun e => by obtain ⟨_, o, ho, hc⟩ := hr Bx e.symm; rw [h2] at ho; cases ho; simp [Obj.isCells] at hc)).trans h2, h3⟩)
    ?assign ?body ?done ?stop
  case assign =>
    rintro l pre x W K ⟨bN1, hB1⟩ hK
    unfold renc
    gi_wp2
    exact hK _ _ ((KeepsOthers.alloc _ _).from _) ((Below.refl _ W).alloc hB1.size _) ⟨bN1.alloc _, hB1.alloc hB1.size _⟩ ⟨W.heap.size, bN1.lt, heap_alloc_new W _, rfl⟩
  case body =>
    have hn2 : 1 ≤ n - 1 - 1 := by omega
    rintro l pre x a' W hl ⟨r, hr⟩ ⟨bN1, hB1⟩ ⟨Bx, hBx, bX, rfl⟩ hlt
    have cN := bN1.cell
    have fN := bN1.frozen
    have cX1 : W.cell? ⟨Bx, 1, none⟩ = some (.slice (some ⟨x.1.wb, 0, none⟩) x.1.words.length x.1.cap) := by rw [cell_of_row W Bx 1 _ _ _ bX]; rfl
    have hle : totIn pre ≤ 4398046511104 := by have := totIn_le hw63 pre; have := ok.count; omega
    have hx := hw63 x.1 x.2
    clear hw63
    obtain ⟨T, hT⟩ : ∃ T : Nat, T = totIn pre + x.1.words.length := ⟨_, rfl⟩
    have e1 : IntKind.i64.wrap ((totIn pre : Int) + (x.1.words.length : Int)) = (T : Int) := by rw [IntKind.wrap_i64]; omega
    by_cases hge : 4194304 ≤ T
    · have hge' : (4194304 : Int) ≤ (T : Int) := by omega
      have HG : Hid (Full (pre ++ [x])) := by unfold Hid Full; rw [totIn_snoc, ← hT]; exact hge
      have HT := Hid.mk hT
      clear hT hx hle hge
      gi_wp2
      exact ⟨(KeepsOthers.setCell _ _ _).from _, ⟨rfl, HG.out⟩, by rw [totIn_snoc, ← HT.out]; exact bN1.set _, hB1.setCell (p := ⟨w.heap.size, 0, none⟩) (Nat.le_refl _) _⟩
    · have hge' : decide ((4194304 : Int) ≤ (T : Int)) = false := by simp; omega
      have HT := Hid.mk hT
      clear hT hx hle hge
      gi_wp2
      exact ⟨(KeepsOthers.setCell _ _ _).from _, (Below.refl _ W).setCell (p := ⟨w.heap.size, 0, none⟩) (Nat.le_refl _) _, by rw [totIn_snoc, ← HT.out]; exact bN1.set _, hB1.setCell (p := ⟨w.heap.size, 0, none⟩) (Nat.le_refl _) _⟩
  case done =>
    rintro D zs W hD rfl ⟨bN1, hB1⟩ hK
    have cN := bN1.cell
    gi_wp2
    rw [Exit.noGoto_ret]
    refine ⟨by simp, .inl ⟨_, _, rfl, run_takeDeferred hK, ?_⟩⟩
    exact ⟨_, results_tmp rfl _ _ _, by rw [totIn_all]; rfl, hB1.trans (belowK_b (w := w) (Nat.le_refl _) W D _ _ (by omega) hK rfl rfl)⟩
  case stop =>
    rintro D c pre W hD hpre ⟨⟨rfl, hge⟩, bN1, hB1⟩ hK
    have cN := bN1.cell
    have HE : Hid (totIn pre = tot ls) := by
      have h1 := totIn_prefix hpre
      have h2 := ok.live
      unfold Full at hge
      unfold Hid
      unfold tot at *
      omega
    gi_wp2
    rw [Exit.noGoto_ret]
    refine ⟨by simp, .inl ⟨_, _, rfl, run_takeDeferred hK, ?_⟩⟩
    exact ⟨_, results_tmp rfl _ _ _, by rw [← HE.out]; rfl, hB1.trans (belowK_b (w := w) (Nat.le_refl _) W D _ _ (by omega) hK rfl rfl)⟩
theorem live_any {w : World} {p : Nat} {last : Int} {sl : Value} {ls : List LReg} (h : SpAt w p last sl ls) (ok : RegsOk last ls) :
    Calls Try.prog 83 #[.pointer (some ⟨p, 0, none⟩)] w fun e w' => e = .returned (.int .i64 (tot ls)) ∧ Below w.heap.size w w' := callsIn_wide.1 (live_in h ok 10 (by decide))
end Go.Proofs.Ytpfnnmcokbolhaa
/- The contract of Regions: all regions, in their order. -/
namespace Go.Proofs.Ytpfnnmcokbolhaa
open Go.RowKit Go.Shelf
attribute [local go_sem] Oper.semAt_some
theorem infoR : (Try.prog.info? 88).map (fun i => (i.zero, i.size, i.bytes)) = some (some (.agg #[.int .i64 0, .int .i64 0]), 2, 16) := by kernel_rfl
theorem two_new (w : World) (a b : Value) (T : TypeId) : ∀ j u, [a, b][j]? = some u → (w.alloc (.cells #[a, b] T)).cell? ((⟨w.heap.size, 0, none⟩ : Addr).add j) = some u := by
  intro j u hu
  match j, hu with
  | 0, hu => simpa [Addr.add] using hu
  | 1, hu => simpa [Addr.add] using hu

end Go.Proofs.Ytpfnnmcokbolhaa
/- The contract of Take: a region is taken. Conditions: a space in memory whose last address is no greater than 2^60. -/
namespace Go.Proofs.Ytpfnnmcokbolhaa
open Go.RowKit

theorem made_zero (k : Nat) : (madeCells #[Value.int .i64 0, .int .i64 0] (k * 2)).toList = wcells (List.replicate k (0, 0)) := by
  rw [← zeros_cells]
  simp [madeCells, Builtin.zeroCells]
theorem makeV (k : Nat) (hk : k ≤ 1048576) (W : World) : (Instr.makeSlice 32 (.int .i64 (k : Int)) (.int .i64 (k : Int))).run Try.prog W = .ok (.slice (some ⟨W.heap.size, 0, none⟩) k k) (W.alloc (.cells (madeCells #[.int .i64 0, .int .i64 0] (k * 2)) 34)) := by
  obtain ⟨i0, hi, hz0, hz1, hz2⟩ := info_parts infoV
  have := run_make (P := Try.prog) W 32 34 i0 _ Try.underlying32 hi hz0 .i64 .i64 k k (by omega) (Int.le_refl _) (by rw [hz2]; omega) (by omega)
  simpa [hz1, Value.cells] using this

set_option maxRecDepth 100000 in
theorem take_err {w : World} {p : Nat} {last : Int} {sl : Value} {ls : List LReg} (h : SpAt w p last sl ls) (ok : RegsOk last ls) (m : Int) (hm : m < 1 ∨ 1048576 < m ∨ 4194304 < tot ls + m) :
    Calls Try.prog 62 #[.pointer (some ⟨p, 0, none⟩), .int .i64 m] w fun e w' => e = .returned (.tuple #[.int .i64 0, .int .i64 211]) ∧ Below w.heap.size w w' := by
  have hl : (tot ls : Int) ≤ 4194304 := by have := ok.live; unfold tot; omega
  by_cases h1 : m < 1
  · go_enter Try.func62, Try.ntmps62
    go_wp2
    go_ret2
    exact ⟨rfl, Below.refl _ _⟩
  · by_cases h2 : 1048576 < m
    · go_enter Try.func62, Try.ntmps62
      go_wp2
      go_ret2
      exact ⟨rfl, Below.refl _ _⟩
    · have h3 : 4194304 < tot ls + m := by omega
      clear hm
      go_enter Try.func62, Try.ntmps62
      go_wp2_with (go_at_call 83; refine (live_any h ok).mono ?_; rintro e w1 ⟨rfl, hb⟩)
      go_ret2
      exact ⟨rfl, hb⟩

/-- behind the making of the region: a box of two cells and a row of empty words, both new -/
def TakeMid (k : Nat) (b : Int) (w : World) (s6 : Value) (W : World) : Prop :=
  ∃ Br Wb, s6 = .pointer (some ⟨Br, 0, none⟩) ∧ Below w.heap.size w W ∧ w.heap.size ≤ Br ∧ w.heap.size ≤ Wb ∧ Br ≠ Wb ∧
    W.heap[Br]? = some (.cells #[.int .i64 b, .slice (some ⟨Wb, 0, none⟩) k k] 147 (0, 0)) ∧ W.ownsRow 0 34 2 (.slice (some ⟨Wb, 0, none⟩) k k) k (wcells (List.replicate k (0, 0)))

def nextBase (last : Int) : Int := if last = 0 then 1 else last + 2
theorem mid1 {w w1 : World} (hb : Below w.heap.size w w1) (k : Nat) (hk : k ≤ 1048576) (b : Int) : TakeMid k b w (.pointer (some ⟨w1.heap.size + 1, 0, none⟩))
    ((w1.alloc (.cells (madeCells #[Value.int .i64 0, .int .i64 0] (k * 2)) 34)).alloc (.cells #[.int .i64 b, .slice (some ⟨w1.heap.size, 0, none⟩) k k] 147)).drew := by
  refine ⟨_, w1.heap.size, rfl, ((hb.alloc hb.size _).alloc (by have := hb.size; simp; omega) _).drew, by have := hb.size; omega, hb.size, by omega, ?_, ?_⟩
  · have := heap_alloc_new (w1.alloc (.cells (madeCells #[Value.int .i64 0, .int .i64 0] (k * 2)) 34)) (.cells #[.int .i64 b, .slice (some ⟨w1.heap.size, 0, none⟩) k k] 147)
    rwa [World.size_alloc] at this
  · have := World.ownsRow_lit (base := 0) (e := 34) (size := 2) w1 (madeCells #[Value.int .i64 0, .int .i64 0] (k * 2)) k (Nat.zero_le _) (by unfold maxLen; omega) (by rw [size_madeCells])
    rw [made_zero] at this
    exact (this.alloc _).drew
theorem mid2 {w w1 : World} (hb : Below w.heap.size w w1) (k : Nat) (hk : k ≤ 1048576) (b : Int) : TakeMid k b w (.pointer (some ⟨w1.heap.size, 0, none⟩))
    ((w1.alloc (.cells #[.int .i64 b, .slice (some ⟨w1.heap.size + 1, 0, none⟩) k k] 147)).alloc (.cells (madeCells #[Value.int .i64 0, .int .i64 0] (k * 2)) 34)).drew := by
  refine ⟨_, w1.heap.size + 1, rfl, ((hb.alloc hb.size _).alloc (by have := hb.size; simp; omega) _).drew, hb.size, by have := hb.size; omega, by omega, ?_, ?_⟩
  · exact (Below.heap_alloc _ _ _ (by simp)).trans (heap_alloc_new w1 _)
  · have := World.ownsRow_lit (base := 0) (e := 34) (size := 2) (w1.alloc (.cells #[.int .i64 b, .slice (some ⟨w1.heap.size + 1, 0, none⟩) k k] 147)) (madeCells #[Value.int .i64 0, .int .i64 0] (k * 2)) k (Nat.zero_le _) (by unfold maxLen; omega) (by rw [size_madeCells])
    rw [made_zero, World.size_alloc] at this
    exact this.drew

theorem mid_set {w wc : World} {Br Wb k : Nat} {b c : Int} (hb1 : Below w.heap.size w wc) (hBr : w.heap.size ≤ Br) (hWb : w.heap.size ≤ Wb) (hne : Br ≠ Wb)
    (hbox : wc.heap[Br]? = some (.cells #[.int .i64 b, .slice (some ⟨Wb, 0, none⟩) k k] 147 (0, 0))) (hrow : wc.ownsRow 0 34 2 (.slice (some ⟨Wb, 0, none⟩) k k) k (wcells (List.replicate k (0, 0)))) :
    TakeMid k c w (.pointer (some ⟨Br, 0, none⟩)) (wc.setCell ⟨Br, 0, none⟩ (.int .i64 c)) := by
  refine ⟨Br, Wb, rfl, hb1.setCell hBr _, hBr, hWb, hne, ?_, ?_⟩
  · rw [heap_setCell_same wc Br 0 _ _ _ hbox]; rfl
  · exact ownsRow_setCell_other hrow (by simp [Value.ownBlock]; omega) _
theorem infoG : (Try.prog.info? 147).map (fun i => (i.zero, i.size, i.bytes)) = some (some (.agg #[.int .i64 0, .slice none 0 0]), 2, 32) := by kernel_rfl

theorem after_app {wc w1 : World} {box : Obj} {row : Option Nat} {p : Nat} {ob : Obj} (hg : ((wc.alloc box).drew).grownBy w1 row) (hh : wc.heap[p]? = some ob) (hsp : row ≠ some p) : w1.heap[p]? = some ob :=
  (hg.block p (by have := lt_of_heap hh; simp; omega) (Ne.symm hsp)).trans ((Below.heap_alloc wc box p (lt_of_heap hh)).trans hh)
theorem in_alloc {w : World} {p j : Nat} {cs : Array Value} {T : TypeId} {v : Value} (h : w.heap[p]? = some (.cells cs T (0, 0))) (hv : cs[j]? = some v) (o : Obj) : (w.alloc o).cell? ⟨p, j, none⟩ = some v := by
  rw [cell_alloc (lt_of_heap h), cell_of_row w p j _ _ _ h, hv]
theorem in_row {w : World} {p j : Nat} {cs : Array Value} {T : TypeId} {v : Value} (h : w.heap[p]? = some (.cells cs T (0, 0))) (hv : cs[j]? = some v) : w.cell? ⟨p, j, none⟩ = some v := by rw [cell_of_row w p j _ _ _ h, hv]
theorem in_alloc_free {w : World} {p : Nat} {cs : Array Value} {T : TypeId} (h : w.heap[p]? = some (.cells cs T (0, 0))) (o : Obj) (j : Nat) : (w.alloc o).frozen? ⟨p, j, none⟩ = false :=
  frozen_of_row _ p j cs T ((Below.heap_alloc w o p (lt_of_heap h)).trans h)
/-- behind the append and the two stores -/
def TakeEnd (p : Nat) (sl : Value) (ls : List LReg) (k : Nat) (b : Int) (Br : Nat) (w W : World) : Prop :=
  ∃ sl' Wn, SpAt W p (b + k - 1) sl' (ls ++ [⟨b, Wn, k, List.replicate k (0, 0)⟩]) ∧ Kp (foot p sl ls) w W ∧
    (∀ x ∈ foot p sl' (ls ++ [⟨b, Wn, k, List.replicate k (0, 0)⟩]), x ∈ foot p sl ls ∨ w.heap.size ≤ x) ∧ W.cell? ⟨Br, 0, none⟩ = some (.int .i64 b)

theorem cell_set_other {w : World} {a b : Addr} {u : Value} (h : b.block ≠ a.block) : (w.setCell a u).cell? b = w.cell? b := World.cell?_of_block (w := w) (Below.heap_setCell w a u b.block h)
theorem rcells_snoc (ls : List LReg) (x : LReg) : rcells (ls ++ [x]) = rcells ls ++ x.cells := by simp [rcells]
theorem foot_snoc (p : Nat) (sl : Value) (ls : List LReg) (x : LReg) : foot p sl (ls ++ [x]) = foot p sl ls ++ [x.wb] := by simp [foot]

theorem take_end {w wc w1 : World} {p : Nat} {last : Int} {sl : Value} {ls : List LReg} {k : Nat} {b : Int} {Br Wn gg cap : Nat} {bx ox : Obj} (h : SpAt w p last sl ls)
    (hb2 : Below w.heap.size w wc) (hBr : w.heap.size ≤ Br) (hWn : w.heap.size ≤ Wn)
    (hbox : wc.heap[Br]? = some (.cells #[.int .i64 b, .slice (some ⟨Wn, 0, none⟩) k k] 147 (0, 0))) (hrow : wc.ownsRow 0 34 2 (.slice (some ⟨Wn, 0, none⟩) k k) k (wcells (List.replicate k (0, 0))))
    (hown1 : w1.ownsRow 0 147 2 (.slice (some ⟨gg, 0, none⟩) (ls.length + 1) cap) (ls.length + 1) (rcells ls ++ [.int .i64 b, .slice (some ⟨Wn, 0, none⟩) k k]))
    (hgrow : ((wc.alloc bx).drew).grownBy w1 sl.ownBlock) (hat : sl.ownBlock = some gg ∨ gg = wc.heap.size + 1) :
    TakeEnd p sl ls k b Br w (((w1.alloc ox).setCell ⟨p, 0, none⟩ (.slice (some ⟨gg, 0, none⟩) (ls.length + 1) cap)).setCell ⟨p, 1, none⟩ (.int .i64 (b + k - 1))) := by
  have h1 := h.below hb2
  have hs := hb2.size
  have hlt := h.lt
  have hnd := h.nodup
  have hp := hlt p (by simp [foot])
  have hWl : Wn < wc.heap.size := (hrow.lt Wn rfl).2
  have hrowlt : ∀ g, sl.ownBlock = some g → g ∈ foot p sl ls ∧ g < w.heap.size := fun g hg => by
    have : g ∈ foot p sl ls := by simp [foot, hg]
    exact ⟨this, hlt g this⟩
  have hsp : sl.ownBlock ≠ some p := fun e => (List.nodup_cons.1 hnd).1 (List.mem_append.2 (.inl (by simp [e])))
  have hggp : gg ≠ p := by
    rcases hat with e | e
    · rintro rfl; exact hsp e
    · omega
  have hwbs : ∀ r ∈ ls, r.wb ∈ foot p sl ls := fun r hr => by simp [foot]; exact .inr (.inr ⟨r, hr, rfl⟩)
  have hwbp : ∀ r ∈ ls, r.wb ≠ p := fun r hr e => (List.nodup_cons.1 hnd).1 (List.mem_append.2 (.inr (List.mem_map.2 ⟨r, hr, e⟩)))
  have hwbr : ∀ r ∈ ls, sl.ownBlock ≠ some r.wb := fun r hr e =>
    (List.nodup_append.1 (List.nodup_cons.1 hnd).2).2.2 r.wb (by simp [e]) r.wb (List.mem_map.2 ⟨r, hr, rfl⟩) rfl
  have hggw : ∀ r ∈ ls, r.wb ≠ gg := fun r hr e => by
    rcases hat with q | q
    · exact hwbr r hr (by rw [q, e])
    · have := hlt _ (hwbs r hr); omega
  have hgW : gg ≠ Wn := by
    rcases hat with q | q
    · have := (hrowlt gg q).2; omega
    · omega
  -- a row of wc that is none of these blocks
  have keep : ∀ (T : TypeId) (v : Value) (n : Nat) (xs : List Value) (g : Nat), v.ownBlock = some g → wc.ownsRow 0 T 2 v n xs → sl.ownBlock ≠ some g → g ≠ p →
      (((w1.alloc ox).setCell ⟨p, 0, none⟩ (.slice (some ⟨gg, 0, none⟩) (ls.length + 1) cap)).setCell ⟨p, 1, none⟩ (.int .i64 (b + k - 1))).ownsRow 0 T 2 v n xs := by
    intro T v n xs g hv ho hne hgp
    have h2 := ((ho.alloc bx).drew).kept hgrow (.inr (by rw [hv]; exact Ne.symm hne))
    exact ownsRow_setCell_other (ownsRow_setCell_other (h2.alloc ox) (by rw [hv]; simpa using hgp) _) (by rw [hv]; simpa using hgp) _
  have hhead : (((w1.alloc ox).setCell ⟨p, 0, none⟩ (.slice (some ⟨gg, 0, none⟩) (ls.length + 1) cap)).setCell ⟨p, 1, none⟩ (.int .i64 (b + k - 1))).heap[p]? = some (.cells #[.slice (some ⟨gg, 0, none⟩) (ls.length + 1) cap, .int .i64 (b + k - 1)] 50 (0, 0)) := by
    have q0 := after_app hgrow h1.head hsp
    have q1 : (w1.alloc ox).heap[p]? = _ := (Below.heap_alloc w1 ox p (lt_of_heap q0)).trans q0
    have q2 := heap_setCell_same (w1.alloc ox) p 0 _ _ (.slice (some ⟨gg, 0, none⟩) (ls.length + 1) cap) q1
    have q3 := heap_setCell_same _ p 1 _ _ (.int .i64 (b + k - 1)) q2
    simpa using q3
  refine ⟨_, Wn, ⟨hhead, ?_, ?_, ?_⟩, ?_, ?_, ?_⟩
  · rw [rcells_snoc]
    simp only [LReg.cells, List.length_append, List.length_cons, List.length_nil, List.length_replicate]
    exact ownsRow_setCell_other (ownsRow_setCell_other (hown1.alloc ox) (by simp [Value.ownBlock, hggp]) _) (by simp [Value.ownBlock, hggp]) _
  · intro r hr
    rcases List.mem_append.1 hr with hr | hr
    · exact keep _ _ _ _ _ rfl (h1.words r hr) (hwbr r hr) (hwbp r hr)
    · obtain rfl : r = _ := by simpa using hr
      simp only [List.length_replicate]
      exact keep _ _ _ _ Wn rfl hrow (fun e => by have := (hrowlt Wn e).2; omega) (by omega)
  · rw [foot_snoc, List.nodup_append]
    refine ⟨?_, by simp, ?_⟩
    · refine List.nodup_cons.2 ⟨?_, ?_⟩
      · intro q
        rcases List.mem_append.1 q with q | q
        · simp [Value.ownBlock] at q; exact hggp q.symm
        · obtain ⟨r, hr, e⟩ := List.mem_map.1 q; exact hwbp r hr e
      · refine List.nodup_append.2 ⟨by simp [Value.ownBlock], (List.nodup_append.1 (List.nodup_cons.1 hnd).2).2.1, ?_⟩
        intro x hx y hy e
        simp [Value.ownBlock] at hx
        obtain ⟨r, hr, e'⟩ := List.mem_map.1 hy
        exact hggw r hr (by rw [e', ← e, hx])
    · intro x hx y hy e
      simp only [List.mem_singleton] at hy
      subst hy
      subst e
      simp only [foot, List.mem_cons, List.mem_append, Option.mem_toList, List.mem_map, Value.ownBlock, Option.some.injEq] at hx
      rcases hx with rfl | rfl | ⟨r, hr, e⟩
      · omega
      · exact hgW rfl
      · have := hlt _ (hwbs r hr); omega
  · refine Kp.setCell (Kp.setCell (Kp.alloc (Kp.grown (Kp.drew (Kp.alloc (Kp.of_below hb2 _) bx)) hgrow ?_) ox) (.inl (by simp [foot])) _) (.inl (by simp [foot])) _
    intro g hg
    exact .inl (hrowlt g hg).1
  · intro x hx
    rw [foot_snoc] at hx
    rcases List.mem_append.1 hx with hx | hx
    · simp only [foot, List.mem_cons, List.mem_append, Option.mem_toList, List.mem_map, Value.ownBlock, Option.some.injEq] at hx
      rcases hx with rfl | rfl | ⟨r, hr, rfl⟩
      · exact .inl (by simp [foot])
      · rcases hat with q | q
        · exact .inl (hrowlt _ q).1
        · exact .inr (by omega)
      · exact .inl (hwbs r hr)
    · simp only [List.mem_singleton] at hx
      subst hx; exact .inr hWn
  · have q0 := after_app hgrow hbox (fun e => by have := (hrowlt _ e).2; omega)
    have q1 := in_alloc (j := 0) q0 rfl ox
    rw [cell_set_other (by simp; omega), cell_set_other (by simp; omega)]
    exact q1
def TakePost (p : Nat) (last : Int) (sl : Value) (ls : List LReg) (k : Nat) (w : World) (e : Ending) (W : World) : Prop :=
  ∃ sl' Wn, SpAt W p (nextBase last + k - 1) sl' (ls ++ [⟨nextBase last, Wn, k, List.replicate k (0, 0)⟩]) ∧ Kp (foot p sl ls) w W ∧
    (∀ x ∈ foot p sl' (ls ++ [⟨nextBase last, Wn, k, List.replicate k (0, 0)⟩]), x ∈ foot p sl ls ∨ w.heap.size ≤ x) ∧ e = .returned (.tuple #[.int .i64 (nextBase last), .int .i64 0])
set_option maxRecDepth 100000 in
set_option maxHeartbeats 2000000 in
theorem take_ok {w : World} {p : Nat} {last : Int} {sl : Value} {ls : List LReg} (h : SpAt w p last sl ls) (ok : RegsOk last ls) (k : Nat) (hk1 : 1 ≤ k) (hk2 : k ≤ 1048576) (hk3 : tot ls + k ≤ 4194304) (hl1 : last ≤ 1152921504606846976) :
    Calls Try.prog 62 #[.pointer (some ⟨p, 0, none⟩), .int .i64 k] w (TakePost p last sl ls k w) := by
  have hmk := makeV k hk2
  have h0 := ok.last0
  go_enter Try.func62, Try.ntmps62
  go_wp2_with (go_at_call 83; refine (live_any h ok).mono ?_; rintro e w1 ⟨rfl, hb⟩)
  go_cut [6] (fun s6 W => TakeMid k (last + 2) w s6 W)
  case first =>
    have h1 := h.below hb
    have c1 := h1.cell1
    have hp1 : p < w1.heap.size := lt_of_heap h1.head
    have c2 : ∀ o, (w1.alloc o).cell? ⟨p, 1, none⟩ = some (.int .i64 last) := fun o => by rw [cell_alloc hp1]; exact c1
    have c3 : ∀ o o', ((w1.alloc o).alloc o').cell? ⟨p, 1, none⟩ = some (.int .i64 last) := fun o o' => by rw [cell_alloc (by simp; omega)]; exact c2 o
    go_region
    all_goals
      go_wp2_with fail
      go_meet
      case rel => first | exact mid1 hb k hk2 _ | exact mid2 hb k hk2 _
  case rest =>
    obtain ⟨Br, Wb, rfl, hb1, hBr, hWb, hne, hbox, hrow⟩ := hcut
    have h1 := h.below hb1
    have c1 := h1.cell1
    have x0 : wc.cell? ⟨Br, 0, none⟩ = some (.int .i64 (last + 2)) := by rw [cell_of_row wc Br 0 _ _ _ hbox]; rfl
    have f0 : wc.frozen? ⟨Br, 0, none⟩ = false := frozen_of_row wc Br 0 _ _ hbox
    go_upto_if 36 with (fail)
    go_cut [] (fun W => Hid (TakeMid k (nextBase last) w (.pointer (some ⟨Br, 0, none⟩)) W))
    case first =>
      have HM := Hid.mk (mid_set (c := 1) hb1 hBr hWb hne hbox hrow)
      have HN := Hid.mk (show TakeMid k (last + 2) w (.pointer (some ⟨Br, 0, none⟩)) wc from ⟨Br, Wb, rfl, hb1, hBr, hWb, hne, hbox, hrow⟩)
      by_cases hl0 : last = 0
      · have hl0' : (last == 0) = true := by simp [hl0]
        have HL := Hid.mk hl0
        clear hl0
        go_wp2
        go_meet
        case rel => unfold nextBase; rw [if_pos HL.out]; exact HM.out
      · have hl0' : (last == 0) = false := by simp [hl0]
        have HL := Hid.mk hl0
        clear hl0
        go_wp2
        go_meet
        case rel => unfold nextBase; rw [if_neg HL.out]; exact HN.out
    case rest =>
      obtain ⟨B', W', hB', hb2, hBr2, hWb2, hne2, hbox2, hrow2⟩ := hcut.out
      obtain rfl : Br = B' := by simpa using hB'
      clear hB' hcut c1 x0 f0 h1 hbox hrow hb1 hne hWb
      have h1 := h.below hb2
      obtain ⟨b, hb⟩ : ∃ b, nextBase last = b := ⟨_, rfl⟩
      rw [hb] at hbox2
      have HBB := Hid.mk hb
      have hbnd : 0 ≤ b ∧ b ≤ 1152921504606846978 := by rw [← hb]; unfold nextBase; split <;> omega
      clear hb
      obtain ⟨hbn0, hbn1⟩ := hbnd
      have y0 := h1.cell0
      have yf := h1.free
      have x0 : wc.cell? ⟨Br, 0, none⟩ = some (.int .i64 b) := by rw [cell_of_row wc Br 0 _ _ _ hbox2]; rfl
      have x1 : wc.cell? ⟨Br, 1, none⟩ = some (.slice (some ⟨W', 0, none⟩) k k) := by rw [cell_of_row wc Br 1 _ _ _ hbox2]; rfl
      have hpl : p < wc.heap.size := lt_of_heap h1.head
      have hbl : Br < wc.heap.size := lt_of_heap hbox2
      have hcn := ok.count
      have hsp : sl.ownBlock ≠ some p := fun e => (List.nodup_cons.1 h.nodup).1 (List.mem_append.2 (.inl (by simp [e])))
      have hsb : sl.ownBlock ≠ some Br := fun e => by have := h.lt Br (by simp [foot, e]); omega
      have HR := Hid.mk h1.row
      obtain ⟨i0, hi, hz0, hz1, hz2⟩ := info_parts infoG
      have ew : IntKind.i64.wrap (b + (k : Int) - 1) = b + k - 1 := by rw [IntKind.wrap_i64]; omega
      go_upto_region 8 with (fail)
      go_cut [] (fun W => Hid (TakeEnd p sl ls k b Br w W))
      case first =>
        have y0a := in_alloc (j := 0) h1.head rfl
        have x0a := in_alloc (j := 0) hbox2 rfl
        have x1a := in_alloc (j := 1) hbox2 rfl
        go_region_law (first
            | (refine step_append_lies _ (by rfl) _ _ _ (by rfl) 0 147 i0 _ 2 32 Try.underlying48 hi hz0 hz1 hz2 rfl (by omega) sl ls.length (rcells ls) (by rfl) ((HR.out.alloc _).drew)
                 ⟨wc.heap.size, 0, none⟩ 1 1 [.int .i64 b, .slice (some ⟨W', 0, none⟩) k k] (by rfl) (by rfl) (two_new wc _ _ _) (by simp [Value.oneCell'])
                 (by omega) (by unfold maxLen; omega) (by omega) (Nat.zero_le _) (wc.heap.size + 1) (by simp) ?_; intro gg cap w1 hown1 hgrow hat hlt; have hhead := after_app hgrow h1.head hsp; have hbx := after_app hgrow hbox2 hsb; have v0 := in_alloc (j := 0) hhead rfl; have v1 := in_alloc (j := 1) hhead rfl; have vf := in_alloc_free hhead; have u0 := in_row (j := 0) hbx rfl; have u1 := in_row (j := 1) hbx rfl)
            | (go_simp; go_at_call 84; refine (end_any b (some ⟨W', 0, none⟩) k k _ (by omega) (by omega) (by omega)).mono ?_; rintro e w' ⟨rfl, rfl⟩))
        all_goals
          go_wp2_with fail
          go_meet
          case rel => exact take_end h hb2 hBr2 hWb2 hbox2 hrow2 hown1 hgrow hat
      case rest =>
        obtain ⟨sl', Wn, hsp', hkp, hfr, hbr⟩ := hcut.out
        clear hcut y0 yf x0 x1
        go_wp2
        go_ret2
        refine ⟨sl', Wn, ?_, hkp, ?_, by rw [HBB.out]; rfl⟩
        · rw [HBB.out]; exact hsp'
        · rw [HBB.out]; exact hfr
end Go.Proofs.Ytpfnnmcokbolhaa
