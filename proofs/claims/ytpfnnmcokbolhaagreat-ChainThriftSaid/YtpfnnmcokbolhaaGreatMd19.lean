/- Parts Uf Uh Ug, put together. -/
import Derived.Test.YtpfnnmcokbolhaaGreatMd13
import Derived.Test.YtpfnnmcokbolhaaGreatMd18
/- The twin: steps on its parts. -/
namespace Go.Proofs.YtpfnnmcokbolhaaGreat
open Go.RowKit
set_option pp.deepTerms true
section
variable {w W : World} {F G : List Asr} {t b p k g c : Nat} {sz ca many : Int} {C : Ch} {lv pv : Value} {ml l : List Mv} {x : Mv} {Q : List (Int × Pf)} {A : Asr}
/-- a twin in memory, as plain data -/
def TwS (w W : World) (t b p k : Nat) (sz ca : Int) (T : Tw) (F : List Asr) : Prop := ∃ lv pv ml, ml.map (·.m) = T.M ∧ Sep w (twL t b lv pv ml T.Q T.many ++ chP b p k sz ca T.C F) W
/-- the same, and alike to the chain; what the lists hold -/
def TwR (w W : World) (t b p k : Nat) (sz ca : Int) (n : Nat) (N : Nt) (F : List Asr) : Prop := ∃ T Z, TwS w W t b p k sz ca T F ∧ Sim sz ca n T Z ∧ T.N = N
theorem twch_eq (F : List Asr) : twL t b lv pv ml Q many ++ chP b p k sz ca C F = (twL t b lv pv ml Q many ++ [chA b p k C.F, spA p C.S, lkA k p sz ca C.L]) ++ F := by simp [chP]
theorem tw_more (h : Sep w (twL t b lv pv ml Q many ++ chP b p k sz ca C F) W) (o : Obj) : Sep w (twL t b lv pv ml Q many ++ chP b p k sz ca C (bx W.heap.size o :: F)) (W.alloc o) := by
  have h1 := h.alloc o
  rw [twch_eq] at h1 ⊢
  exact h1.perm List.perm_middle.symm
theorem tw_lose (h : Sep w (twL t b lv pv ml Q many ++ chP b p k sz ca C (A :: F)) W) : Sep w (twL t b lv pv ml Q many ++ chP b p k sz ca C F) W := by
  rw [twch_eq] at h ⊢
  exact Sep.sub h (List.Sublist.append (List.Sublist.refl _) (List.sublist_cons_self _ _))
theorem tw_mem {B : Asr} (hm : B ∈ F) : B ∈ twL t b lv pv ml Q many ++ chP b p k sz ca C F := by
  rw [twch_eq]
  exact List.mem_append.2 (.inr hm)
theorem tw_storeF {q : Nat} {cs : Array Value} {T : TypeId} (h : Sep w (twL t b lv pv ml Q many ++ chP b p k sz ca C (bx q (.cells cs T) :: F)) W) (j : Nat) (u : Value) : Sep w (twL t b lv pv ml Q many ++ chP b p k sz ca C (bx q (.cells (cs.setIfInBounds j u) T) :: F)) (W.setCell ⟨q, j, none⟩ u) := by
  rw [twch_eq] at h ⊢
  exact (Sep.store (h.perm List.perm_middle) j u).perm List.perm_middle.symm
theorem two_cells {q : Nat} {v1 v2 : Value} {T : TypeId} {L : List Asr} (h : Sep w L W) (hm : bx q (.cells #[v1, v2] T) ∈ L) : W.cell? ⟨q, 0, none⟩ = some v1 ∧ W.cell? ⟨q, 1, none⟩ = some v2 ∧ ∀ j, W.frozen? ⟨q, j, none⟩ = false := by
  have B := Sep.at h hm
  exact ⟨by rw [cell_of_row _ _ 0 _ _ _ B]; rfl, by rw [cell_of_row _ _ 1 _ _ _ B]; rfl, fun j => frozen_of_row _ _ j _ _ B⟩
/-- the top model's cells -/
theorem tw_top (h : Sep w (twL t b lv pv (x :: l) Q many ++ G) W) : ∃ g c, lv = .slice (some ⟨g, 0, none⟩) (l.length + 1 : Nat) c ∧ l.length + 1 ≤ c ∧ W.cell? ⟨g, l.length * 7, none⟩ = some x.lv ∧ W.cell? ⟨g, l.length * 7 + 1, none⟩ = some (.int .i64 x.m.lay.args) ∧ W.cell? ⟨g, l.length * 7 + 2, none⟩ = some (.int .i64 x.m.lay.res) ∧ W.cell? ⟨g, l.length * 7 + 3, none⟩ = some (.int .i64 x.m.lay.height) ∧ W.cell? ⟨g, l.length * 7 + 4, none⟩ = some x.sv ∧ W.cell? ⟨g, l.length * 7 + 5, none⟩ = some x.ov ∧ W.cell? ⟨g, l.length * 7 + 6, none⟩ = some (.int .i64 x.m.which) ∧ ∀ i, W.frozen? ⟨g, i, none⟩ = false := by
  obtain ⟨g, c, e, hc, h1, h2⟩ := tw_at (pre := []) h
  exact ⟨g, c, e, hc, h1 0 _ rfl, h1 1 _ rfl, h1 2 _ rfl, h1 3 _ rfl, h1 4 _ rfl, h1 5 _ rfl, h1 6 _ rfl, h2⟩
theorem tw_topAt (h : Sep w (twL t b (.slice (some ⟨g, 0, none⟩) (l.length + 1 : Nat) c) pv (x :: l) Q many ++ G) W) : l.length + 1 ≤ c ∧ W.cell? ⟨g, l.length * 7, none⟩ = some x.lv ∧ W.cell? ⟨g, l.length * 7 + 1, none⟩ = some (.int .i64 x.m.lay.args) ∧ W.cell? ⟨g, l.length * 7 + 2, none⟩ = some (.int .i64 x.m.lay.res) ∧ W.cell? ⟨g, l.length * 7 + 3, none⟩ = some (.int .i64 x.m.lay.height) ∧ W.cell? ⟨g, l.length * 7 + 4, none⟩ = some x.sv ∧ W.cell? ⟨g, l.length * 7 + 5, none⟩ = some x.ov ∧ W.cell? ⟨g, l.length * 7 + 6, none⟩ = some (.int .i64 x.m.which) ∧ ∀ i, W.frozen? ⟨g, i, none⟩ = false := by
  obtain ⟨g', c', e, r⟩ := tw_top h
  simp only [Value.slice.injEq, Option.some.injEq, Addr.mk.injEq, and_true, true_and] at e
  obtain ⟨rfl, rfl⟩ := e
  exact r
theorem tw_shapes (h : Sep w (twL t b lv pv ml Q many ++ G) W) : (∃ ao c, lv = .slice ao ml.length c) ∧ ∃ ao c, pv = .slice ao Q.length c := ⟨own_shape (tw_rowM h), own_shape (tw_rowQ h)⟩
/-- a pointer more -/
theorem pcells_snoc (Q : List (Int × Pf)) (q : Int × Pf) : pcells (Q ++ [q]) = pcells Q ++ pcell q := by simp [pcells]
theorem tw_addQ {pv' : Value} {q : Int × Pf} (h : Sep w (rw_ 0 115 5 pv' (Q.length + 1) (pcells Q ++ [.int .i64 4, .int .i64 q.1, .int .i64 q.2.depth, .int .i64 q.2.slot, .int .i64 q.2.which]) :: twB t b lv pv many :: twM lv ml :: (ml.map mrow ++ G)) W) :
    Sep w (twL t b lv pv' ml (Q ++ [q]) many ++ G) (W.setCell ⟨t, 2, none⟩ pv') ∧ W.cell? ⟨t, 2, none⟩ = some pv ∧ W.cell? ⟨t, 1, none⟩ = some lv ∧ ∀ j, W.frozen? ⟨t, j, none⟩ = false := by
  have e : twQ pv' (Q ++ [q]) = rw_ 0 115 5 pv' (Q.length + 1) (pcells Q ++ [.int .i64 4, .int .i64 q.1, .int .i64 q.2.depth, .int .i64 q.2.slot, .int .i64 q.2.which]) := by
    unfold twQ
    rw [pcells_snoc, List.length_append]
    rfl
  rw [← e] at h
  have h1 := h.perm (List.Perm.swap _ _ _)
  have h2 := Sep.store h1 2 pv'
  refine ⟨h2.perm (List.Perm.cons _ (List.Perm.swap _ _ _)), Sep.cell h1 (List.Mem.head _) rfl, Sep.cell h1 (List.Mem.head _) rfl, fun j => Sep.free h1 (List.Mem.head _) j⟩
/-- an operand more: the row grown, then stored -/
theorem tw_push1 {m : Nat} {a2 : Option Addr} {c2 : Nat} {w2 : World} {news : List (Int × Int)} {kk : Nat} (h : Sep w (twL t b (.slice (some ⟨g, 0, none⟩) (l.length + 1 : Nat) c) pv (x :: l) Q many ++ G) W) (hk : x.m.ops.length = kk) (hm : news.length = m) (hown : w2.ownsRow 0 34 2 (.slice a2 (kk + m) c2) (kk + m) (wcells x.m.ops ++ wcells news)) (hg : W.grownBy w2 x.ov.ownBlock)
    (hat : (Value.slice a2 (kk + m) c2).ownBlock = x.ov.ownBlock ∨ (Value.slice a2 (kk + m) c2).ownBlock = some W.heap.size) :
    Sep w (twL t b (.slice (some ⟨g, 0, none⟩) (l.length + 1 : Nat) c) pv ({ x with ov := .slice a2 (kk + m) c2, m := x.m.withOps (x.m.ops ++ news) } :: l) Q many ++ G) (w2.setCell ⟨g, l.length * 7 + 5, none⟩ (.slice a2 (kk + m) c2)) ∧
    Sep w (twB t b (.slice (some ⟨g, 0, none⟩) (l.length + 1 : Nat) c) pv many :: twM (.slice (some ⟨g, 0, none⟩) (l.length + 1 : Nat) c) (x :: l) :: twQ pv Q :: lrow x :: vrow x.sv x.m.slots :: (l.map mrow ++ G)) w2 := by
  subst hk hm
  have h1 := Sep.app (tw_open h) hown hg hat
  have e : rw_ 0 34 2 (.slice a2 (x.m.ops.length + news.length) c2) (x.m.ops.length + news.length) (wcells x.m.ops ++ wcells news) = vrow (.slice a2 (x.m.ops.length + news.length) c2) (x.m.ops ++ news) := by
    unfold vrow
    rw [List.length_append]
    simp [wcells]
  rw [e] at h1
  exact ⟨tw_ops h1, h1.tl⟩
/-- what is read behind that, ahead of the store -/
theorem tw_mid (h : Sep w (twB t b (.slice (some ⟨g, 0, none⟩) (l.length + 1 : Nat) c) pv many :: twM (.slice (some ⟨g, 0, none⟩) (l.length + 1 : Nat) c) (x :: l) :: twQ pv Q :: lrow x :: vrow x.sv x.m.slots :: (l.map mrow ++ G)) W) : W.cell? ⟨t, 0, none⟩ = some (.pointer (some ⟨b, 0, none⟩)) ∧ W.cell? ⟨t, 1, none⟩ = some (.slice (some ⟨g, 0, none⟩) (l.length + 1 : Nat) c) ∧ W.cell? ⟨t, 2, none⟩ = some pv ∧ W.cell? ⟨g, l.length * 7 + 5, none⟩ = some x.ov ∧ ∀ i, W.frozen? ⟨g, i, none⟩ = false := by
  have ho : W.ownsRow 0 56 7 (.slice (some ⟨g, 0, none⟩) (l.length + 1 : Nat) c) (x :: l).length (mcells (x :: l)) := Sep.owns h (List.Mem.tail _ (List.Mem.head _))
  refine ⟨Sep.cell h (List.Mem.head _) rfl, Sep.cell h (List.Mem.head _) rfl, Sep.cell h (List.Mem.head _) rfl, ?_, fun i => ho.frozenAt i⟩
  have h5 : l.length * 7 + 5 < (x :: l).length * 7 := by rw [List.length_cons]; omega
  rw [ho.cellAt (l.length * 7 + 5) h5]
  exact mcells_at [] x l 5 (by omega)
end
end Go.Proofs.YtpfnnmcokbolhaaGreat
/- The twin's put: what is found, and a model's slot that is stored to. -/
namespace Go.Proofs.YtpfnnmcokbolhaaGreat
open Go.RowKit
set_option pp.deepTerms true
/-- no pointer but the null one -/
def NoPtr (l : List (Int × Int)) : Prop := ∀ v ∈ l, ¬ (v.1 = 4 ∧ v.2 ≠ 0)
theorem topPtr_none {l : List (Int × Int)} (h : NoPtr l) : topPtr l = none := by
  unfold topPtr
  rw [List.find?_eq_none]
  intro v hv
  have := h v (List.mem_reverse.1 hv)
  simpa using this
theorem topPtr_at {l : List (Int × Int)} {k : Nat} (hk : k < l.length) (h : NoPtr (l.drop (k + 1))) (h1 : l[k].1 = 4) (h2 : l[k].2 ≠ 0) : topPtr l = some l[k] := by
  unfold topPtr
  have e : l.reverse = (l.drop (k + 1)).reverse ++ l[k] :: (l.take k).reverse := by
    conv => lhs; rw [← List.take_append_drop k l, List.drop_eq_getElem_cons hk]
    simp
  rw [e, List.find?_append]
  have e0 : (l.drop (k + 1)).reverse.find? (fun v => decide (v.1 = 4) && decide (v.2 ≠ 0)) = none := by
    rw [List.find?_eq_none]
    intro v hv
    have := h v (List.mem_reverse.1 hv)
    simpa using this
  rw [e0]
  simp [h1, h2]
theorem NoPtr.more {l : List (Int × Int)} {k : Nat} (hk : k < l.length) (h : NoPtr (l.drop (k + 1))) (h1 : ¬ (l[k].1 = 4 ∧ l[k].2 ≠ 0)) : NoPtr (l.drop k) := by
  rw [List.drop_eq_getElem_cons hk]
  intro v hv
  rcases List.mem_cons.1 hv with rfl | q
  · exact h1
  · exact h v q
theorem getAt_none : ∀ {M : List Md} {d : Nat}, M.length ≤ d → getAt d M = none
  | [], _, _ => rfl
  | m :: M, d, h => by
    unfold getAt
    simp only [List.length_cons] at h
    rw [if_neg (by omega)]
    exact getAt_none (by omega)
theorem getAt_split {pre post : List Md} {m : Md} : getAt post.length (pre ++ m :: post) = some m ∧ ∀ g, modAt post.length g (pre ++ m :: post) = pre ++ g m :: post := by
  induction pre with
  | nil => exact ⟨by unfold getAt; simp, fun g => by simp [modAt]⟩
  | cons c pre ih =>
    have hl : ¬ (pre ++ m :: post).length = post.length := by simp; omega
    refine ⟨?_, fun g => ?_⟩
    · show getAt post.length (c :: (pre ++ m :: post)) = _
      unfold getAt
      rw [if_neg hl]
      exact ih.1
    · show modAt post.length g (c :: (pre ++ m :: post)) = _
      unfold modAt
      rw [if_neg hl, ih.2 g]
      rfl
theorem split_at {α : Type} (l : List α) {d : Nat} (h : d < l.length) : ∃ pre y post, l = pre ++ y :: post ∧ post.length = d := by
  refine ⟨l.take (l.length - 1 - d), l[l.length - 1 - d]'(by omega), l.drop (l.length - 1 - d + 1), ?_, by simp; omega⟩
  rw [← List.drop_eq_getElem_cons (by omega), List.take_append_drop]
section
variable {w W : World} {F G : List Asr} {t b p k g c : Nat} {sz ca many : Int} {C : Ch} {lv pv : Value} {ml l : List Mv} {x : Mv} {Q : List (Int × Pf)} {A : Asr} {T : Tw} {Z : List (Md × Af)} {n : Nat}
theorem mcells_same {pre post : List Mv} {x y : Mv} (h : mcell x = mcell y) : mcells (pre ++ x :: post) = mcells (pre ++ y :: post) := by simp [mcells, h]
/-- a model's slot is stored to -/
theorem tw_slot {pre post : List Mv} (h : Sep w (twL t b lv pv (pre ++ x :: post) Q many ++ G) W) {i : Nat} (hi : i < x.m.slots.length) : ∃ g c, x.sv = .slice (some ⟨g, 0, none⟩) x.m.slots.length c ∧ x.m.slots.length ≤ c ∧ W.cell? ⟨g, i * 2, none⟩ = some (.int .i64 x.m.slots[i].1) ∧ W.cell? ⟨g, i * 2 + 1, none⟩ = some (.int .i64 x.m.slots[i].2) ∧ (∀ j, W.frozen? ⟨g, j, none⟩ = false) ∧
    ∀ v : Int × Int, Sep w (twL t b lv pv (pre ++ { x with m := x.m.set i v } :: post) Q many ++ G) ((W.setCell ⟨g, i * 2, none⟩ (.int .i64 v.1)).setCell ⟨g, i * 2 + 1, none⟩ (.int .i64 v.2)) := by
  have e1 : ∀ (y : Mv) (lv : Value), twL t b lv pv (pre ++ y :: post) Q many ++ G = (twB t b lv pv many :: twM lv (pre ++ y :: post) :: twQ pv Q :: pre.map mrow) ++ mrow y :: (post.map mrow ++ G) := fun y lv => by simp [twL]
  rw [e1] at h
  have h1 := Sep.sepE (h.perm List.perm_middle)
  have h2 := Sep.sepE (h1.perm (List.Perm.swap _ _ _))
  have ho : W.ownsRow 0 34 2 x.sv x.m.slots.length (wcells x.m.slots) := h2.owns (List.Mem.head _)
  obtain ⟨g, c, hsv⟩ := row_shape ho (by omega)
  have hc : x.m.slots.length ≤ c := by
    have ho2 := ho
    rw [hsv] at ho2
    rcases ho2.2 with ⟨q, _⟩ | ⟨_, _, _, q, _, _, hc, _⟩
    · simp at q
    · simp at q; omega
  have ho' := ho
  rw [hsv] at ho'
  refine ⟨g, c, hsv, hc, ?_, ?_, fun j => ho'.frozenAt j, fun v => ?_⟩
  · rw [ho'.cellAt _ (by omega)]; exact wcells_fst hi
  · rw [ho'.cellAt _ (by omega)]; exact wcells_snd hi
  · rw [e1]
    have h3 : Sep w (vrow x.sv (x.m.set i v).slots :: vrow x.ov x.m.ops :: lrow x :: (twB t b lv pv many :: twM lv (pre ++ x :: post) :: twQ pv Q :: pre.map mrow) ++ (post.map mrow ++ G)) ((W.setCell ⟨g, i * 2, none⟩ (.int .i64 v.1)).setCell ⟨g, i * 2 + 1, none⟩ (.int .i64 v.2)) := h2.turn (fun fs hf _ => by
      obtain ⟨rfl, hr⟩ := hf
      rw [hsv] at hr
      have s1 := hr.stored (i * 2) (.int .i64 v.1)
      have s2 := s1.1.stored (i * 2 + 1) (.int .i64 v.2)
      rw [← wcells_set] at s2
      have s3 : (W.setCell ⟨g, i * 2, none⟩ (.int .i64 v.1) |>.setCell ⟨g, i * 2 + 1, none⟩ (.int .i64 v.2)).ownsRow 0 34 2 x.sv (x.m.slots.set i v).length (wcells (x.m.slots.set i v)) := by
        rw [hsv, List.length_set]; exact s2.1
      refine ⟨_, ⟨rfl, s3⟩, ?_, fun y hy => .inl hy⟩
      rw [hsv]
      exact ((Kp.refl _ _).setCell (.inl (by simp [Value.ownBlock])) _).setCell (.inl (by simp [Value.ownBlock])) _)
    have h4 : Sep w (Asr.sep (vrow x.sv (x.m.set i v).slots) (vrow x.ov x.m.ops) :: lrow x :: ((twB t b lv pv many :: twM lv (pre ++ x :: post) :: twQ pv Q :: pre.map mrow) ++ (post.map mrow ++ G))) _ := Sep.sepI h3
    have h5 : Sep w (mrow { x with m := x.m.set i v } :: ((twB t b lv pv many :: twM lv (pre ++ x :: post) :: twQ pv Q :: pre.map mrow) ++ (post.map mrow ++ G))) _ := Sep.sepI (h4.perm (List.Perm.swap _ _ _))
    have e2 : twM lv (pre ++ x :: post) = twM lv (pre ++ { x with m := x.m.set i v } :: post) := by
      unfold twM
      rw [mcells_same (x := x) (y := { x with m := x.m.set i v }) rfl]
      simp
    rw [e2] at h5
    exact h5.perm List.perm_middle.symm
/-- the top model's operands as read -/
theorem tw_ovAt {g2 c2 m : Nat} (h : Sep w (twL t b lv pv (x :: l) Q many ++ G) W) (hov : x.ov = .slice (some ⟨g2, 0, none⟩) m c2) (hm : x.m.ops.length = m) {j : Nat} (hj : j < x.m.ops.length) : W.cell? ⟨g2, j * 2, none⟩ = some (.int .i64 x.m.ops[j].1) ∧ W.cell? ⟨g2, j * 2 + 1, none⟩ = some (.int .i64 x.m.ops[j].2) := by
  subst hm
  have ho : W.ownsRow 0 34 2 x.ov x.m.ops.length (wcells x.m.ops) := (tw_open h).owns (List.Mem.head _)
  rw [hov] at ho
  have q1 : j * 2 < x.m.ops.length * 2 := by omega
  have q2 : j * 2 + 1 < x.m.ops.length * 2 := by omega
  exact ⟨by rw [ho.cellAt _ q1]; exact wcells_fst hj, by rw [ho.cellAt _ q2]; exact wcells_snd hj⟩
theorem tw_ovShape (h : Sep w (twL t b lv pv (x :: l) Q many ++ G) W) : ∃ ao c2, x.ov = .slice ao x.m.ops.length c2 ∧ x.m.ops.length ≤ c2 ∧ (0 < x.m.ops.length → ∃ g2, ao = some ⟨g2, 0, none⟩) := by
  have ho : W.ownsRow 0 34 2 x.ov x.m.ops.length (wcells x.m.ops) := (tw_open h).owns (List.Mem.head _)
  rcases ho.2 with ⟨q, h0⟩ | ⟨g', cap, cur, q, _, _, hc, _⟩
  · exact ⟨_, _, by rw [h0]; exact q, by omega, fun q => by omega⟩
  · exact ⟨_, _, q, hc, fun _ => ⟨_, rfl⟩⟩
theorem five_cells {q : Nat} {v1 v2 v3 v4 v5 : Value} {T : TypeId} {L : List Asr} (h : Sep w L W) (hm : bx q (.cells #[v1, v2, v3, v4, v5] T) ∈ L) : W.cell? ⟨q, 0, none⟩ = some v1 ∧ W.cell? ⟨q, 1, none⟩ = some v2 ∧ W.cell? ⟨q, 2, none⟩ = some v3 ∧ W.cell? ⟨q, 3, none⟩ = some v4 ∧ W.cell? ⟨q, 4, none⟩ = some v5 := by
  have B := Sep.at h hm
  exact ⟨by rw [cell_of_row _ _ 0 _ _ _ B]; rfl, by rw [cell_of_row _ _ 1 _ _ _ B]; rfl, by rw [cell_of_row _ _ 2 _ _ _ B]; rfl, by rw [cell_of_row _ _ 3 _ _ _ B]; rfl, by rw [cell_of_row _ _ 4 _ _ _ B]; rfl⟩
/-- a pointer's cells -/
theorem tw_ptAt {pa : Option Addr} {pc q : Nat} (h : Sep w (twL t b lv (.slice pa Q.length pc) ml Q many ++ G) W) (hq : q < Q.length) : ∃ gp, pa = some ⟨gp, 0, none⟩ ∧ Q.length ≤ pc ∧ ∀ i u, (pcell Q[q])[i]? = some u → W.cell? ⟨gp, q * 5 + i, none⟩ = some u := by
  have eQ : Q = Q.take q ++ Q[q] :: Q.drop (q + 1) := by rw [← List.drop_eq_getElem_cons hq, List.take_append_drop]
  have hlen : (Q.take q ++ Q[q] :: Q.drop (q + 1)).length = Q.length := by rw [← eQ]
  have h1 : Sep w (twL t b lv (.slice pa Q.length pc) ml (Q.take q ++ Q[q] :: Q.drop (q + 1)) many ++ G) W := by rw [← eQ]; exact h
  obtain ⟨gp, c, e, hc, hcs⟩ := tw_pt h1
  simp only [Value.slice.injEq] at e
  obtain ⟨rfl, -, rfl⟩ := e
  have hml : (Q.take q).length = q := by simp; omega
  rw [hml] at hcs
  exact ⟨gp, rfl, by omega, hcs⟩
/-- a model's cells below -/
theorem tw_modAt {pre post : List Mv} {m : Nat} (h : Sep w (twL t b (.slice (some ⟨g, 0, none⟩) m c) pv (pre ++ x :: post) Q many ++ G) W) : W.cell? ⟨g, post.length * 7 + 4, none⟩ = some x.sv ∧ W.cell? ⟨g, post.length * 7 + 6, none⟩ = some (.int .i64 x.m.which) := by
  obtain ⟨g', c', e, -, h1, -⟩ := tw_at h
  simp only [Value.slice.injEq, Option.some.injEq, Addr.mk.injEq, and_true, true_and] at e
  obtain ⟨rfl, -, -⟩ := e
  exact ⟨h1 4 _ rfl, h1 6 _ rfl⟩
theorem tw_slotAt {pre post : List Mv} {gs ns cs : Nat} (h : Sep w (twL t b lv pv (pre ++ x :: post) Q many ++ G) W) {i : Nat} (hi : i < x.m.slots.length) (hsv : x.sv = .slice (some ⟨gs, 0, none⟩) ns cs) : W.cell? ⟨gs, i * 2, none⟩ = some (.int .i64 x.m.slots[i].1) ∧ W.cell? ⟨gs, i * 2 + 1, none⟩ = some (.int .i64 x.m.slots[i].2) ∧ (∀ j, W.frozen? ⟨gs, j, none⟩ = false) ∧
    ∀ v : Int × Int, Sep w (twL t b lv pv (pre ++ { x with m := x.m.set i v } :: post) Q many ++ G) ((W.setCell ⟨gs, i * 2, none⟩ (.int .i64 v.1)).setCell ⟨gs, i * 2 + 1, none⟩ (.int .i64 v.2)) := by
  obtain ⟨g', c', e, -, h1⟩ := tw_slot h hi
  rw [hsv] at e
  simp only [Value.slice.injEq, Option.some.injEq, Addr.mk.injEq, and_true, true_and] at e
  obtain ⟨rfl, -, -⟩ := e
  exact h1
end
end Go.Proofs.YtpfnnmcokbolhaaGreat
/- The twin's point. -/
namespace Go.Proofs.YtpfnnmcokbolhaaGreat
open Go.RowKit
set_option pp.deepTerms true
def pointN (N : Nt) (i : Int) : Nt := match N.M with
  | [] => N
  | f :: M => if slotIs f.lay i 1 then ⟨(if (f.ops.length : Int) ≠ f.lay.height then f.withOps (f.ops ++ [(4, (N.P.length : Int) + 1)]) else f) :: M, N.P ++ [⟨(M.length : Int), i, f.which⟩], N.many⟩ else N
section
variable {w W : World} {F G : List Asr} {t b p k g c : Nat} {sz ca many : Int} {C : Ch} {lv pv : Value} {ml l : List Mv} {x : Mv} {Q : List (Int × Pf)} {A : Asr} {T : Tw} {Z : List (Md × Af)} {n : Nat}
theorem tw_appQ {qn : Nat} {g2 : Option Addr} {cap2 : Nat} {w2 : World} {q : Int × Pf} (h : Sep w (twL t b (.slice (some ⟨g, 0, none⟩) (l.length + 1 : Nat) c) pv (x :: l) Q many ++ G) W) (hq : Q.length = qn) (hown : w2.ownsRow 0 115 5 (.slice g2 (qn + 1) cap2) (qn + 1) (pcells Q ++ pcell q)) (hg : W.grownBy w2 pv.ownBlock)
    (hat : (Value.slice g2 (qn + 1) cap2).ownBlock = pv.ownBlock ∨ (Value.slice g2 (qn + 1) cap2).ownBlock = some W.heap.size) :
    Sep w (twL t b (.slice (some ⟨g, 0, none⟩) (l.length + 1 : Nat) c) (.slice g2 (qn + 1) cap2) (x :: l) (Q ++ [q]) many ++ G) (w2.setCell ⟨t, 2, none⟩ (.slice g2 (qn + 1) cap2)) ∧
    w2.cell? ⟨t, 0, none⟩ = some (.pointer (some ⟨b, 0, none⟩)) ∧ w2.cell? ⟨t, 1, none⟩ = some (.slice (some ⟨g, 0, none⟩) (l.length + 1 : Nat) c) ∧ w2.cell? ⟨t, 2, none⟩ = some pv ∧ (∀ j, w2.frozen? ⟨t, j, none⟩ = false) ∧ w2.cell? ⟨g, l.length * 7 + 6, none⟩ = some (.int .i64 x.m.which) ∧ Sep w G w2 := by
  subst hq
  have h1 : Sep w (rw_ 0 115 5 (.slice g2 (Q.length + 1) cap2) (Q.length + 1) (pcells Q ++ pcell q) :: twB t b (.slice (some ⟨g, 0, none⟩) (l.length + 1 : Nat) c) pv many :: twM (.slice (some ⟨g, 0, none⟩) (l.length + 1 : Nat) c) (x :: l) :: ((x :: l).map mrow ++ G)) w2 := Sep.app (Sep.pick 2 h rfl) hown hg hat
  obtain ⟨r1, r2, r3, r4⟩ := tw_addQ (q := q) h1
  have ho : w2.ownsRow 0 56 7 (.slice (some ⟨g, 0, none⟩) (l.length + 1 : Nat) c) (x :: l).length (mcells (x :: l)) := Sep.owns h1 (List.Mem.tail _ (List.Mem.tail _ (List.Mem.head _)))
  refine ⟨r1, Sep.cell h1 (List.Mem.tail _ (List.Mem.head _)) rfl, r3, r2, r4, ?_, Sep.sub h1 (List.Sublist.cons _ (List.Sublist.cons _ (List.Sublist.cons _ (List.sublist_append_right _ _))))⟩
  have h5 : l.length * 7 + 6 < (x :: l).length * 7 := by rw [List.length_cons]; omega
  rw [ho.cellAt (l.length * 7 + 6) h5]
  exact mcells_at [] x l 6 (by omega)
set_option maxRecDepth 100000 in
set_option maxHeartbeats 4000000 in
theorem tpoint_any (h : Sep w (twL t b lv pv (x :: l) Q many ++ chP b p k sz ca C F) W) (hs : Sim sz ca n ⟨C, (x :: l).map (·.m), Q, many⟩ Z) (hn : n ≤ 290) (i : Int) :
    Calls Tryz.prog 31 #[.pointer (some ⟨t, 0, none⟩), .int .i64 i] W fun e w' => TwR w w' t b p k sz ca (n + 1) (pointN (Tw.N ⟨C, (x :: l).map (·.m), Q, many⟩) i) F ∧ e = .returned (.bool true) := by
  have hok := hs.ok (by omega)
  have hne := hs.ne rfl
  have HA := caddr_any (tw_ch h) hok hne i
  have k0 := (tw_k h).1
  cases hsl : slotIs x.m.lay i 1
  · have he : (addrC C i).2 = 250 := hs.addr_no rfl hsl
    rw [he] at HA
    have HA := Hid.mk HA
    have HE : Hid (pointN (Tw.N ⟨C, (x :: l).map (·.m), Q, many⟩) i = Tw.N ⟨C, (x :: l).map (·.m), Q, many⟩) := by
      unfold Hid pointN Tw.N
      simp only [List.map_cons]
      rw [hsl]
      rfl
    have HS := Hid.mk (hs.mono (Nat.le_succ n))
    clear h hs hok hne hsl he
    go_enter Tryz.func31, Tryz.ntmps31
    go_wp2_with fail
    refine HA.out.mono ?_
    rintro e w1 ⟨h1, hb1, rfl⟩
    have H1 := Hid.mk (tw_lose (tw_more (ch_tw h1) (.cells #[.int .i64 (addrC C i).1.1, .int .i64 (addrC C i).1.2] 34)))
    clear HA h1 hb1
    go_wp2_with fail
    go_ret
    exact ⟨⟨_, _, ⟨_, _, _, rfl, H1.out⟩, HS.out, HE.out.symm⟩, rfl⟩
  · obtain ⟨a, ha, ha0, hs1⟩ := hs.addr rfl hsl
    rw [ha] at HA
    have HA := Hid.mk HA
    have HSL := Hid.mk hsl
    have HS1 := Hid.mk hs1
    obtain ⟨-, -, -, -, hol⟩ := hs.md (m := x.m) (by simp)
    have hql := hs.n2
    have hll := hs.n3
    have hll : l.length ≤ 290 := by
      have := hs.len.1
      simp at this
      omega
    simp only at hql
    have HOK := Hid.mk hok
    have HNE := Hid.mk hne
    clear h hs hok hne hsl ha hs1
    go_enter Tryz.func31, Tryz.ntmps31
    go_wp2_with fail
    refine HA.out.mono ?_
    rintro e w1 ⟨h1, hb1, rfl⟩
    have h2 := tw_more (ch_tw h1) (.cells #[.int .i64 4, .int .i64 a] 34)
    obtain ⟨B5, hB5⟩ : ∃ B5, w1.heap.size = B5 := ⟨_, rfl⟩
    obtain ⟨X2, hX2⟩ : ∃ X2, X2 = w1.alloc (.cells #[.int .i64 4, .int .i64 a] 34) := ⟨_, rfl⟩
    rw [hB5, ← hX2] at h2
    obtain ⟨g, c, rfl, hc, -, -, -, -, -, -, k6, -⟩ := tw_top h2
    obtain ⟨pa, pc, rfl⟩ := (tw_shapes h2).2
    obtain ⟨ao, c2, hov, hc2, hao⟩ := tw_ovShape h2
    obtain ⟨m, hm⟩ : ∃ m, x.m.ops.length = m := ⟨_, rfl⟩
    have HOV := Hid.mk hov
    have HM := Hid.mk hm
    rw [hm] at hol hc2 hao
    obtain ⟨k0, k1, k2, k3, -⟩ := tw_k h2
    obtain ⟨v0, v1, -⟩ := two_cells h2 (q := B5) (tw_mem (List.Mem.head _))
    obtain ⟨lm, hlm⟩ : ∃ lm, l.length = lm := ⟨_, rfl⟩
    obtain ⟨qn, hqn⟩ : ∃ qn, Q.length = qn := ⟨_, rfl⟩
    have HLM := Hid.mk hlm
    have HQN := Hid.mk hqn
    rw [hlm] at hc k1 k6 hll
    rw [hqn] at k2 hql
    have w1' : IntKind.i64.wrap (((lm + 1 : Nat) : Int) - 1) = (lm : Int) := by rw [IntKind.wrap_i64]; omega
    have w2 : IntKind.i64.wrap ((lm : Int) + 1 - 1) = (lm : Int) := by rw [IntKind.wrap_i64]; omega
    have w3 : IntKind.i64.wrap (lm : Int) = (lm : Int) := by rw [IntKind.wrap_i64]; omega
    have hk3 : lm < lm + 1 := by omega
    have hk4 : (lm : Int) < (lm : Int) + 1 := by omega
    have H2 := Hid.mk h2
    clear HA h1 hb1 h2 hlm hqn hm hov hao
    go_upto_region 4 with (fail)
    have hX2' : w1.alloc (.cells #[.int .i64 4, .int .i64 a] 34) = X2 := hX2.symm
    rw [hX2']
    clear hX2 hX2'
    go_quiet (fail)
    go_upto_region 5 with (fail)
    obtain ⟨ip0, ip, ipz0, ipz1, ipz2⟩ := info_parts infoP
    have h3 := Sep.keep H2.out (below_drewN (Below.refl X2.heap.size X2) nq)
    obtain ⟨X3, hX3⟩ : ∃ X, X = X2.drewN nq := ⟨_, rfl⟩
    rw [← hX3] at h3 ⊢
    have HRW : X3.ownsRow 0 115 5 (.slice pa qn pc) qn (pcells Q) := by have := tw_rowQ h3; rw [HQN.out] at this; exact this
    have HRW4 : Hid (∀ X4, X4 = X3.drew → X4.ownsRow 0 115 5 (.slice pa qn pc) qn (pcells Q)) := fun X4 q => by rw [q]; exact HRW.drew
    have HRW := Hid.mk HRW
    obtain ⟨-, -, -, -, -, -, -, k6, -⟩ := tw_topAt h3
    obtain ⟨-, k1, k2, -, -⟩ := tw_k h3
    obtain ⟨v0, v1, -⟩ := two_cells h3 (q := B5) (tw_mem (List.Mem.head _))
    rw [HLM.out] at k1 k6
    rw [HQN.out] at k2
    have H3 := Hid.mk h3
    clear h3 H2 k0 k3
    refine wp_region_L 22 (fun X => X.cell? ⟨t, 1, none⟩ = some (.slice (some ⟨g, 0, none⟩) (lm + 1 : Nat) c) ∧ X.cell? ⟨t, 2, none⟩ = some (.slice pa qn pc) ∧ X.cell? ⟨g, lm * 7 + 6, none⟩ = some (.int .i64 x.m.which) ∧ X.cell? ⟨B5, 0, none⟩ = some (.int .i64 4) ∧ X.cell? ⟨B5, 1, none⟩ = some (.int .i64 a)) (by kernel_rfl) ⟨k1, k2, k6, v0, v1⟩ (fun hHeld => ?_)
    obtain ⟨X4, hX4⟩ : ∃ X, X = X3.drew := ⟨_, rfl⟩
    rw [← hX4] at hHeld ⊢
    have HX4e := Hid.mk hX4
    clear hX4
    refine wpAnyL_take (i := 0) (v := ?_) rfl (by kernel_rfl) (by kernel_rfl) (by kernel_rfl) (by kernel_rfl) (fun _ _ _ h => h) (Or.inl ⟨by rfl, ?_⟩) (by assumption) ?_
    rotate_left
    · (intro w hSw; (try dsimp only at hSw); go_simp <;> with_reducible rfl)
    (try simp only [Act.put, List.getElem_toArray, List.getElem_cons_zero, List.getElem_cons_succ, List.setIfInBounds_toArray, List.set_cons_zero, List.set_cons_succ])
    refine wpAnyL_take (i := 1) (v := ?_) rfl (by kernel_rfl) (by kernel_rfl) (by kernel_rfl) (by kernel_rfl) (fun _ _ _ h => h) (Or.inl ⟨by rfl, ?_⟩) (by assumption) ?_
    rotate_left
    · (intro w hSw; (try dsimp only at hSw); go_simp <;> with_reducible rfl)
    (try simp only [Act.put, List.getElem_toArray, List.getElem_cons_zero, List.getElem_cons_succ, List.setIfInBounds_toArray, List.set_cons_zero, List.set_cons_succ])
    refine wpAnyL_take (i := 2) (v := ?_) rfl (by kernel_rfl) (by kernel_rfl) (by kernel_rfl) (by kernel_rfl) (fun _ _ _ h => h) (Or.inl ⟨by rfl, ?_⟩) (by assumption) ?_
    rotate_left
    · (intro w hSw; (try dsimp only at hSw); go_simp <;> with_reducible rfl)
    (try simp only [Act.put, List.getElem_toArray, List.getElem_cons_zero, List.getElem_cons_succ, List.setIfInBounds_toArray, List.set_cons_zero, List.set_cons_succ])
    refine wpAnyL_take (i := 3) (v := ?_) rfl (by kernel_rfl) (by kernel_rfl) (by kernel_rfl) (by kernel_rfl) (fun _ _ _ h => h) (Or.inl ⟨by rfl, ?_⟩) (by assumption) ?_
    rotate_left
    · (intro w hSw; (try dsimp only at hSw); go_simp <;> with_reducible rfl)
    (try simp only [Act.put, List.getElem_toArray, List.getElem_cons_zero, List.getElem_cons_succ, List.setIfInBounds_toArray, List.set_cons_zero, List.set_cons_succ])
    refine wpAnyL_take (i := 4) (v := ?_) rfl (by kernel_rfl) (by kernel_rfl) (by kernel_rfl) (by kernel_rfl) (fun _ _ _ h => h) (Or.inl ⟨by rfl, ?_⟩) (by assumption) ?_
    rotate_left
    · (intro w hSw; (try dsimp only at hSw); go_simp <;> with_reducible rfl)
    (try simp only [Act.put, List.getElem_toArray, List.getElem_cons_zero, List.getElem_cons_succ, List.setIfInBounds_toArray, List.set_cons_zero, List.set_cons_succ])
    refine wpAnyL_take (i := 5) (v := ?_) rfl (by kernel_rfl) (by kernel_rfl) (by kernel_rfl) (by kernel_rfl) (fun _ _ _ h => h) (Or.inl ⟨by rfl, ?_⟩) (by assumption) ?_
    rotate_left
    · (intro w hSw; (try dsimp only at hSw); go_simp <;> with_reducible rfl)
    (try simp only [Act.put, List.getElem_toArray, List.getElem_cons_zero, List.getElem_cons_succ, List.setIfInBounds_toArray, List.set_cons_zero, List.set_cons_succ])
    refine wpAnyL_take (i := 6) (v := ?_) rfl (by kernel_rfl) (by kernel_rfl) (by kernel_rfl) (by kernel_rfl) (fun _ _ _ h => h) (Or.inl ⟨by rfl, ?_⟩) (by assumption) ?_
    rotate_left
    · (intro w hSw; (try dsimp only at hSw); go_simp <;> with_reducible rfl)
    (try simp only [Act.put, List.getElem_toArray, List.getElem_cons_zero, List.getElem_cons_succ, List.setIfInBounds_toArray, List.set_cons_zero, List.set_cons_succ])
    refine wpAnyL_take (i := 7) (v := ?_) rfl (by kernel_rfl) (by kernel_rfl) (by kernel_rfl) (by kernel_rfl) (fun _ _ _ h => h) (Or.inl ⟨by rfl, ?_⟩) (by assumption) ?_
    rotate_left
    · (intro w hSw; (try dsimp only at hSw); go_simp <;> with_reducible rfl)
    (try simp only [Act.put, List.getElem_toArray, List.getElem_cons_zero, List.getElem_cons_succ, List.setIfInBounds_toArray, List.set_cons_zero, List.set_cons_succ])
    refine wpAnyL_take (i := 8) (v := ?_) rfl (by kernel_rfl) (by kernel_rfl) (by kernel_rfl) (by kernel_rfl) (fun _ _ _ h => h) (Or.inl ⟨by rfl, ?_⟩) (by assumption) ?_
    rotate_left
    · (intro w hSw; (try dsimp only at hSw); go_simp <;> with_reducible rfl)
    (try simp only [Act.put, List.getElem_toArray, List.getElem_cons_zero, List.getElem_cons_succ, List.setIfInBounds_toArray, List.set_cons_zero, List.set_cons_succ])
    refine wpAnyL_take (i := 9) (v := ?_) rfl (by kernel_rfl) (by kernel_rfl) (by kernel_rfl) (by kernel_rfl) (fun _ _ _ h => h) (Or.inl ⟨by rfl, ?_⟩) (by assumption) ?_
    rotate_left
    · (intro w hSw; (try dsimp only at hSw); go_simp <;> with_reducible rfl)
    (try simp only [Act.put, List.getElem_toArray, List.getElem_cons_zero, List.getElem_cons_succ, List.setIfInBounds_toArray, List.set_cons_zero, List.set_cons_succ])
    refine wpAnyL_take (i := 10) (v := ?_) rfl (by kernel_rfl) (by kernel_rfl) (by kernel_rfl) (by kernel_rfl) (fun _ _ _ h => h) (Or.inl ⟨by rfl, ?_⟩) (by assumption) ?_
    rotate_left
    · (intro w hSw; (try dsimp only at hSw); go_simp <;> with_reducible rfl)
    (try simp only [Act.put, List.getElem_toArray, List.getElem_cons_zero, List.getElem_cons_succ, List.setIfInBounds_toArray, List.set_cons_zero, List.set_cons_succ])
    refine wpAnyL_take (i := 11) (v := ?_) rfl (by kernel_rfl) (by kernel_rfl) (by kernel_rfl) (by kernel_rfl) (fun _ _ _ h => h) (Or.inl ⟨by rfl, ?_⟩) (by assumption) ?_
    rotate_left
    · (intro w hSw; (try dsimp only at hSw); go_simp <;> with_reducible rfl)
    (try simp only [Act.put, List.getElem_toArray, List.getElem_cons_zero, List.getElem_cons_succ, List.setIfInBounds_toArray, List.set_cons_zero, List.set_cons_succ])
    refine wpAnyL_take (i := 12) (v := ?_) rfl (by kernel_rfl) (by kernel_rfl) (by kernel_rfl) (by kernel_rfl) (fun _ _ _ h => h) (Or.inl ⟨by rfl, ?_⟩) (by assumption) ?_
    rotate_left
    · (intro w hSw; (try dsimp only at hSw); go_simp <;> with_reducible rfl)
    (try simp only [Act.put, List.getElem_toArray, List.getElem_cons_zero, List.getElem_cons_succ, List.setIfInBounds_toArray, List.set_cons_zero, List.set_cons_succ])
    refine wpAnyL_take (i := 13) (v := ?_) rfl (by kernel_rfl) (by kernel_rfl) (by kernel_rfl) (by kernel_rfl) (fun _ _ _ h => h) (Or.inl ⟨by rfl, ?_⟩) (by assumption) ?_
    rotate_left
    · (intro w hSw; (try dsimp only at hSw); go_simp <;> with_reducible rfl)
    (try simp only [Act.put, List.getElem_toArray, List.getElem_cons_zero, List.getElem_cons_succ, List.setIfInBounds_toArray, List.set_cons_zero, List.set_cons_succ])
    refine wpAnyL_take (i := 14) (v := ?_) rfl (by kernel_rfl) (by kernel_rfl) (by kernel_rfl) (by kernel_rfl) (fun _ _ _ h => h) (Or.inl ⟨by rfl, ?_⟩) (by assumption) ?_
    rotate_left
    · (intro w hSw; (try dsimp only at hSw); go_simp <;> with_reducible rfl)
    (try simp only [Act.put, List.getElem_toArray, List.getElem_cons_zero, List.getElem_cons_succ, List.setIfInBounds_toArray, List.set_cons_zero, List.set_cons_succ])
    refine wpAnyL_take (i := 15) (v := ?_) rfl (by kernel_rfl) (by kernel_rfl) (by kernel_rfl) (by kernel_rfl) (fun _ _ _ h => h) (Or.inl ⟨by rfl, ?_⟩) (by assumption) ?_
    rotate_left
    · (intro w hSw; (try dsimp only at hSw); go_simp <;> with_reducible rfl)
    (try simp only [Act.put, List.getElem_toArray, List.getElem_cons_zero, List.getElem_cons_succ, List.setIfInBounds_toArray, List.set_cons_zero, List.set_cons_succ])
    refine wpAnyL_take (i := 16) (v := ?_) rfl (by kernel_rfl) (by kernel_rfl) (by kernel_rfl) (by kernel_rfl) (fun _ _ _ h => h) (Or.inl ⟨by rfl, ?_⟩) (by assumption) ?_
    rotate_left
    · (intro w hSw; (try dsimp only at hSw); go_simp <;> with_reducible rfl)
    (try simp only [Act.put, List.getElem_toArray, List.getElem_cons_zero, List.getElem_cons_succ, List.setIfInBounds_toArray, List.set_cons_zero, List.set_cons_succ])
    refine wpAnyL_take (i := 17) (v := ?_) rfl (by kernel_rfl) (by kernel_rfl) (by kernel_rfl) (by kernel_rfl) (fun _ _ _ h => h) (Or.inl ⟨by rfl, ?_⟩) (by assumption) ?_
    rotate_left
    · (intro w hSw; (try dsimp only at hSw); go_simp <;> with_reducible rfl)
    (try simp only [Act.put, List.getElem_toArray, List.getElem_cons_zero, List.getElem_cons_succ, List.setIfInBounds_toArray, List.set_cons_zero, List.set_cons_succ])
    refine wpAnyL_only (i := 18) (by kernel_rfl) rfl (fun K hK => ?_)
    go_simp
    refine hK _ _ (fun _ => ⟨alloc_cell hHeld.1, alloc_cell hHeld.2.1, alloc_cell hHeld.2.2.1, alloc_cell hHeld.2.2.2.1, alloc_cell hHeld.2.2.2.2⟩) (fun hHeld0 => ?_)
    have hHeld := hHeld0 rfl
    clear hK K hHeld0
    (try simp only [Act.put, List.getElem_toArray, List.getElem_cons_zero, List.getElem_cons_succ, List.setIfInBounds_toArray, List.set_cons_zero, List.set_cons_succ])
    have hnw := heap_alloc_new (X4) (.cells #[.int .i64 4, .int .i64 a, .int .i64 (lm : Int), .int .i64 i, .int .i64 x.m.which] 115)
    refine wpAnyL_only (i := 19) (by kernel_rfl) rfl (fun K hK => ?_)
    refine step_append_x _ (by rfl) _ _ _ (by rfl) 0 115 ip0 ((.agg #[.int .i64 0, .int .i64 0, .int .i64 0, .int .i64 0, .int .i64 0])) 5 40 Tryz.underlying42 ip ipz0 ipz1 ipz2 rfl (by omega) _ qn (pcells Q) (by rfl) ((HRW4.out _ HX4e.out).alloc _) 1 (#[.int .i64 4, .int .i64 a, .int .i64 (lm : Int), .int .i64 i, .int .i64 x.m.which] : Array Value).toList _ (by rfl) (AppArg.one (w := ((X4).alloc (.cells #[.int .i64 4, .int .i64 a, .int .i64 (lm : Int), .int .i64 i, .int .i64 x.m.which] 115))) hnw rfl (by simp [Value.oneCell'])) (by unfold maxLen; omega) (by omega) (Nat.zero_le _) ?_
    intro g2 cap2 w12 hown2 hg2 hat2
    have h30 := H3.out.drew
    rw [← HX4e.out] at h30
    have h3 : Sep w (twL t b (.slice (some ⟨g, 0, none⟩) (l.length + 1 : Nat) c) (.slice pa qn pc) (x :: l) Q many ++ chP b p k sz ca C (bx B5 (.cells #[.int .i64 4, .int .i64 a] 34) :: F)) (X4.alloc (.cells #[.int .i64 4, .int .i64 a, .int .i64 (lm : Int), .int .i64 i, .int .i64 x.m.which] 115)) := by rw [← HQN.out]; exact Sep.keep h30 ((Below.refl X4.heap.size X4).alloc (Nat.le_refl _) (.cells #[.int .i64 4, .int .i64 a, .int .i64 (lm : Int), .int .i64 i, .int .i64 x.m.which] 115))
    obtain ⟨h4, u0, u1, u2, u3, u4, u5⟩ := tw_appQ (qn := qn) (q := (a, ⟨(lm : Int), i, x.m.which⟩)) (h3) HQN.out hown2 hg2 hat2
    rw [HLM.out] at u1 u4
    obtain ⟨v0', v1', -⟩ := two_cells u5 (q := B5) (v1 := .int .i64 4) (v2 := .int .i64 a) (T := 34) (by simp [chP])
    have H4 := Hid.mk h4
    have z2 := u3 2
    clear h30 h3 h4 hown2 hg2 hat2 hnw u5 HRW HRW4 H3
    refine hK _ _ (fun _ => ⟨u1, u2, u4, v0', v1'⟩) (fun hHeld0 => ?_)
    have hHeld := hHeld0 rfl
    clear hK K hHeld0
    (try simp only [Act.put, List.getElem_toArray, List.getElem_cons_zero, List.getElem_cons_succ, List.setIfInBounds_toArray, List.set_cons_zero, List.set_cons_succ])
    refine wpAnyL_only (i := 20) (by kernel_rfl) rfl (fun K hK => ?_)
    go_simp
    refine hK _ _ (fun _ => ⟨u1, u2, u4, v0', v1'⟩) (fun hHeld0 => ?_)
    have hHeld := hHeld0 rfl
    clear hK K hHeld0
    (try simp only [Act.put, List.getElem_toArray, List.getElem_cons_zero, List.getElem_cons_succ, List.setIfInBounds_toArray, List.set_cons_zero, List.set_cons_succ])
    refine wpAnyL_only (i := 21) (by kernel_rfl) rfl (fun K hK => ?_)
    go_simp
    refine hK _ _ (fun _ => ⟨u1, u2, u4, v0', v1'⟩) (fun hHeld0 => ?_)
    have hHeld := hHeld0 rfl
    clear hK K hHeld0
    (try simp only [Act.put, List.getElem_toArray, List.getElem_cons_zero, List.getElem_cons_succ, List.setIfInBounds_toArray, List.set_cons_zero, List.set_cons_succ])
    refine wpAnyL_only (i := 22) (by kernel_rfl) rfl (fun K hK => ?_)
    go_simp
    refine hK _ _ (fun q => by cases q) (fun hHeld0 => ?_)
    clear hK K hHeld0
    refine wpAnyL_done (by kernel_rfl) ?_
    obtain ⟨X5, hX5⟩ : ∃ X, X = w12.setCell ⟨t, 2, none⟩ (.slice g2 (qn + 1 : Nat) cap2) := ⟨_, rfl⟩
    have hX5' : w12.setCell ⟨t, 2, none⟩ (.slice g2 (qn + 1) cap2) = X5 := hX5.symm
    have h5 := H4.out
    rw [hX5'] at h5
    rw [hX5']
    have hm := HM.out
    have HX : Hid (∀ {C' W'}, Sep w (chP b p k sz ca C' (twL t b (.slice (some ⟨g, 0, none⟩) (l.length + 1 : Nat) c) (.slice g2 (qn + 1) cap2) (x :: l) (Q ++ [(a, ⟨(lm : Int), i, x.m.which⟩)]) many ++ (bx B5 (.cells #[.int .i64 4, .int .i64 a] 34) :: F))) W' → W'.cell? ⟨t, 0, none⟩ = some (.pointer (some ⟨b, 0, none⟩)) ∧ W'.cell? ⟨B5, 0, none⟩ = some (.int .i64 4) ∧ W'.cell? ⟨B5, 1, none⟩ = some (.int .i64 a)) := fun {C' W'} q => by
      have q' := ch_tw q
      obtain ⟨e1, e2, -⟩ := two_cells q' (q := B5) (tw_mem (List.Mem.head _))
      exact ⟨(tw_k q').1, e1, e2⟩
    obtain ⟨s0, s1, s2⟩ := HX.out (tw_ch h5)
    have hV : VOk (Q ++ [(a, ⟨(lm : Int), i, x.m.which⟩)] : List (Int × Pf)).length (4, (qn : Int) + 1) := ⟨by simp [okV, knownB]; omega, fun _ => by simp [HQN.out]⟩
    have hH : here (Q ++ [(a, ⟨(lm : Int), i, x.m.which⟩)]) (4, (qn : Int) + 1) = (4, a) := by
      unfold here
      rw [if_pos ⟨rfl, by show 0 < (qn : Int) + 1; omega⟩]
      have e : ((qn : Int) + 1 - 1).toNat = Q.length := by rw [HQN.out]; omega
      simp only [e]
      simp
    have hs1 : Sim sz ca (n + 1) ⟨C, x.m :: l.map (·.m), Q ++ [(a, ⟨(lm : Int), i, x.m.which⟩)], many⟩ Z := by
      have := HS1.out
      rw [List.length_map, HLM.out] at this
      exact this
    have HP := cpush_any (tw_ch h5.drew) HOK.out (4, a)
    clear HX4e H4 hX5 hX5' u0 u1 u2 u3 u4 v0' v1' z2
    by_cases hh : (x.m.ops.length : Int) ≠ x.m.lay.height
    · obtain ⟨r1, Z', hs2⟩ := hs1.push rfl hV hh
      rw [hH] at r1 hs2
      simp only at r1 hs2
      rw [r1] at HP
      have HP := Hid.mk HP
      have HS2 := Hid.mk hs2
      have HHH := Hid.mk hh
      clear hs1 hs2 hV hH h5 hh
      go_upto_region 6 with (fail)
      go_region_held3 (fun X => X.cell? ⟨t, 0, none⟩ = some (.pointer (some ⟨b, 0, none⟩)) ∧ X.cell? ⟨B5, 0, none⟩ = some (.int .i64 4) ∧ X.cell? ⟨B5, 1, none⟩ = some (.int .i64 a)) (first | exact s9 | exact ⟨s0, s1, s2⟩) (first | (go_at_call 23; refine HP.out.mono ?_; rintro e w6 ⟨h6, rfl⟩; have s9 := HX.out h6))
      have h7 := ch_tw h6
      obtain ⟨-, -, -, -, -, -, k5, -, kz⟩ := tw_topAt h7
      obtain ⟨-, -, k2, -, -⟩ := tw_k h7
      rw [HLM.out, HOV.out, HM.out] at k5
      have HRW : w6.ownsRow 0 34 2 (.slice ao m c2) m (wcells x.m.ops) := by
        have : w6.ownsRow 0 34 2 x.ov x.m.ops.length (wcells x.m.ops) := (tw_open h7).owns (List.Mem.head _)
        rw [HOV.out, HM.out] at this
        exact this
      have HRW4 : Hid (∀ X4, X4 = w6.drew → X4.ownsRow 0 34 2 (.slice ao m c2) m (wcells x.m.ops)) := fun X4 q => by rw [q]; exact HRW.drew
      have H7 := Hid.mk h7
      obtain ⟨ip0, ip, ipz0, ipz1, ipz2⟩ := info_parts infoV
      clear h6 h7 HX HP HRW s9 hm
      go_upto_region 7 with (fail)
      refine wp_region_L 15 (fun X => X.cell? ⟨t, 2, none⟩ = some (.slice g2 (qn + 1 : Nat) cap2) ∧ X.cell? ⟨g, lm * 7 + 5, none⟩ = some (.slice ao m c2)) (by kernel_rfl) ⟨k2, k5⟩ (fun hHeld => ?_)
      obtain ⟨X8, hX8⟩ : ∃ X, X = w6.drew := ⟨_, rfl⟩
      rw [← hX8] at hHeld ⊢
      have HX8e := Hid.mk hX8
      clear hX8
      refine wpAnyL_take (i := 0) (v := ?_) rfl (by kernel_rfl) (by kernel_rfl) (by kernel_rfl) (by kernel_rfl) (fun _ _ _ h => h) (Or.inl ⟨by rfl, ?_⟩) (by assumption) ?_
      rotate_left
      · (intro w hSw; (try dsimp only at hSw); go_simp <;> with_reducible rfl)
      (try simp only [Act.put, List.getElem_toArray, List.getElem_cons_zero, List.getElem_cons_succ, List.setIfInBounds_toArray, List.set_cons_zero, List.set_cons_succ])
      refine wpAnyL_take (i := 1) (v := ?_) rfl (by kernel_rfl) (by kernel_rfl) (by kernel_rfl) (by kernel_rfl) (fun _ _ _ h => h) (Or.inl ⟨by rfl, ?_⟩) (by assumption) ?_
      rotate_left
      · (intro w hSw; (try dsimp only at hSw); go_simp <;> with_reducible rfl)
      (try simp only [Act.put, List.getElem_toArray, List.getElem_cons_zero, List.getElem_cons_succ, List.setIfInBounds_toArray, List.set_cons_zero, List.set_cons_succ])
      refine wpAnyL_take (i := 2) (v := ?_) rfl (by kernel_rfl) (by kernel_rfl) (by kernel_rfl) (by kernel_rfl) (fun _ _ _ h => h) (Or.inl ⟨by rfl, ?_⟩) (by assumption) ?_
      rotate_left
      · (intro w hSw; (try dsimp only at hSw); go_simp <;> with_reducible rfl)
      (try simp only [Act.put, List.getElem_toArray, List.getElem_cons_zero, List.getElem_cons_succ, List.setIfInBounds_toArray, List.set_cons_zero, List.set_cons_succ])
      refine wpAnyL_take (i := 3) (v := ?_) rfl (by kernel_rfl) (by kernel_rfl) (by kernel_rfl) (by kernel_rfl) (fun _ _ _ h => h) (Or.inl ⟨by rfl, ?_⟩) (by assumption) ?_
      rotate_left
      · (intro w hSw; (try dsimp only at hSw); go_simp <;> with_reducible rfl)
      (try simp only [Act.put, List.getElem_toArray, List.getElem_cons_zero, List.getElem_cons_succ, List.setIfInBounds_toArray, List.set_cons_zero, List.set_cons_succ])
      refine wpAnyL_take (i := 4) (v := ?_) rfl (by kernel_rfl) (by kernel_rfl) (by kernel_rfl) (by kernel_rfl) (fun _ _ _ h => h) (Or.inl ⟨by rfl, ?_⟩) (by assumption) ?_
      rotate_left
      · (intro w hSw; (try dsimp only at hSw); go_simp <;> with_reducible rfl)
      (try simp only [Act.put, List.getElem_toArray, List.getElem_cons_zero, List.getElem_cons_succ, List.setIfInBounds_toArray, List.set_cons_zero, List.set_cons_succ])
      refine wpAnyL_take (i := 5) (v := ?_) rfl (by kernel_rfl) (by kernel_rfl) (by kernel_rfl) (by kernel_rfl) (fun _ _ _ h => h) (Or.inl ⟨by rfl, ?_⟩) (by assumption) ?_
      rotate_left
      · (intro w hSw; (try dsimp only at hSw); go_simp <;> with_reducible rfl)
      (try simp only [Act.put, List.getElem_toArray, List.getElem_cons_zero, List.getElem_cons_succ, List.setIfInBounds_toArray, List.set_cons_zero, List.set_cons_succ])
      refine wpAnyL_take (i := 6) (v := ?_) rfl (by kernel_rfl) (by kernel_rfl) (by kernel_rfl) (by kernel_rfl) (fun _ _ _ h => h) (Or.inl ⟨by rfl, ?_⟩) (by assumption) ?_
      rotate_left
      · (intro w hSw; (try dsimp only at hSw); go_simp <;> with_reducible rfl)
      (try simp only [Act.put, List.getElem_toArray, List.getElem_cons_zero, List.getElem_cons_succ, List.setIfInBounds_toArray, List.set_cons_zero, List.set_cons_succ])
      refine wpAnyL_take (i := 7) (v := ?_) rfl (by kernel_rfl) (by kernel_rfl) (by kernel_rfl) (by kernel_rfl) (fun _ _ _ h => h) (Or.inl ⟨by rfl, ?_⟩) (by assumption) ?_
      rotate_left
      · (intro w hSw; (try dsimp only at hSw); go_simp <;> with_reducible rfl)
      (try simp only [Act.put, List.getElem_toArray, List.getElem_cons_zero, List.getElem_cons_succ, List.setIfInBounds_toArray, List.set_cons_zero, List.set_cons_succ])
      refine wpAnyL_take (i := 8) (v := ?_) rfl (by kernel_rfl) (by kernel_rfl) (by kernel_rfl) (by kernel_rfl) (fun _ _ _ h => h) (Or.inl ⟨by rfl, ?_⟩) (by assumption) ?_
      rotate_left
      · (intro w hSw; (try dsimp only at hSw); go_simp <;> with_reducible rfl)
      (try simp only [Act.put, List.getElem_toArray, List.getElem_cons_zero, List.getElem_cons_succ, List.setIfInBounds_toArray, List.set_cons_zero, List.set_cons_succ])
      refine wpAnyL_take (i := 9) (v := ?_) rfl (by kernel_rfl) (by kernel_rfl) (by kernel_rfl) (by kernel_rfl) (fun _ _ _ h => h) (Or.inl ⟨by rfl, ?_⟩) (by assumption) ?_
      rotate_left
      · (intro w hSw; (try dsimp only at hSw); go_simp <;> with_reducible rfl)
      (try simp only [Act.put, List.getElem_toArray, List.getElem_cons_zero, List.getElem_cons_succ, List.setIfInBounds_toArray, List.set_cons_zero, List.set_cons_succ])
      refine wpAnyL_take (i := 10) (v := ?_) rfl (by kernel_rfl) (by kernel_rfl) (by kernel_rfl) (by kernel_rfl) (fun _ _ _ h => h) (Or.inl ⟨by rfl, ?_⟩) (by assumption) ?_
      rotate_left
      · (intro w hSw; (try dsimp only at hSw); go_simp <;> with_reducible rfl)
      (try simp only [Act.put, List.getElem_toArray, List.getElem_cons_zero, List.getElem_cons_succ, List.setIfInBounds_toArray, List.set_cons_zero, List.set_cons_succ])
      refine wpAnyL_only (i := 11) (by kernel_rfl) rfl (fun K hK => ?_)
      go_simp
      refine hK _ _ (fun _ => ⟨alloc_cell hHeld.1, alloc_cell hHeld.2⟩) (fun hHeld0 => ?_)
      have hHeld := hHeld0 rfl
      clear hK K hHeld0
      (try simp only [Act.put, List.getElem_toArray, List.getElem_cons_zero, List.getElem_cons_succ, List.setIfInBounds_toArray, List.set_cons_zero, List.set_cons_succ])
      have hnw := heap_alloc_new (X8) (.cells #[.int .i64 4, .int .i64 ((qn : Int) + 1)] 34)
      refine wpAnyL_only (i := 12) (by kernel_rfl) rfl (fun K hK => ?_)
      refine step_append_x _ (by rfl) _ _ _ (by rfl) 0 34 ip0 ((.agg #[.int .i64 0, .int .i64 0])) 2 16 Tryz.underlying32 ip ipz0 ipz1 ipz2 rfl (by omega) _ m (wcells x.m.ops) (by rfl) ((HRW4.out _ HX8e.out).alloc _) 1 (#[.int .i64 4, .int .i64 ((qn : Int) + 1)] : Array Value).toList _ (by rfl) (AppArg.one (w := ((X8).alloc (.cells #[.int .i64 4, .int .i64 ((qn : Int) + 1)] 34))) hnw rfl (by simp [Value.oneCell'])) (by unfold maxLen; omega) (by omega) (Nat.zero_le _) ?_
      intro g2 cap2 w12 hown2 hg2 hat2
      have h30 := H7.out.drew
      rw [← HX8e.out] at h30
      have h3 := Sep.keep h30 ((Below.refl X8.heap.size X8).alloc (Nat.le_refl _) (.cells #[.int .i64 4, .int .i64 ((qn : Int) + 1)] 34))
      obtain ⟨h4, h5⟩ := tw_push1 (kk := m) (news := [((4 : Int), (qn : Int) + 1)]) h3 HM.out rfl hown2 (by rw [HOV.out, HM.out]; exact hg2) (by rw [HOV.out, HM.out]; exact hat2)
      obtain ⟨-, -, u2, u5, u6⟩ := tw_mid h5
      rw [HLM.out, HOV.out, HM.out] at u5
      rw [HLM.out] at h4
      have H4 := Hid.mk h4
      have z2 := u6 (lm * 7 + 5)
      clear h30 h3 h4 h5 hown2 hg2 hat2 hnw u6 HRW4
      refine hK _ _ (fun _ => ⟨u2, u5⟩) (fun hHeld0 => ?_)
      have hHeld := hHeld0 rfl
      clear hK K hHeld0
      (try simp only [Act.put, List.getElem_toArray, List.getElem_cons_zero, List.getElem_cons_succ, List.setIfInBounds_toArray, List.set_cons_zero, List.set_cons_succ])
      refine wpAnyL_only (i := 13) (by kernel_rfl) rfl (fun K hK => ?_)
      go_simp
      refine hK _ _ (fun _ => ⟨u2, u5⟩) (fun hHeld0 => ?_)
      have hHeld := hHeld0 rfl
      clear hK K hHeld0
      (try simp only [Act.put, List.getElem_toArray, List.getElem_cons_zero, List.getElem_cons_succ, List.setIfInBounds_toArray, List.set_cons_zero, List.set_cons_succ])
      refine wpAnyL_only (i := 14) (by kernel_rfl) rfl (fun K hK => ?_)
      go_simp
      refine hK _ _ (fun _ => ⟨u2, u5⟩) (fun hHeld0 => ?_)
      have hHeld := hHeld0 rfl
      clear hK K hHeld0
      (try simp only [Act.put, List.getElem_toArray, List.getElem_cons_zero, List.getElem_cons_succ, List.setIfInBounds_toArray, List.set_cons_zero, List.set_cons_succ])
      refine wpAnyL_only (i := 15) (by kernel_rfl) rfl (fun K hK => ?_)
      go_simp
      refine hK _ _ (fun q => by cases q) (fun hHeld0 => ?_)
      clear hK K hHeld0
      refine wpAnyL_done (by kernel_rfl) ?_
      clear HX8e H7
      go_wp2_with fail
      go_ret
      refine ⟨⟨_, _, ⟨_, _, _, ?_, tw_lose H4.out⟩, HS2.out, ?_⟩, rfl⟩
      · rfl
      · unfold pointN Tw.N
        simp only [List.map_cons]
        rw [if_pos HSL.out, if_pos HHH.out]
        simp [HLM.out, HQN.out]
    · have hno := hs1.push_no rfl (v := (4, a)) (.inr (by omega))
      rw [hno] at HP
      have HP := Hid.mk HP
      have HS2 := Hid.mk hs1
      have HHH := Hid.mk hh
      clear hs1 hV hH h5 hh hno
      go_upto_region 6 with (fail)
      go_region_held3 (fun X => X.cell? ⟨t, 0, none⟩ = some (.pointer (some ⟨b, 0, none⟩)) ∧ X.cell? ⟨B5, 0, none⟩ = some (.int .i64 4) ∧ X.cell? ⟨B5, 1, none⟩ = some (.int .i64 a)) (first | exact s9 | exact ⟨s0, s1, s2⟩) (first | (go_at_call 23; refine HP.out.mono ?_; rintro e w6 ⟨h6, rfl⟩; have s9 := HX.out h6))
      have H7 := Hid.mk (tw_lose (ch_tw h6))
      clear h6 HX HP s9 hm
      go_wp2_with fail
      go_ret
      refine ⟨⟨_, _, ⟨_, _, _, ?_, H7.out⟩, HS2.out, ?_⟩, rfl⟩
      · rfl
      · unfold pointN Tw.N
        simp only [List.map_cons]
        rw [if_pos HSL.out, if_neg HHH.out]
        simp [HLM.out]
end
end Go.Proofs.YtpfnnmcokbolhaaGreat
