/- Parts Gl Gm Gn Gp Gq, put together. -/
import Derived.Test.YtkooogllajmkeaaMo14
import Derived.Laws.OwnMore
/- The chapter's examples (24). -/
namespace Go.Proofs.Ytkooogllajmkeaa
open Go.RowKit
set_option pp.deepTerms true
attribute [local go_sem ↓] Go.wp_at_zero Go.wp_at_succ
theorem region24_any (a b : Int) (w : World) : Calls Try.prog 62 #[.int .i64 a, .int .i64 b] w fun e w' => Below w.heap.size w w' ∧ e = .returned (.agg #[.int .i64 a, .int .i64 b]) := by
  go_enter Try.func62, Try.ntmps62
  go_wp2
  exact bodyPost_ret (v := .agg #[.int .i64 a, .int .i64 b]) (by simp [results, Try.results62, go_sem]) rfl ⟨(Below.refl _ _).alloc (Nat.le_refl _) _, rfl⟩
/-- a row of the call's own goes into E -/
theorem Seg.addRow {w W W' : World} {p b : Nat} {sz ca : Int} {S : Sp} {L : Lk} {E : List (Nat × Obj)} (h : Seg w p b sz ca S L E W) (k : Below W.heap.size W W') {T : TypeId} {v : Value} {n : Nat} {xs : List Value} (hown : W'.ownsRow W.heap.size T 2 v n xs) :
    ∃ E2, Seg w p b sz ca S L (E2 ++ E) W' ∧ ∀ W'' : World, (∀ x ∈ E2, W''.heap[x.1]? = some x.2) → W''.ownsRow 0 T 2 v n xs := by
  obtain ⟨hl, ⟨rfl, rfl⟩ | ⟨g, cap, cur, rfl, hb, hg, h1, h2, h3, h4⟩⟩ := hown
  · exact ⟨[], h.keep k, fun W'' _ => ⟨hl, .inl ⟨rfl, rfl⟩⟩⟩
  · exact ⟨[(g, .cells cur T (0, 0))], h.grow k hb hg, fun W'' hx => ⟨hl, .inr ⟨g, cap, cur, rfl, Nat.zero_le _, hx _ (List.Mem.head _), h1, h2, h3, h4⟩⟩⟩
theorem rd_one (w : World) (a b : Int) (T : TypeId) : Rd (w.alloc (.cells #[.int .i64 a, .int .i64 b] T)) (.slice (some ⟨w.heap.size, 0, none⟩) 1 1) [(a, b)] := by
  refine .inr ⟨w.heap.size, 0, 1, rfl, by simp, fun k hk => ?_⟩
  obtain rfl : k = 0 := by simpa using hk
  have h := heap_alloc_new w (.cells #[.int .i64 a, .int .i64 b] T)
  exact ⟨by rw [cell_of_row _ w.heap.size _ _ _ _ h]; rfl, by rw [cell_of_row _ w.heap.size _ _ _ _ h]; rfl⟩
def al1 : Sp := ⟨[⟨1, List.replicate 256 (0, 0)⟩], 256⟩
def al2 : Sp := ⟨[⟨1, List.replicate 256 (0, 0)⟩, ⟨258, List.replicate 300 (0, 0)⟩], 557⟩
set_option maxRecDepth 100000 in
theorem al_t1 : (⟨[], 0⟩ : Sp).take 256 = ((1, 0), al1) := by rfl
set_option maxRecDepth 100000 in
theorem al_t2 : al1.take 300 = ((258, 0), al2) := by rfl
theorem al_f0 : fitAt [] 9 = none := rfl
theorem al_f1 : fitAt [] 300 = none := rfl
theorem al_f2 : fitAt [(258, 300)] 9 = some 0 := by decide
set_option maxRecDepth 100000 in
set_option maxHeartbeats 4000000 in
theorem alive24_any (w : World) : Calls Try.prog 29 #[] w fun e w' => e = .returned (.bool true) ∧ Below w.heap.size w w' := by
  have hS := Spc.zero w
  have hb0 : Below w.heap.size w (w.alloc (.cells #[.slice none 0 0, .int .i64 0] 27)) := (Below.refl _ _).alloc (Nat.le_refl _) _
  go_enter Try.func29, Try.ntmps29
  go_wp2_with fail
  refine (sNew_any w.heap.size 256 1 _).mono ?_
  rintro e w1 ⟨hb1, hq⟩
  rcases hq.symm with ⟨q, -⟩ | ⟨-, b, hbb, hL, rfl⟩
  · exact absurd q (by decide)
  have hG : Seg w w.heap.size b 256 1 ⟨[], 0⟩ ⟨[], []⟩ [] w1 := by
    simp only [World.size_alloc] at hbb
    exact ⟨[w.heap.size], [b], hS.below hb1, hL, by simp; omega, by simp, by simp; omega, hb0.trans (hb1.mono hb0.size), by simp⟩
  obtain ⟨p, hp⟩ : ∃ p, w.heap.size = p := ⟨_, rfl⟩
  have HP := Hid.mk hp
  clear hS hb0 hb1 hL hbb
  go_wp2_with fail
  refine (push_take1 hG 9 256 ⟨by decide, by decide⟩ (.inr ⟨by decide, rfl⟩) (by decide) (by decide) al_f0 (by decide) (nb := 1) (er := 0) (by rw [al_t1])).mono ?_
  rintro e w2 hq
  rcases hq.symm with ⟨q, -⟩ | ⟨-, h2, rfl⟩
  · exact absurd rfl q
  rw [al_t1] at h2
  simp only [List.nil_append] at h2
  have g2 := h2.alloc (.cells #[.int .i64 1, .int .i64 256] 39)
  clear hG h2
  go_wp2_with fail
  refine (push_take1 g2 300 300 ⟨by decide, by decide⟩ (.inl ⟨by decide, rfl⟩) (by decide) (by decide) al_f1 (by decide) (nb := 258) (er := 0) (by rw [al_t2])).mono ?_
  rintro e w3 hq
  rcases hq.symm with ⟨q, -⟩ | ⟨-, h3, rfl⟩
  · exact absurd rfl q
  rw [al_t2] at h3
  have g3 := h3.alloc (.cells #[.int .i64 258, .int .i64 300] 39)
  clear g2 h3
  go_wp2_with fail
  refine (pop_keep g3 (by decide) (by decide) (y1 := 258) (y2 := 300) rfl (by decide)).mono ?_
  rintro e w4 ⟨h4, rfl⟩
  clear g3
  go_wp2_with fail
  refine (pop_let h4 (by decide) (by decide) (y1 := 1) (y2 := 256) rfl (by decide)).mono ?_
  rintro e w5 ⟨h5, rfl⟩
  clear h4
  go_wp2_with fail
  refine (kept24_seg h5 (by decide)).mono ?_
  rintro e w6 ⟨-, hb6, vk, rfl, hown⟩
  obtain ⟨E2, h6, hrow⟩ := h5.addRow hb6 hown
  have HROW := Hid.mk hrow
  obtain ⟨ao, c, rfl⟩ := own_shape hown
  clear h5 hb6 hown hrow
  go_wp2_with fail
  refine (push_fit h6 9 ⟨by decide, by decide⟩ (by decide) (by decide) (i := 0) (y1 := 258) (y2 := 300) al_f2 rfl).mono ?_
  rintro e w7 ⟨h7, rfl⟩
  have g7 := h7.alloc (.cells #[.int .i64 258, .int .i64 300] 39)
  clear h6 h7
  have hrd := Rd.of_row (HROW.out _ (fun x hx => g7.at (List.mem_cons_of_mem _ (List.mem_append.2 (.inl hx))))) rfl
  have c0 := g7.box (j := 0) (List.Mem.head _) rfl
  have c1 := g7.box (j := 1) (List.Mem.head _) rfl
  have b0 := g7.box (B := w3.heap.size) (j := 0) (cs := #[.int .i64 258, .int .i64 300]) (List.mem_cons_of_mem _ (List.mem_append.2 (.inr (List.Mem.head _)))) rfl
  have b1 := g7.box (B := w3.heap.size) (j := 1) (cs := #[.int .i64 258, .int .i64 300]) (List.mem_cons_of_mem _ (List.mem_append.2 (.inr (List.Mem.head _)))) rfl
  have a0 := g7.box (B := w2.heap.size) (j := 0) (cs := #[.int .i64 1, .int .i64 256]) (List.mem_cons_of_mem _ (List.mem_append.2 (.inr (List.Mem.tail _ (List.Mem.head _))))) rfl
  have a1 := g7.box (B := w2.heap.size) (j := 1) (cs := #[.int .i64 1, .int .i64 256]) (List.mem_cons_of_mem _ (List.mem_append.2 (.inr (List.Mem.tail _ (List.Mem.head _))))) rfl
  have HF := Hid.mk g7.size
  clear g7
  obtain ⟨B7, hB7⟩ : ∃ B7, w7.heap.size = B7 := ⟨_, rfl⟩
  obtain ⟨Y, hY⟩ : ∃ Y, w7.alloc (.cells #[.int .i64 258, .int .i64 300] 39) = Y := ⟨_, rfl⟩
  have HYB := Hid.mk (And.intro hY hB7)
  rw [hY] at hrd c0 c1 b0 b1 a0 a1 HF
  rw [hB7] at c0 c1
  clear hY hB7
  go_wp2_with fail
  rw [HYB.out.1, HYB.out.2]
  have hk : Below Y.heap.size Y Y.drew := (Below.refl _ _).drew
  go_region_held3 (fun W' => W'.cell? ⟨w2.heap.size, 0, none⟩ = some (.int .i64 1) ∧ W'.cell? ⟨w2.heap.size, 1, none⟩ = some (.int .i64 256) ∧ W'.cell? ⟨w3.heap.size, 0, none⟩ = some (.int .i64 258) ∧ W'.cell? ⟨w3.heap.size, 1, none⟩ = some (.int .i64 300) ∧ W'.cell? ⟨B7, 0, none⟩ = some (.int .i64 258) ∧ W'.cell? ⟨B7, 1, none⟩ = some (.int .i64 300) ∧ Below Y.heap.size Y W') (first | exact ⟨keep_be hk a0, keep_be hk a1, keep_be hk b0, keep_be hk b1, keep_be hk c0, keep_be hk c1, hk⟩ | exact ⟨keep_be (Below.alloc hk hk.size _) a0, keep_be (Below.alloc hk hk.size _) a1, keep_be (Below.alloc hk hk.size _) b0, keep_be (Below.alloc hk hk.size _) b1, keep_be (Below.alloc hk hk.size _) c0, keep_be (Below.alloc hk hk.size _) c1, (Below.alloc hk hk.size _)⟩) (first | (go_at_call 62; refine (region24_any _ _ _).mono ?_; rintro e wx ⟨hx, rfl⟩; have hk := hk.trans (hx.mono hk.size)) | (go_at_call 27; refine (same_Same21 (xs := [(258, 300)]) (ys := [(258, 300)]) ?_ ?_ (by decide)).mono ?_; exact hrd.below (Below.alloc hk hk.size _); exact rd_one _ _ _ _; rintro e wy ⟨hy, rfl⟩; have hk := (Below.alloc hk hk.size _).trans (hy.mono (Below.alloc hk hk.size _).size)))
  all_goals
    have hF := HF.out.trans (hk.mono HF.out.size)
    go_wp2_with fail
    go_ret
    exact ⟨rfl, hF⟩
end Go.Proofs.Ytkooogllajmkeaa
/- SegmentOrder in plain words: what a link's calls leave. -/
namespace Go.Proofs.Ytkooogllajmkeaa
open Go.RowKit
/-- each live and kept segment is a region; kept ones are empty; no more are kept than the policy says; all have the policy's words -/
structure SInv (S : Sp) (L : Lk) (sz ca : Int) : Prop where
  perm : (tells S.regs).Perm (L.live ++ L.kept)
  zero : ∀ g ∈ S.regs, (g.base, (g.words.length : Int)) ∈ L.kept → ∀ v ∈ g.words, v = (0, 0)
  few : (L.kept.length : Int) ≤ ca
  wide : ∀ r ∈ L.live ++ L.kept, sz ≤ r.2
theorem SInv.new (sz ca : Int) (hc : 0 ≤ ca) : SInv ⟨[], 0⟩ ⟨[], []⟩ sz ca := ⟨by simp [tells], by simp, by simpa using hc, by simp⟩
theorem perm_erase {α : Type} {l : List α} {i : Nat} (hi : i < l.length) : l.Perm (l[i] :: l.eraseIdx i) := by
  have e : l = l.take i ++ l[i] :: l.drop (i + 1) := by rw [← List.drop_eq_getElem_cons hi, List.take_append_drop]
  rw [List.eraseIdx_eq_take_drop_succ]
  exact (List.Perm.of_eq e).trans List.perm_middle
section
variable {S : Sp} {L : Lk} {sz ca : Int}
theorem tells_mem {x : Int × Int} (h : x ∈ tells S.regs) : ∃ g ∈ S.regs, x = (g.base, (g.words.length : Int)) := by
  obtain ⟨g, hg, rfl⟩ := List.mem_map.1 h
  exact ⟨g, hg, rfl⟩
theorem SInv.reg (h : SInv S L sz ca) (ok : Spok S) {x : Int × Int} (hx : x ∈ L.live ++ L.kept) : ∃ ls i, ∃ hi : i < ls.length, S.regs = ls.map LReg.reg ∧ RegsOk S.last ls ∧ x = (ls[i].base, (ls[i].words.length : Int)) := by
  have h1 := h.perm.symm.subset hx
  obtain ⟨ls, hr, ok⟩ := ok
  rw [hr] at h1
  obtain ⟨g, hg, rfl⟩ := List.mem_map.1 h1
  obtain ⟨l, hl, rfl⟩ := List.mem_map.1 hg
  obtain ⟨i, hi, rfl⟩ := List.getElem_of_mem hl
  exact ⟨ls, i, hi, hr, ok, rfl⟩
theorem SInv.of (h : SInv S L sz ca) (ok : Spok S) {x : Int × Int} (hx : x ∈ L.live ++ L.kept) : 1 ≤ x.1 ∧ 1 ≤ x.2 ∧ x.2 ≤ 1048576 ∧ x.1 + x.2 ≤ S.last + 1 ∧ S.of x.1 = (x, true) := by
  have h1 := h.perm.symm.subset hx
  obtain ⟨i, hi, rfl⟩ := List.getElem_of_mem h1
  obtain ⟨q1, q2, q3, q4, -⟩ := tells_at ok hi
  refine ⟨q1, q2, ?_, q3, q4⟩
  obtain ⟨ls, i', hi', -, ok', e⟩ := h.reg ok hx
  rw [e]
  have := (ok'.lo _ (List.getElem_mem hi')).2.2.1
  simp only
  omega
/-- two regions have no address in common -/
def Apart (a b : Int × Int) : Prop := a.1 + a.2 ≤ b.1 ∨ b.1 + b.2 ≤ a.1
theorem tells_apart (ok : Spok S) : (tells S.regs).Pairwise Apart := by
  obtain ⟨ls, hr, ok⟩ := ok
  rw [hr]
  have : tells (ls.map LReg.reg) = ls.map (fun l => (l.base, (l.words.length : Int))) := by simp [tells, LReg.reg, Function.comp_def]
  rw [this, List.pairwise_map]
  exact ok.sep.imp (fun h => .inl (by simp only; omega))
theorem SInv.apart (h : SInv S L sz ca) (ok : Spok S) : (L.live ++ L.kept).Pairwise Apart := (h.perm.pairwise_iff (fun h => h.symm)).1 (tells_apart ok)
theorem SInv.len (h : SInv S L sz ca) : S.regs.length = L.live.length + L.kept.length := by
  have := h.perm.length_eq
  simpa [tells] using this
theorem SInv.empty (h : SInv S L sz ca) (ok : Spok S) {x : Int × Int} (hx : x ∈ L.kept) {j : Nat} (hj : (j : Int) < x.2) : S.get (x.1 + j) = ((0, 0), 212) := by
  obtain ⟨ls, i, hi, hr, ok', rfl⟩ := h.reg ok (List.mem_append.2 (.inr hx))
  simp only at hj ⊢
  have hj' : j < ls[i].words.length := by omega
  have hz := h.zero ls[i].reg (by rw [hr]; exact List.mem_map.2 ⟨_, List.getElem_mem hi, rfl⟩) hx _ (List.getElem_mem hj')
  unfold Sp.get
  rw [hr, loc_at ok' hi hj' (by omega)]
  have hz' : ls[i].words[j] = (0, 0) := hz
  simp [wordAt_map hi hj', hz']
theorem SInv.fit (h : SInv S L sz ca) {i : Nat} {y : Int × Int} (hy : L.kept[i]? = some y) : SInv S ⟨L.live ++ [y], L.kept.eraseIdx i⟩ sz ca := by
  obtain ⟨hi, rfl⟩ := List.getElem?_eq_some_iff.1 hy
  have hp : L.kept.Perm (L.kept[i] :: L.kept.eraseIdx i) := perm_erase hi
  have hq : (L.live ++ L.kept).Perm ((L.live ++ [L.kept[i]]) ++ L.kept.eraseIdx i) := by
    rw [List.append_assoc]
    exact hp.append_left _
  refine ⟨h.perm.trans hq, fun g hg hk => h.zero g hg (List.mem_of_mem_eraseIdx hk), ?_, fun r hr => h.wide r (hq.symm.subset hr)⟩
  have := h.few
  simp only [List.length_eraseIdx]
  split <;> omega
theorem SInv.take (h : SInv S L sz ca) {n : Int} (hn : sz ≤ n) (ht : (S.take n).1.2 = 0) : SInv (S.take n).2 ⟨L.live ++ [((S.take n).1.1, n)], L.kept⟩ sz ca ∧ (S.take n).2.last ≤ S.last + 1 + n ∨ (S.last < 0) := by
  rcases take_cases S n with e | ⟨n1, n2, e, el⟩
  · rw [e] at ht; cases ht
  · have hreg : (S.take n).2.regs = S.regs ++ [⟨nextBase S.last, List.replicate n.toNat (0, 0)⟩] := by
      unfold Sp.take at e ⊢
      split
      · rename_i q; rw [if_pos q] at e; simp at e
      · rfl
    have h1 : (S.take n).1.1 = nextBase S.last := by rw [e]
    by_cases h0 : S.last < 0
    · exact .inr h0
    refine .inl ⟨⟨?_, ?_, h.few, ?_⟩, ?_⟩
    · rw [hreg, h1]
      have e2 : tells (S.regs ++ [⟨nextBase S.last, List.replicate n.toNat (0, 0)⟩]) = tells S.regs ++ [(nextBase S.last, n)] := by
        simp [tells]; omega
      rw [e2, List.append_assoc]
      refine (h.perm.append_right _).trans ?_
      rw [List.append_assoc]
      exact List.Perm.append_left _ List.perm_append_comm
    · intro g hg hk v hv
      rw [hreg] at hg
      rcases List.mem_append.1 hg with hg | hg
      · exact h.zero g hg hk v hv
      · obtain rfl : g = _ := by simpa using hg
        exact List.eq_of_mem_replicate hv
    · intro r hr
      rw [List.append_assoc] at hr
      rcases List.mem_append.1 hr with q | q
      · exact h.wide r (List.mem_append.2 (.inl q))
      · rcases List.mem_append.1 q with q | q
        · obtain rfl : r = _ := by simpa using q
          exact hn
        · exact h.wide r (List.mem_append.2 (.inr q))
    · rw [el]
      unfold nextBase
      split <;> omega
theorem tells_setAt {ls : List LReg} {i : Nat} (hi : i < ls.length) {ws : List (Int × Int)} (hw : ws.length = ls[i].words.length) : tells (setAt (ls.map LReg.reg) i ws) = tells (ls.map LReg.reg) := by
  rw [setAt_map]
  simp only [tells, List.map_map]
  exact setWords_map _ (fun _ => by simp [LReg.reg, hw])
/-- words of one region turn: a live one's, or to nothing -/
theorem SInv.turn {ls : List LReg} (hr : S.regs = ls.map LReg.reg) (_ok : RegsOk S.last ls) (h : SInv S L sz ca) {i : Nat} (hi : i < ls.length) {ws : List (Int × Int)} (hw : ws.length = ls[i].words.length) (hz : (ls[i].base, (ls[i].words.length : Int)) ∈ L.kept → ∀ v ∈ ws, v = (0, 0)) :
    SInv { S with regs := setAt S.regs i ws } L sz ca := by
  refine ⟨by simp only [hr]; rw [tells_setAt hi hw, ← hr]; exact h.perm, fun g hg hk v hv => ?_, h.few, h.wide⟩
  simp only [hr, setAt_map] at hg
  obtain ⟨l, hl, rfl⟩ := List.mem_map.1 hg
  rcases setWords_mem hl with ⟨_, rfl⟩ | ⟨hl, q, hq, hqr⟩
  · simp only [LReg.reg, hw] at hk hv
    exact hz hk v hv
  · exact h.zero l.reg (by rw [hr]; exact List.mem_map.2 ⟨l, hl, rfl⟩) hk v hv
theorem SInv.put (h : SInv S L sz ca) (ok : Spok S) {x : Int × Int} (hx : x ∈ L.live) {d : Int} (h0 : 0 ≤ d) (h1 : d < x.2) (v : Int × Int) : SInv (S.put (x.1 + d) v).2 L sz ca := by
  have hap := h.apart ok
  obtain ⟨ls, i, hi, hr, ok', rfl⟩ := h.reg ok (List.mem_append.2 (.inl hx))
  simp only at h1
  obtain ⟨j, rfl⟩ := Int.eq_ofNat_of_zero_le h0
  have hj : j < ls[i].words.length := by omega
  unfold Sp.put
  rw [hr, loc_at ok' hi hj (by omega)]
  simp only
  split
  · rw [← hr]
    refine h.turn hr ok' hi (by rw [hr, wordsAt_map hi]; simp) (fun hk => ?_)
    have := (List.pairwise_append.1 hap).2.2 _ hx _ hk
    have hl := (ok'.lo _ (List.getElem_mem hi)).2.1
    unfold Apart at this
    simp only at this
    omega
  · exact h
theorem SInv.popKeep (h : SInv S L sz ca) (ok : Spok S) {x : Int × Int} {pre : List (Int × Int)} (hx : L.live = pre ++ [x]) (hc : (L.kept.length : Int) < ca) : SInv (S.drop x.1 x.2).2 ⟨L.live.dropLast, L.kept ++ [x]⟩ sz ca := by
  have hp : (L.live ++ L.kept).Perm (L.live.dropLast ++ (L.kept ++ [x])) := by
    rw [hx, List.dropLast_concat, List.append_assoc]
    exact List.Perm.append_left _ List.perm_append_comm
  have hxm : x ∈ L.live ++ L.kept := by rw [hx]; simp
  have hap := h.apart ok
  obtain ⟨ls, i, hi, hr, ok', e⟩ := h.reg ok hxm
  have hl := (ok'.lo _ (List.getElem_mem hi)).2
  have hxe : x.1 = ls[i].base ∧ x.2 = (ls[i].words.length : Int) := by rw [e]; exact ⟨rfl, rfl⟩
  have hd : (S.drop x.1 x.2).2 = { S with regs := setAt S.regs i (over ls[i].words 0 (List.replicate ls[i].words.length (0, 0))) } := by
    unfold Sp.drop
    rw [hxe.1, hxe.2, if_neg (by omega), if_neg (by omega)]
    have := loc_at ok' hi (j := 0) (m := ls[i].words.length) (by omega) (by omega)
    simp only [Int.natCast_zero, Int.add_zero] at this
    rw [hr, this]
    simp [wordsAt_map hi]
  rw [hd]
  have h2 : SInv S ⟨L.live.dropLast, L.kept⟩ sz ca ∨ True := .inr trivial
  refine ⟨?_, fun g hg hk v hv => ?_, by simp; omega, fun r hr' => h.wide r (hp.symm.subset hr')⟩
  · simp only [hr]
    rw [tells_setAt hi (over_len (by simp)), ← hr]
    exact h.perm.trans hp
  · simp only [hr, setAt_map] at hg
    obtain ⟨l, hl', rfl⟩ := List.mem_map.1 hg
    rcases setWords_mem hl' with ⟨_, rfl⟩ | ⟨hl', q, hq, hqr⟩
    · simp only [LReg.reg, over] at hv
      simp at hv
      exact hv.2
    · simp only [LReg.reg] at hk hv
      rcases List.mem_append.1 hk with hk | hk
      · exact h.zero l.reg (by rw [hr]; exact List.mem_map.2 ⟨l, hl', rfl⟩) hk v hv
      · simp only [List.mem_singleton] at hk
        obtain ⟨hql, rfl⟩ := List.getElem?_eq_some_iff.1 hqr
        have hb : ls[q].base = ls[i].base := by rw [e] at hk; simpa using (congrArg Prod.fst hk)
        exfalso
        have hlq := (ok'.lo _ (List.getElem_mem hql)).2.1
        rcases Nat.lt_or_gt_of_ne hq with c | c
        · have := ok'.mono q i c hi; omega
        · have := ok'.mono i q c hql; omega
theorem SInv.popLet (h : SInv S L sz ca) (ok : Spok S) {x : Int × Int} {pre : List (Int × Int)} (hx : L.live = pre ++ [x]) : SInv (S.let_ x.1).2 ⟨L.live.dropLast, L.kept⟩ sz ca := by
  have hxm : x ∈ L.live ++ L.kept := by rw [hx]; simp
  obtain ⟨ls, i, hi, hr, ok', e⟩ := h.reg ok hxm
  have hxe : x.1 = ls[i].base := by rw [e]
  have hno : ∀ j (hj : j < ls.length), j < i → ls[j].base ≠ x.1 := by
    intro j hj hji q
    have := ok'.mono j i hji hi
    have := (ok'.lo _ (List.getElem_mem hj)).2.1
    omega
  have hl : (S.let_ x.1).2 = { S with regs := (ls.eraseIdx i).map LReg.reg } := by rw [let_at hr hi hxe.symm hno]
  have hp : (L.live ++ L.kept).Perm (x :: (L.live.dropLast ++ L.kept)) := by
    rw [hx, List.dropLast_concat, List.append_assoc]
    exact List.perm_middle
  have ht : tells S.regs = ls.map (fun l => (l.base, (l.words.length : Int))) := by rw [hr]; simp [tells, LReg.reg, Function.comp_def]
  rw [hl]
  refine ⟨?_, fun g hg hk v hv => ?_, h.few, fun r hr' => h.wide r (hp.symm.subset (List.mem_cons_of_mem _ hr'))⟩
  · have h1 := h.perm.trans hp
    have h2 : tells ((ls.eraseIdx i).map LReg.reg) = (tells S.regs).eraseIdx i := by
      rw [ht]
      simp only [tells, List.map_map]
      rw [map_erase]
      rfl
    have h3 := perm_erase (l := tells S.regs) (i := i) (by rw [ht]; simpa using hi)
    have h4 : (tells S.regs)[i]'(by rw [ht]; simpa using hi) = x := by
      have : (tells S.regs)[i]? = some x := by rw [ht, List.getElem?_map, List.getElem?_eq_getElem hi, e]; rfl
      exact (List.getElem?_eq_some_iff.1 this).2
    rw [h4] at h3
    show (tells ((ls.eraseIdx i).map LReg.reg)).Perm _
    rw [h2]
    exact (h3.symm.trans h1).cons_inv
  · obtain ⟨l, hl', rfl⟩ := List.mem_map.1 hg
    exact h.zero l.reg (by rw [hr]; exact List.mem_map.2 ⟨l, List.mem_of_mem_eraseIdx hl', rfl⟩) hk v hv
end
end Go.Proofs.Ytkooogllajmkeaa
/- SegmentOrder's walk: what the loop carries. -/
namespace Go.Proofs.Ytkooogllajmkeaa
open Go.RowKit
set_option pp.deepTerms true
/-- a space, a link, and a row of the call's own beside them -/
def SegR (w : World) (p b : Nat) (sz ca : Int) (S : Sp) (L : Lk) (E : List (Nat × Obj)) (v : Value) (xs : List (Int × Int)) (W : World) : Prop :=
  ∃ E2, Seg w p b sz ca S L (E2 ++ E) W ∧ (∀ W'' : World, (∀ x ∈ E2, W''.heap[x.1]? = some x.2) → W''.ownsRow w.heap.size 39 2 v xs.length (wcells xs)) ∧
    (∀ x ∈ E2, v.ownBlock = some x.1) ∧ (∀ g, v.ownBlock = some g → ∃ o, (g, o) ∈ E2) ∧ ∀ x ∈ E, v.ownBlock ≠ some x.1
section
variable {w W W' : World} {p b : Nat} {sz ca : Int} {S S' : Sp} {L L' : Lk} {E : List (Nat × Obj)} {v : Value} {xs : List (Int × Int)}
theorem SegR.nil (h : Seg w p b sz ca S L E W) : SegR w p b sz ca S L E (.slice none 0 0) [] W :=
  ⟨[], h, fun _ _ => World.ownsRow_nil _ _ _ _, by simp, by simp [Value.ownBlock], by simp [Value.ownBlock]⟩
theorem SegR.row (h : SegR w p b sz ca S L E v xs W) : W.ownsRow w.heap.size 39 2 v xs.length (wcells xs) := by
  obtain ⟨E2, h1, h2, -⟩ := h
  exact h2 W (fun x hx => h1.at (List.mem_append.2 (.inl hx)))
theorem SegR.seg (h : SegR w p b sz ca S L E v xs W) : Seg w p b sz ca S L E W := by
  obtain ⟨E2, h1, -⟩ := h
  exact h1.sub (fun x hx => List.mem_append.2 (.inr hx))
theorem SegR.size (h : SegR w p b sz ca S L E v xs W) : Below w.heap.size w W := h.seg.size
theorem SegR.keep (h : SegR w p b sz ca S L E v xs W) (k : Below W.heap.size W W') : SegR w p b sz ca S L E v xs W' := by
  obtain ⟨E2, h1, h2, h3, h4, h5⟩ := h
  exact ⟨E2, h1.keep k, h2, h3, h4, h5⟩
/-- a call over the space and the link, whatever else lies in E -/
theorem SegR.call {f : FuncId} {args : Array Value} {R : Ending → Prop} (h : SegR w p b sz ca S L E v xs W) (hc : ∀ E', Seg w p b sz ca S L E' W → Calls Try.prog f args W fun e w' => Seg w p b sz ca S' L' E' w' ∧ R e) :
    Calls Try.prog f args W fun e w' => SegR w p b sz ca S' L' E v xs w' ∧ R e := by
  obtain ⟨E2, h1, h2, h3, h4, h5⟩ := h
  refine (hc _ h1).mono ?_
  rintro e w' ⟨q, r⟩
  exact ⟨⟨E2, q, h2, h3, h4, h5⟩, r⟩
theorem SegR.alloc (h : SegR w p b sz ca S L E v xs W) (o : Obj) : SegR w p b sz ca S L ((W.heap.size, o) :: E) v xs (W.alloc o) := by
  have hrow := h.row
  obtain ⟨E2, h1, h2, h3, h4, h5⟩ := h
  have hk := h1.alloc o
  refine ⟨E2, hk.sub (fun x hx => ?_), h2, h3, h4, fun x hx => ?_⟩
  · rcases List.mem_append.1 hx with q | q
    · exact List.mem_cons_of_mem _ (List.mem_append.2 (.inl q))
    · rcases List.mem_cons.1 q with rfl | q
      · exact List.Mem.head _
      · exact List.mem_cons_of_mem _ (List.mem_append.2 (.inr q))
  · rcases List.mem_cons.1 hx with rfl | hx
    · exact fun e => by have := (hrow.lt _ e).2; simp at this
    · exact h5 x hx
theorem SegR.sub (h : SegR w p b sz ca S L E v xs W) {E' : List (Nat × Obj)} (hs : ∀ x ∈ E', x ∈ E) : SegR w p b sz ca S L E' v xs W := by
  obtain ⟨E2, h1, h2, h3, h4, h5⟩ := h
  refine ⟨E2, h1.sub (fun x hx => ?_), h2, h3, h4, fun x hx => h5 x (hs x hx)⟩
  rcases List.mem_append.1 hx with q | q
  · exact List.mem_append.2 (.inl q)
  · exact List.mem_append.2 (.inr (hs x q))
/-- the row's fewer: its last one is let go (the slice is shortened) -/
theorem SegR.cut {ao : Option Addr} {c : Nat} (h : SegR w p b sz ca S L E (.slice ao xs.length c) xs W) (hx : xs ≠ []) : ∃ g, ao = some ⟨g, 0, none⟩ ∧ xs.length ≤ c ∧ SegR w p b sz ca S L E (.slice (some ⟨g, 0, none⟩) xs.dropLast.length c) xs.dropLast W := by
  have hrow := h.row
  have hl : 1 ≤ xs.length := List.length_pos_iff.2 hx
  obtain ⟨g, c', e⟩ := row_shape hrow hl
  simp only [Value.slice.injEq, true_and] at e
  obtain ⟨rfl, rfl⟩ := e
  have hc : xs.length ≤ c := by
    rcases hrow.2 with ⟨q, _⟩ | ⟨g', cap, cur, q, _, _, hc, _⟩
    · simp at q
    · simp only [Value.slice.injEq, Option.some.injEq, Addr.mk.injEq, and_true, true_and] at q
      omega
  obtain ⟨E2, h1, h2, h3, h4, h5⟩ := h
  refine ⟨g, rfl, hc, E2, h1, fun W'' hW => ?_, h3, h4, h5⟩
  have := row_cut (h2 W'' hW) (m := xs.dropLast.length) (by simp)
  rw [show (wcells xs).take (xs.dropLast.length * 2) = wcells xs.dropLast by rw [← wcells_take, List.dropLast_eq_take, List.length_take]; congr 2; omega] at this
  exact this
/-- one more behind the row -/
theorem SegR.push (h : SegR w p b sz ca S L E v xs W) {ob : Obj} {w2 : World} {v' : Value} {y : Int × Int} (hown : w2.ownsRow w.heap.size 39 2 v' (xs.length + 1) (wcells xs ++ [.int .i64 y.1, .int .i64 y.2])) (hg : (W.alloc ob).grownBy w2 v.ownBlock)
    (hat : v'.ownBlock = v.ownBlock ∨ v'.ownBlock = some (W.heap.size + 1)) : SegR w p b sz ca S L E v' (xs ++ [y]) w2 := by
  have hrow := h.row
  obtain ⟨E2, h1, h2, h3, h4, h5⟩ := h
  obtain ⟨fs, hs, q1, q2, q3, q4, q5, q6, q7⟩ := h1
  have hwW := q6.size
  have hvn : ∀ g, v.ownBlock = some g → g ∉ fs ∧ g ∉ hs := fun g hg' => by
    obtain ⟨o, ho⟩ := h4 g hg'
    exact ⟨(q7 _ (List.mem_append.2 (.inl ho))).1, (q7 _ (List.mem_append.2 (.inl ho))).2.1⟩
  have k : Kp v.ownBlock.toList W w2 := ((Kp.refl _ W).alloc ob).grown hg (fun x hx => .inl (by simp [hx]))
  have hkf : ∀ x ∈ fs, x ∉ v.ownBlock.toList := fun x hx c => (hvn x (by simpa using c)).1 hx
  have hkh : ∀ x ∈ hs, x ∉ v.ownBlock.toList := fun x hx c => (hvn x (by simpa using c)).2 hx
  have hfl := q1.lt
  have hhl := q2.lt
  have hEl : ∀ x ∈ E, x.1 < W.heap.size := fun x hx => lt_of_heap (q7 x (List.mem_append.2 (.inr hx))).2.2
  have hbb : Below w.heap.size w w2 := q6.trans (((Below.refl w.heap.size W).alloc hwW ob).grown hg (by simp; omega) (fun x hx => (hrow.lt x hx).1))
  have hlen : wcells (xs ++ [y]) = wcells xs ++ [.int .i64 y.1, .int .i64 y.2] := by simp [wcells, wcell]
  have hv' : ∀ g, v'.ownBlock = some g → g ∉ fs ∧ g ∉ hs ∧ ∀ x ∈ E, g ≠ x.1 := by
    intro g hg'
    rcases hat with c | c
    · rw [hg'] at c
      exact ⟨(hvn g c.symm).1, (hvn g c.symm).2, fun x hx e => h5 x hx (by rw [← c, e])⟩
    · rw [hg'] at c
      injection c with c
      exact ⟨fun d => by have := hfl g d; omega, fun d => by have := hhl g d; omega, fun x hx e => by have := hEl x hx; omega⟩
  have hE7 : ∀ x ∈ E, x.1 ∉ fs ∧ x.1 ∉ hs ∧ w2.heap[x.1]? = some x.2 := fun x hx => by
    have := q7 x (List.mem_append.2 (.inr hx))
    exact ⟨this.1, this.2.1, k.at this.2.2 (fun c => h5 x hx (by simpa using c))⟩
  obtain ⟨hl, ⟨rfl, e0⟩ | ⟨g, cap, cur, rfl, hb, hgg, r1, r2, r3, r4⟩⟩ := hown
  · omega
  · refine ⟨[(g, .cells cur 39 (0, 0))], ⟨fs, hs, q1.kp k hkf, q2.kp k hkh, q3, q4, q5, hbb, fun x hx => ?_⟩, fun W'' hW => ?_, ?_, ?_, ?_⟩
    · rcases List.mem_append.1 hx with c | c
      · obtain rfl : x = _ := by simpa using c
        exact ⟨(hv' g rfl).1, (hv' g rfl).2.1, hgg⟩
      · exact hE7 x c
    · rw [hlen, List.length_append]
      exact ⟨hl, .inr ⟨g, cap, cur, rfl, hb, hW _ (List.Mem.head _), r1, r2, r3, r4⟩⟩
    · intro x hx
      obtain rfl : x = _ := by simpa using hx
      rfl
    · intro g' hg'
      simp only [Value.ownBlock, Option.some.injEq] at hg'
      subst hg'
      exact ⟨_, List.Mem.head _⟩
    · intro x hx e
      exact (hv' g rfl).2.2 x hx (by simpa [Value.ownBlock] using e)
end
end Go.Proofs.Ytkooogllajmkeaa
/- What SegmentOrder's round calls, over a link whose wanted segments lie beside it. -/
namespace Go.Proofs.Ytkooogllajmkeaa
open Go.RowKit
theorem fit_spec {xs : List (Int × Int)} {m : Int} {i : Nat} (h : fitAt xs m = some i) : ∃ hi : i < xs.length, m ≤ xs[i].2 := by
  unfold fitAt at h
  obtain ⟨x, hx, rfl⟩ := Option.map_eq_some_iff.1 h
  have := List.find?_some hx
  exact ⟨x.2, by simpa using this⟩
section
variable {w W : World} {p b : Nat} {sz ca : Int} {S : Sp} {L : Lk} {E : List (Nat × Obj)} {v : Value} {xs : List (Int × Int)} {k : Nat}
theorem Seg.ok (h : Seg w p b sz ca S L E W) : Spok S := by
  obtain ⟨fs, gs, h1, -⟩ := h
  exact h1.ok
theorem SegR.ok (h : SegR w p b sz ca S L E v xs W) : Spok S := h.seg.ok
/-- what a push leaves -/
def PushF (sz ca m : Int) (k : Nat) (L : Lk) (y1 y2 er : Int) (S' : Sp) (L' : Lk) : Prop :=
  SInv S' L' sz ca ∧ S'.last ≤ 65540 * ((k : Int) + 1) ∧ ((er ≠ 0 ∧ L' = L) ∨ (er = 0 ∧ m ≤ y2 ∧ sz ≤ y2 ∧ L'.live = L.live ++ [(y1, y2)]))
theorem push_segr (h : SegR w p b sz ca S L E v xs W) (hI : SInv S L sz ca) (hs : 256 ≤ sz ∧ sz ≤ 65536) (hc : ca ≤ 64) (hk : k ≤ 100) (hl : S.last ≤ 65540 * (k : Int)) (hll : L.live.length ≤ k) (m : Int) :
    Calls Try.prog 31 #[.pointer (some ⟨b, 0, none⟩), .int .i64 m] W fun e w' => ∃ y1 y2 er S' L', e = .returned (.tuple #[.agg #[.int .i64 y1, .int .i64 y2], .int .i64 er]) ∧ SegR w p b sz ca S' L' E v xs w' ∧ PushF sz ca m k L y1 y2 er S' L' := by
  have hkl := hI.few
  have h0 : 0 ≤ S.last := by
    obtain ⟨ls, -, ok⟩ := h.ok
    exact ok.last0
  by_cases hm : m < 1 ∨ 65536 < m
  · refine (h.call (S' := S) (L' := L) (R := fun e => e = .returned (.tuple #[.agg #[.int .i64 0, .int .i64 0], .int .i64 240])) (fun E' h' => (push_no h' m hm).mono ?_)).mono ?_
    · rintro e w' ⟨q1, q2, q3⟩
      exact ⟨q1, q3⟩
    · rintro e w' ⟨q1, rfl⟩
      exact ⟨_, _, _, _, _, rfl, q1, hI, by omega, .inl ⟨by decide, rfl⟩⟩
  · have hm' : 1 ≤ m ∧ m ≤ 65536 := by omega
    cases hf : fitAt L.kept m with
    | some i =>
      obtain ⟨hi, hy⟩ := fit_spec hf
      have hy0 : L.kept[i]? = some (L.kept[i].1, L.kept[i].2) := by rw [List.getElem?_eq_getElem hi]
      refine (h.call (S' := S) (L' := ⟨L.live ++ [(L.kept[i].1, L.kept[i].2)], L.kept.eraseIdx i⟩) (R := fun e => e = .returned (.tuple #[.agg #[.int .i64 L.kept[i].1, .int .i64 L.kept[i].2], .int .i64 0])) (fun E' h' => push_fit h' m hm' (by omega) (by omega) hf hy0)).mono ?_
      rintro e w' ⟨q1, rfl⟩
      exact ⟨_, _, _, _, _, rfl, q1, hI.fit hy0, by omega, .inr ⟨rfl, hy, hI.wide _ (List.mem_append.2 (.inr (List.getElem_mem hi))), rfl⟩⟩
    | none =>
      obtain ⟨n, hn, hmn⟩ : ∃ n, ((sz ≤ m ∧ n = m) ∨ (¬ sz ≤ m ∧ n = sz)) ∧ m ≤ n ∧ sz ≤ n ∧ n ≤ 65536 := by
        by_cases q : sz ≤ m
        · exact ⟨m, .inl ⟨q, rfl⟩, by omega⟩
        · exact ⟨sz, .inr ⟨q, rfl⟩, by omega⟩
      obtain ⟨⟨nb, er⟩, ht⟩ : ∃ t, (S.take n).1 = t := ⟨_, rfl⟩
      by_cases he : er = 0
      · subst he
        rcases hI.take hmn.2.1 (by rw [ht]) with q | q
        · rw [ht] at q
          refine (h.call (S' := (S.take n).2) (L' := ⟨L.live ++ [(nb, n)], L.kept⟩) (R := fun e => e = .returned (.tuple #[.agg #[.int .i64 nb, .int .i64 n], .int .i64 0])) (fun E' h' => (push_take1 h' m n hm' hn (by omega) (by omega) hf (by omega) ht).mono ?_)).mono ?_
          · rintro e w' (⟨-, q1, q2⟩ | ⟨q, -⟩)
            · exact ⟨q1, q2⟩
            · exact absurd rfl q
          · rintro e w' ⟨q1, rfl⟩
            exact ⟨_, _, _, _, _, rfl, q1, q.1, by omega, .inr ⟨rfl, hmn.1, hmn.2.1, rfl⟩⟩
        · omega
      · refine (h.call (S' := (S.take n).2) (L' := L) (R := fun e => e = .returned (.tuple #[.agg #[.int .i64 0, .int .i64 0], .int .i64 er])) (fun E' h' => (push_take1 h' m n hm' hn (by omega) (by omega) hf (by omega) ht).mono ?_)).mono ?_
        · rintro e w' (⟨q, -⟩ | ⟨-, q1, q2⟩)
          · exact absurd q he
          · exact ⟨q1, q2⟩
        · rintro e w' ⟨q1, rfl⟩
          have hS : (S.take n).2 = S := by
            rcases take_cases S n with q | ⟨-, -, q, -⟩
            · rw [q]
            · rw [q] at ht
              simp only [Prod.mk.injEq] at ht
              omega
          rw [hS] at q1
          exact ⟨_, _, _, _, _, rfl, q1, hI, by omega, .inl ⟨he, rfl⟩⟩
theorem topOf_some {l : List (Int × Int)} (h : l ≠ []) : ∃ pre x, l = pre ++ [x] ∧ topOf l = ((x.1, x.2), true) := by
  refine ⟨l.dropLast, l.getLast h, (List.dropLast_concat_getLast h).symm, ?_⟩
  unfold topOf
  rw [List.getLast?_eq_some_getLast h]
/-- what a pop leaves -/
def PopF (sz ca : Int) (L : Lk) (la er : Int) (S' : Sp) (L' : Lk) : Prop :=
  SInv S' L' sz ca ∧ S'.last = la ∧ ((er ≠ 0 ∧ L' = L ∧ L.live = []) ∨ (er = 0 ∧ L.live ≠ [] ∧ L'.live = L.live.dropLast))
theorem pop_segr (h : SegR w p b sz ca S L E v xs W) (hI : SInv S L sz ca) (hc : ca ≤ 64) (hll : L.live.length ≤ 1000) :
    Calls Try.prog 32 #[.pointer (some ⟨b, 0, none⟩)] W fun e w' => ∃ er S' L', e = .returned (.int .i64 er) ∧ SegR w p b sz ca S' L' E v xs w' ∧ PopF sz ca L S.last er S' L' := by
  have hkl := hI.few
  by_cases hn : L.live = []
  · refine (h.call (S' := S) (L' := L) (R := fun e => e = .returned (.int .i64 240)) (fun E' h' => (pop_none h' hn).mono ?_)).mono ?_
    · rintro e w' ⟨q1, q2, q3⟩
      exact ⟨q1, q3⟩
    · rintro e w' ⟨q1, rfl⟩
      exact ⟨_, _, _, rfl, q1, hI, rfl, .inl ⟨by decide, rfl, hn⟩⟩
  · obtain ⟨pre, x, hpx, hy⟩ := topOf_some hn
    by_cases hca : (L.kept.length : Int) < ca
    · refine (h.call (S' := (S.drop x.1 x.2).2) (L' := ⟨L.live.dropLast, L.kept ++ [(x.1, x.2)]⟩) (R := fun e => e = .returned (.int .i64 0)) (fun E' h' => pop_keep h' (by omega) (by omega) hy hca)).mono ?_
      rintro e w' ⟨q1, rfl⟩
      exact ⟨_, _, _, rfl, q1, hI.popKeep h.ok hpx hca, drop_last _ _ _, .inr ⟨rfl, hn, rfl⟩⟩
    · refine (h.call (S' := (S.let_ x.1).2) (L' := ⟨L.live.dropLast, L.kept⟩) (R := fun e => e = .returned (.int .i64 0)) (fun E' h' => pop_let h' (by omega) (by omega) hy hca)).mono ?_
      rintro e w' ⟨q1, rfl⟩
      exact ⟨_, _, _, rfl, q1, hI.popLet h.ok hpx, let_last _ _, .inr ⟨rfl, hn, rfl⟩⟩
theorem top_segr (h : SegR w p b sz ca S L E v xs W) (hll : L.live.length ≤ 1000) :
    Calls Try.prog 33 #[.pointer (some ⟨b, 0, none⟩)] W fun e w' => SegR w p b sz ca S L E v xs w' ∧ e = .returned (.tuple #[.agg #[.int .i64 (topOf L.live).1.1, .int .i64 (topOf L.live).1.2], .bool (topOf L.live).2]) := by
  refine h.call (S' := S) (L' := L) (fun E' h' => (top24_seg h' (by omega)).mono ?_)
  rintro e w' ⟨q1, -, q3⟩
  exact ⟨q1, q3⟩
theorem put_segr (h : SegR w p b sz ca S L E v xs W) (a t n : Int) :
    Calls Try.prog 17 #[.pointer (some ⟨p, 0, none⟩), .int .i64 a, .agg #[.int .i64 t, .int .i64 n]] W fun e w' => SegR w p b sz ca (S.put a (t, n)).2 L E v xs w' ∧ e = .returned (.int .i64 (S.put a (t, n)).1) := by
  refine h.call (S' := (S.put a (t, n)).2) (L' := L) (fun E' h' => ?_)
  obtain ⟨fs, h1, h2⟩ := h'.on_space
  refine (put_spc h1 a t n).mono ?_
  rintro e w' ⟨q1, q2⟩
  exact ⟨h2 _ _ q1, q2⟩
theorem SegR.store {B : Nat} {cs : Array Value} {T : TypeId} (h : SegR w p b sz ca S L ((B, .cells cs T) :: E) v xs W) (hw : w.heap.size ≤ B) (hE : ∀ x ∈ E, x.1 ≠ B) (j : Nat) (u : Value) : SegR w p b sz ca S L ((B, .cells (cs.setIfInBounds j u) T) :: E) v xs (W.setCell ⟨B, j, none⟩ u) := by
  obtain ⟨E2, h1, h2, h3, h4, h5⟩ := h
  have h5' := h5 _ (List.Mem.head _)
  have h1' : Seg w p b sz ca S L ((B, .cells cs T) :: (E2 ++ E)) W := h1.sub (fun x hx => by
    rcases List.mem_cons.1 hx with rfl | hx
    · simp
    · rcases List.mem_append.1 hx with q | q <;> simp [q])
  have h1'' := h1'.store hw (fun x hx => by
    rcases List.mem_append.1 hx with q | q
    · exact fun e => h5' (by rw [h3 x q, e])
    · exact hE x q) j u
  refine ⟨E2, h1''.sub (fun x hx => ?_), h2, h3, h4, fun x hx => ?_⟩
  · rcases List.mem_append.1 hx with q | q
    · simp [q]
    · rcases List.mem_cons.1 q with rfl | q <;> simp [*]
  · rcases List.mem_cons.1 hx with rfl | hx
    · exact h5'
    · exact h5 x (List.mem_cons_of_mem _ hx)
theorem SegR.box (h : SegR w p b sz ca S L E v xs W) {B j : Nat} {cs : Array Value} {T : TypeId} {u : Value} (hm : (B, Obj.cells cs T (0, 0)) ∈ E) (hv : cs[j]? = some u) : W.cell? ⟨B, j, none⟩ = some u := h.seg.box hm hv
theorem SegR.free (h : SegR w p b sz ca S L E v xs W) {B : Nat} {cs : Array Value} {T : TypeId} (hm : (B, Obj.cells cs T (0, 0)) ∈ E) (j : Nat) : W.frozen? ⟨B, j, none⟩ = false := h.seg.free hm j
theorem SegR.ltE (h : SegR w p b sz ca S L E v xs W) : ∀ x ∈ E, x.1 < W.heap.size := h.seg.ltE
end
end Go.Proofs.Ytkooogllajmkeaa
/- Reading calls over a space and its link, and append of a row that is read to a row of the call's own. -/
namespace Go.Proofs.Ytkooogllajmkeaa
open Go.RowKit
theorem rd_at {W : World} {b o : Nat} {ys : List (Int × Int)} (hx : ∀ k (hk : k < ys.length), W.cell? ⟨b, o + k * 2, none⟩ = some (.int .i64 ys[k].1) ∧ W.cell? ⟨b, o + k * 2 + 1, none⟩ = some (.int .i64 ys[k].2)) (j : Nat) (u : Value) (hu : (wcells ys)[j]? = some u) :
    W.cell? ((⟨b, o, none⟩ : Addr).add j) = some u := by
  have hl : (wcells ys).length = ys.length * 2 := wcells_len ys
  have hj : j < ys.length * 2 := by
    have := (List.getElem?_eq_some_iff.1 hu).1
    omega
  have hk : j / 2 < ys.length := by omega
  have h1 := hx (j / 2) hk
  have e : (⟨b, o, none⟩ : Addr).add j = ⟨b, o + j, none⟩ := by cases j <;> simp [Addr.add]
  rw [e]
  rcases Nat.mod_two_eq_zero_or_one j with q | q
  · have e2 : j = j / 2 * 2 := by omega
    rw [e2, wcells_fst hk] at hu
    rw [show o + j = o + j / 2 * 2 by omega, h1.1, hu]
  · have e2 : j = j / 2 * 2 + 1 := by omega
    rw [e2, wcells_snd hk] at hu
    rw [show o + j = o + j / 2 * 2 + 1 by omega, h1.2, hu]
/-- append of a row that is read -/
theorem run_append_rd {W : World} {base : Nat} {v x : Value} {xs ys : List (Int × Int)} (ty : TypeId) (hown : W.ownsRow base 39 2 v xs.length (wcells xs)) (hx : Rd W x ys) (hn : xs.length + ys.length ≤ 4194304) (hb : base ≤ W.heap.size) :
    ∃ v' w', (Builtin.append_ #[36, 36] ty #[v, x]).run Try.prog W = .ok v' w' ∧ w'.ownsRow base 39 2 v' (xs ++ ys).length (wcells (xs ++ ys)) ∧ W.grownBy w' v.ownBlock ∧ (v'.ownBlock = v.ownBlock ∨ v'.ownBlock = some W.heap.size) := by
  obtain ⟨i0, hi, hz0, hz1, hz2⟩ := info_parts infoR
  rcases hx with ⟨rfl, rfl⟩ | ⟨b, o, c, rfl, hbl, hx⟩
  · refine ⟨v, W, run_append_owned_none W base _ _ 39 i0 2 Try.underlying36 hi v _ _ hown, by simpa using hown, ⟨rfl, rfl, rfl, Nat.le_refl _, fun _ _ _ => rfl⟩, .inl rfl⟩
  · obtain ⟨v', w', h1, h2, h3, -, h5⟩ := run_append_own_at W base 36 ty 39 i0 (.agg #[.int .i64 0, .int .i64 0]) 2 16 Try.underlying36 hi hz0 hz1 hz2 rfl (by decide) v xs.length (wcells xs) hown ⟨b, o, none⟩ ys.length c (wcells ys) (wcells_len ys) (rd_at hx) wc_one (by unfold maxLen; omega) (by omega) hb
    exact ⟨v', w', h1, by rw [List.length_append, wcells_app]; exact h2, h3, h5⟩
theorem wpList_append_rd {W : World} {ops : Array Oper} {rest : List Oper} {o : Oper} {a : Act} {Q : Exit → Act → World → Prop} (hgd : o.guard = none) (s x : Operand)
    (ho : o.op = .call { callee := .builtin .append, args := #[s, x], argTypes := #[36, 36] }) (base : Nat) (v xv : Value) {xs ys : List (Int × Int)} (hs : a.eval s = v) (hxv : a.eval x = xv)
    (hown : W.ownsRow base 39 2 v xs.length (wcells xs)) (hx : Rd W xv ys) (hn : xs.length + ys.length ≤ 4194304) (hb : base ≤ W.heap.size)
    (h : ∀ v' w', w'.ownsRow base 39 2 v' (xs ++ ys).length (wcells (xs ++ ys)) → W.grownBy w' v.ownBlock → (v'.ownBlock = v.ownBlock ∨ v'.ownBlock = some W.heap.size) → wpList Try.prog ops Q rest (a.put o.dst v') w') :
    wpList Try.prog ops Q (o :: rest) a W := by
  refine wpList_plain hgd fun K hK => ?_
  obtain ⟨v', w', hr, h2, h3, h4⟩ := run_append_rd o.type hown hx hn hb
  unfold Oper.wp execOp
  simp only [ho, resolve, invoke, builtin, Sem.run_bind, Sem.run_pure, Result.andThen_ok, List.map_toArray, List.map_cons, List.map_nil, hs, hxv, hr]
  exact hK _ _ (h v' w' h2 h3 h4)
theorem own_empty (W : World) {base : Nat} (hb : base ≤ W.heap.size) : (W.alloc (.cells #[] 39)).ownsRow base 39 2 (.slice (some ⟨W.heap.size, 0, none⟩) 0 0) ([] : List (Int × Int)).length (wcells []) :=
  World.ownsRow_made W #[] 0 hb (Nat.zero_le _) rfl
section
variable {w W : World} {p b : Nat} {sz ca : Int} {S : Sp} {L : Lk} {E : List (Nat × Obj)}
theorem regions_seg (h : Seg w p b sz ca S L E W) : Calls Try.prog 14 #[.pointer (some ⟨p, 0, none⟩)] W fun e w' => Below W.heap.size W w' ∧ ∃ v, Rd w' v (tells S.regs) ∧ e = .returned v := by
  obtain ⟨fs, h1, -⟩ := h.on_space
  refine (regions_spc h1).mono ?_
  rintro e w' ⟨hb, v, rfl, hv, -⟩
  exact ⟨hb, v, Rd.of_row hv (by simp [tells]), rfl⟩
theorem of_seg (h : Seg w p b sz ca S L E W) (a : Int) {y : (Int × Int) × Bool} (hy : S.of a = y) : Calls Try.prog 15 #[.pointer (some ⟨p, 0, none⟩), .int .i64 a] W fun e w' => Below W.heap.size W w' ∧ e = .returned (.tuple #[.agg #[.int .i64 y.1.1, .int .i64 y.1.2], .bool y.2]) := by
  obtain ⟨fs, h1, -⟩ := h.on_space
  subst hy
  exact find_of h1 a
theorem get_seg (h : Seg w p b sz ca S L E W) (a : Int) {y : (Int × Int) × Int} (hy : S.get a = y) : Calls Try.prog 19 #[.pointer (some ⟨p, 0, none⟩), .int .i64 a] W fun e w' => Below W.heap.size W w' ∧ e = .returned (.tuple #[.agg #[.int .i64 y.1.1, .int .i64 y.1.2], .int .i64 y.2]) := by
  obtain ⟨fs, h1, -⟩ := h.on_space
  subst hy
  exact get_spc h1 a
/-- what lies still while the checks run: the space, its link, the wanted ones, the kept ones as told, and all of them -/
def Sto (w : World) (p b : Nat) (sz ca : Int) (S : Sp) (L : Lk) (E : List (Nat × Obj)) (v vk va : Value) (W : World) : Prop :=
  SegR w p b sz ca S L E v L.live W ∧ Rd W vk L.kept ∧ Rd W va (L.live ++ L.kept)
theorem Sto.keep {W' : World} {v vk va : Value} (h : Sto w p b sz ca S L E v vk va W) (k : Below W.heap.size W W') : Sto w p b sz ca S L E v vk va W' := ⟨h.1.keep k, h.2.1.below k, h.2.2.below k⟩
end
/-- a told region in a box that is new since X -/
def Got2 (X : World) (y : Int × Int) (r : Value) (W : World) : Prop := ∃ B, r = .pointer (some ⟨B, 0, none⟩) ∧ W.cell? ⟨B, 0, none⟩ = some (.int .i64 y.1) ∧ W.cell? ⟨B, 1, none⟩ = some (.int .i64 y.2) ∧ Below X.heap.size X W
theorem got2_first {X Wx : World} {y : Int × Int} {T : TypeId} (hb : Below (X.alloc (.cells #[.int .i64 0, .int .i64 0] T)).heap.size (X.alloc (.cells #[.int .i64 0, .int .i64 0] T)) Wx) :
    Got2 X y (.pointer (some ⟨X.heap.size, 0, none⟩)) ((Wx.setCell ⟨X.heap.size, 0, none⟩ (.int .i64 y.1)).setCell ⟨X.heap.size, 1, none⟩ (.int .i64 y.2)) := by
  have h0 := below_at hb (heap_alloc_new X _) (by simp)
  have h1 := heap_setCell_same Wx X.heap.size 0 _ _ (.int .i64 y.1) h0
  have h2 := heap_setCell_same _ X.heap.size 1 _ _ (.int .i64 y.2) h1
  refine ⟨_, rfl, ?_, ?_, ?_⟩
  · rw [cell_of_row _ _ 0 _ _ _ h2]; rfl
  · rw [cell_of_row _ _ 1 _ _ _ h2]; rfl
  · exact ((((Below.refl X.heap.size X).alloc (Nat.le_refl _) _).trans (hb.mono (by simp))).setCell (p := ⟨X.heap.size, 0, none⟩) (Nat.le_refl _) _).setCell (p := ⟨X.heap.size, 1, none⟩) (Nat.le_refl _) _
theorem got2_second {X Wx : World} {y : Int × Int} (T : TypeId) (hb : Below X.heap.size X Wx) : Got2 X y (.pointer (some ⟨Wx.heap.size, 0, none⟩)) (Wx.alloc (.cells #[.int .i64 y.1, .int .i64 y.2] T)) := by
  have h2 := heap_alloc_new Wx (.cells #[.int .i64 y.1, .int .i64 y.2] T)
  refine ⟨_, rfl, ?_, ?_, hb.alloc hb.size _⟩
  · rw [cell_of_row _ _ 0 _ _ _ h2]; rfl
  · rw [cell_of_row _ _ 1 _ _ _ h2]; rfl
end Go.Proofs.Ytkooogllajmkeaa
