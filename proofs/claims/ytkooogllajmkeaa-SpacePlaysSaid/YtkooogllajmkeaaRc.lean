/- The document's Put, and Check. -/
import Derived.Test.YtkooogllajmkeaaRb
import Derived.BigRegion
import Derived.RegionTactic
namespace Go.Proofs.Ytkooogllajmkeaa
open Go.RowKit
theorem known02_any (t : Int) (w : World) : Calls Try.prog 91 #[.int .i64 t] w fun e w' => e = .returned (.bool (knownB t)) ∧ w' = w := by
  by_cases h1 : t = 1
  · subst h1
    go_enter Try.func91, Try.ntmps91
    go_wp2
    go_ret
    exact ⟨rfl, rfl⟩
  · by_cases h2 : t = 2
    · subst h2
      go_enter Try.func91, Try.ntmps91
      go_wp2
      go_ret
      exact ⟨rfl, rfl⟩
    · by_cases h3 : t = 3
      · subst h3
        go_enter Try.func91, Try.ntmps91
        go_wp2
        go_ret
        exact ⟨rfl, rfl⟩
      · have e1 : (t == 1) = false := by simp [h1]
        have e2 : (t == 2) = false := by simp [h2]
        have e3 : (t == 3) = false := by simp [h3]
        by_cases h4 : t = 4
        · subst h4
          go_enter Try.func91, Try.ntmps91
          go_wp2
          go_ret
          exact ⟨rfl, rfl⟩
        · have e4 : (t == 4) = false := by simp [h4]
          have hk : Hid (knownB t = false) := by show knownB t = false; unfold knownB; simp; omega
          clear h1 h2 h3 h4
          go_enter Try.func91, Try.ntmps91
          go_wp2
          go_ret
          exact ⟨by rw [hk.out]; rfl, rfl⟩
theorem check02_any (t n : Int) (w : World) : Calls Try.prog 81 #[.agg #[.int .i64 t, .int .i64 n]] w fun e w' => e = .returned (.int .i64 (chk t n)) ∧ Below w.heap.size w w' := by
  by_cases hk : knownB t = true
  · have ht : 1 ≤ t := by unfold knownB at hk; simp at hk; omega
    have hc := known02_any t (w.alloc (.cells #[.int .i64 t, .int .i64 n] 29))
    rw [hk] at hc
    by_cases h1 : t = 1
    · subst h1
      have hr := Hid.mk (chk_ok (t := 1) (n := n) (by simp [okV, hk]))
      clear hk ht
      go_enter Try.func81, Try.ntmps81
      go_wp2_with fail
      refine hc.mono ?_
      rintro e w' ⟨rfl, rfl⟩
      go_wp2_with fail
      go_ret
      exact ⟨by rw [hr.out]; rfl, (Below.refl _ _).alloc (Nat.le_refl _) _⟩
    · have h1' : decide (t > 1) = true := by simp; omega
      by_cases h2 : n < 0
      · have hr := Hid.mk (chk_no (t := t) (n := n) (by simp [okV, h1]; omega))
        clear hk ht h1
        go_enter Try.func81, Try.ntmps81
        go_wp2_with fail
        refine hc.mono ?_
        rintro e w' ⟨rfl, rfl⟩
        go_wp2_with fail
        go_ret
        exact ⟨by rw [hr.out]; rfl, (Below.refl _ _).alloc (Nat.le_refl _) _⟩
      · have hr := Hid.mk (chk_ok (t := t) (n := n) (by simp [okV, hk]; omega))
        clear hk ht h1
        go_enter Try.func81, Try.ntmps81
        go_wp2_with fail
        refine hc.mono ?_
        rintro e w' ⟨rfl, rfl⟩
        go_wp2_with fail
        go_ret
        exact ⟨by rw [hr.out]; rfl, (Below.refl _ _).alloc (Nat.le_refl _) _⟩
  · have hk' : knownB t = false := by simpa using hk
    have hc := known02_any t (w.alloc (.cells #[.int .i64 t, .int .i64 n] 29))
    rw [hk'] at hc
    have hr := Hid.mk (chk_no (t := t) (n := n) (by simp [okV, hk']))
    clear hk hk'
    go_enter Try.func81, Try.ntmps81
    go_wp2_with fail
    refine hc.mono ?_
    rintro e w' ⟨rfl, rfl⟩
    go_wp2_with fail
    go_ret
    exact ⟨by rw [hr.out]; rfl, (Below.refl _ _).alloc (Nat.le_refl _) _⟩
section
variable {w w' : World} {p : Nat} {last : Int} {rv wv : Value} {ls : List LReg}
theorem rfoot_setWords {i : Nat} {ws : List (Int × Int)} : rfoot p rv wv (setWords ls i ws) = rfoot p rv wv ls := by
  unfold rfoot
  rw [setWords_map (fun r => r.wb) (fun _ => rfl)]
theorem gcells_eq {l1 l2 : List LReg} (h : l1.map gcell = l2.map gcell) : gcells l1 = gcells l2 := by
  have : ∀ l : List LReg, gcells l = (l.map gcell).flatMap id := fun l => by rw [flatMap_map']; rfl
  rw [this, this, h]
theorem RAt.replace (h : RAt w p last rv wv ls) {i : Nat} (hi : i < ls.length) (k : Kp [ls[i].wb] w w') (ws : List (Int × Int)) (hl : ws.length = ls[i].words.length)
    (hrow : w'.ownsRow 0 29 2 (.slice (some ⟨ls[i].wb, 0, none⟩) ls[i].words.length ls[i].cap) ls[i].words.length (wcells ws)) : RAt w' p last rv wv (setWords ls i ws) := by
  have hnd := h.nodup
  have hin : ls[i].wb ∈ ls.map (·.wb) := List.mem_map.2 ⟨_, List.getElem_mem hi, rfl⟩
  have hp : p ≠ ls[i].wb := by
    rintro e
    exact (List.nodup_cons.1 hnd).1 (List.mem_append.2 (.inr (List.mem_append.2 (.inr (e ▸ hin)))))
  have hd1 := List.nodup_append.1 (List.nodup_cons.1 hnd).2
  have hd2 := List.nodup_append.1 hd1.2.1
  have hB : ∀ g, rv.ownBlock = some g → g ∉ [ls[i].wb] := by
    intro g hg e
    simp only [List.mem_singleton] at e
    exact hd1.2.2 g (by simp [hg]) _ (List.mem_append.2 (.inr hin)) e
  have hW : ∀ g, wv.ownBlock = some g → g ∉ [ls[i].wb] := by
    intro g hg e
    simp only [List.mem_singleton] at e
    exact hd2.2.2 g (by simp [hg]) _ hin e
  refine ⟨k.at h.head (by simpa using hp), ?_, ?_, ?_, ?_⟩
  · rw [setWords_len, gcells_eq (setWords_map _ (fun _ => by simp [gcell, hl]))]
    exact k.row h.row hB
  · rw [setWords_len, setWords_map _ (fun _ => by simp [LReg.sl, hl])]
    exact k.row h.tab hW
  · intro r hr
    rcases setWords_mem hr with ⟨_, rfl⟩ | ⟨hr, q, hq, hqr⟩
    · simpa [hl, LReg.sl] using hrow
    · refine k.row (h.words r hr) ?_
      intro g hg
      simp [Value.ownBlock, LReg.sl] at hg
      subst hg
      obtain ⟨hql, rfl⟩ := List.getElem?_eq_some_iff.1 hqr
      have h2 := hd2.2.1
      simp only [List.mem_singleton]
      intro e
      rcases Nat.lt_or_gt_of_ne hq with q' | q'
      · exact List.pairwise_iff_getElem.1 h2 q i (by simpa using hql) (by simpa using hi) q' (by simpa using e)
      · exact List.pairwise_iff_getElem.1 h2 i q (by simpa using hi) (by simpa using hql) q' (by simpa using e.symm)
  · rw [rfoot_setWords]
    exact hnd
theorem RAt.wrow (h : RAt w p last rv wv ls) {i : Nat} (hi : i < ls.length) : w.ownsRow 0 29 2 (.slice (some ⟨ls[i].wb, 0, none⟩) ls[i].words.length ls[i].cap) ls[i].words.length (wcells ls[i].words) := h.words _ (List.getElem_mem hi)
/-- block p holds the document's space S; gs are the blocks that it owns -/
def RSpc (w : World) (p : Nat) (S : Sp) (gs : List Nat) : Prop := ∃ rv wv ls, RAt w p S.last rv wv ls ∧ RegsOk S.last ls ∧ Words ls ∧ S.regs = ls.map LReg.reg ∧ gs = rfoot p rv wv ls
def RStp (w : World) (p : Nat) (gs : List Nat) (S : Sp) (w' : World) : Prop := ∃ gs', RSpc w' p S gs' ∧ Kp gs w w' ∧ ∀ b ∈ gs', b ∈ gs ∨ w.heap.size ≤ b
theorem RStp.of_below {S : Sp} {gs : List Nat} (h : RSpc w p S gs) (k : Below w.heap.size w w') : RStp w p gs S w' := by
  obtain ⟨rv, wv, ls, h1, h2, h3, h4, rfl⟩ := h
  exact ⟨_, ⟨rv, wv, ls, h1.below k, h2, h3, h4, rfl⟩, Kp.of_below k _, fun _ hb => .inl hb⟩
theorem words_set {i : Nat} (hw : Words ls) {ws : List (Int × Int)} (h : ∀ v ∈ ws, v = (0, 0) ∨ v.1 ≠ 0) : Words (setWords ls i ws) := by
  intro r hr v hv
  rcases setWords_mem hr with ⟨_, rfl⟩ | ⟨hr, _⟩
  · exact h v hv
  · exact hw r hr v hv
theorem okV_type {t n : Int} (h : okV t n = true) : t ≠ 0 := by
  rintro rfl
  exact absurd h (by simp [okV, knownB])
set_option maxRecDepth 100000 in
set_option maxHeartbeats 1000000 in
theorem rput_spc {S : Sp} {gs : List Nat} (h : RSpc w p S gs) (a t n : Int) (ha : -9223372036854775808 ≤ a ∧ a ≤ 9223372036854775807) : Calls Try.prog 51 #[.pointer (some ⟨p, 0, none⟩), .int .i64 a, .agg #[.int .i64 t, .int .i64 n]] w fun e w' =>
    RStp w p gs (S.put a (t, n)).2 w' ∧ e = .returned (.int .i64 (S.put a (t, n)).1) := by
  have hS := h
  obtain ⟨rv, wv, ls, h, ok, hwd, hr, hgs⟩ := h
  have hb0 : Below w.heap.size w (w.alloc (.cells #[.int .i64 t, .int .i64 n] 29)) := (Below.refl _ _).alloc (Nat.le_refl _) _
  have hcall := where_any (h.below hb0) ok a ha
  rcases where_cases ok a with ⟨i, j, hi, hj, rfl, ew, hloc⟩ | ⟨ew, hloc⟩
  · rw [ew] at hcall
    have hres : S.put (ls[i].base + j) (t, n) = if okV t n then (0, { S with regs := setAt S.regs i ((wordsAt S.regs i).set j (t, n)) }) else (21, S) := by
      unfold Sp.put
      rw [hr, hloc 1 (by omega)]
    have hln := (ok.lo _ (List.getElem_mem hi)).2.2.1
    have hn := ok.count
    cases hok : okV t n
    · rw [hok] at hres
      simp only [Bool.false_eq_true, if_false] at hres
      rw [hres]
      have HH := Hid.mk hS
      have HC := Hid.mk (chk_no hok)
      clear hS hok hres hloc ew hr hgs hwd ok
      go_enter Try.func51, Try.ntmps51
      go_wp2_with fail
      refine hcall.mono ?_
      rintro e w1 ⟨hb, rfl⟩
      obtain ⟨c0, c1, f0, hsz⟩ := box2 hb
      have hbb := hb0.trans (hb.mono hb0.size)
      clear hcall h
      go_wp2_with fail
      refine (check02_any t n _).mono ?_
      rintro e w2 ⟨rfl, hb2⟩
      have hb3 := hbb.trans (hb2.mono hbb.size)
      rw [HC.out]
      go_wp2_with fail
      go_ret
      exact ⟨RStp.of_below HH.out hb3, rfl⟩
    · rw [hok] at hres
      simp only [if_true] at hres
      rw [hres]
      have HC := Hid.mk (chk_ok hok)
      have HO := Hid.mk (okV_type hok)
      clear hS hok hres hloc ew
      go_enter Try.func51, Try.ntmps51
      go_wp2_with fail
      refine hcall.mono ?_
      rintro e w1 ⟨hb, rfl⟩
      obtain ⟨c0, c1, f0, hsz⟩ := box2 hb
      have hbb := hb0.trans (hb.mono hb0.size)
      clear hcall
      go_wp2_with fail
      refine (check02_any t n _).mono ?_
      rintro e w2 ⟨rfl, hb2⟩
      have hb3 := hbb.trans (hb2.mono hbb.size)
      rw [HC.out]
      have h3 := h.below hb3
      have d0 := (hb2.cell (p := ⟨w.heap.size, 0, none⟩) hsz).trans c0
      have d1 := (hb2.cell (p := ⟨w.heap.size, 1, none⟩) hsz).trans c1
      have x0 := h3.type hi hj
      have x1 := h3.num hi hj
      have g0 := row_free (h3.wrow hi)
      obtain ⟨ao, c, rfl, hc⟩ := h3.wshape
      obtain ⟨B, rfl, hB, hx⟩ := hc i hi
      have hz := h3.cell1
      have HA : Hid (∀ W, Kp [ls[i].wb] w2 W → W.ownsRow 0 29 2 (.slice (some ⟨ls[i].wb, 0, none⟩) ls[i].words.length ls[i].cap) ls[i].words.length (wcells (ls[i].words.set j (t, n))) →
          RStp w p gs { S with regs := setAt S.regs i ((wordsAt S.regs i).set j (t, n)) } W) := by
        intro W hk hrow
        have hws : wordsAt S.regs i = ls[i].words := by rw [hr]; exact wordsAt_map hi
        rw [hws]
        have h4 := h3.replace hi hk _ (by simp) hrow
        refine ⟨_, ⟨rv, _, _, h4, ok.replace hi _ (by simp), words_set hwd ?_, ?_, rfl⟩, ?_, ?_⟩
        · intro v hv
          rcases List.mem_or_eq_of_mem_set hv with q | q
          · exact hwd _ (List.getElem_mem hi) v q
          · subst q; exact .inr HO.out
        · simp only [hr]; exact setAt_map
        · rw [hgs]; exact (Kp.of_below hb3 _).trans hk (fun x hx => by simp only [List.mem_singleton] at hx; subst hx; left; simp [rfoot]; exact .inr (.inr (.inr ⟨_, List.getElem_mem hi, rfl⟩)))
        · intro b hb; left; rw [rfoot_setWords] at hb; rw [hgs]; exact hb
      have HW := Hid.mk (h3.wrow hi)
      clear hc h h3 hr hgs hwd ok
      go_wp2_with fail
      go_region
      all_goals
        go_wp2_with fail
        go_ret
        refine ⟨HA.out _ ?_ ?_, rfl⟩
        · exact (((Kp.refl _ _).drew).setCell (.inl (by simp)) _).setCell (.inl (by simp)) _
        · rw [wcells_set]
          exact ((HW.out.drew.stored (j * 2) _).1.stored (j * 2 + 1) _).1
  · rw [ew] at hcall
    have hres : S.put a (t, n) = (210, S) := by unfold Sp.put; rw [hr, hloc 1]
    rw [hres]
    have HH := Hid.mk hS
    clear hS hres hloc ew hr hgs hwd ok
    go_enter Try.func51, Try.ntmps51
    go_wp2_with fail
    refine hcall.mono ?_
    rintro e w1 ⟨hb, rfl⟩
    have hbb := hb0.trans (hb.mono hb0.size)
    clear hcall h
    go_wp2_with fail
    go_ret
    exact ⟨RStp.of_below HH.out hbb, rfl⟩
end
end Go.Proofs.Ytkooogllajmkeaa
