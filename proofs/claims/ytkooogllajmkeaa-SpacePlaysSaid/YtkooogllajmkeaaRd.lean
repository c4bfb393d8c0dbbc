/- The document's Drop. -/
import Derived.Test.YtkooogllajmkeaaRc
namespace Go.Proofs.Ytkooogllajmkeaa
open Go.RowKit
theorem kp_cell {fs : List Nat} {w W : World} (k : Kp fs w W) {b j : Nat} (hb : b < w.heap.size) (hn : b ∉ fs) : W.cell? ⟨b, j, none⟩ = w.cell? ⟨b, j, none⟩ := World.cell?_of_block (k.block b hb hn)
theorem over_step {l : List (Int × Int)} {j q : Nat} (h : j + q < l.length) : over l j (List.replicate (q + 1) (0, 0)) = (over l j (List.replicate q (0, 0))).set (j + q) (0, 0) := by
  unfold over
  apply List.ext_getElem
  · simp; omega
  · intro i h1 h2
    rw [List.getElem_set]
    rcases Nat.lt_or_ge i j with c | c
    · rw [if_neg (by omega), List.getElem_append_left (by simp; omega), List.getElem_append_left (by simp; omega)]
    · rw [List.getElem_append_right (by simp; omega)]
      rcases Nat.lt_or_ge i (j + (q + 1)) with d | d
      · rw [List.getElem_append_left (by simp; omega)]
        by_cases e : j + q = i
        · rw [if_pos e]; simp
        · rw [if_neg e, List.getElem_append_right (by simp; omega), List.getElem_append_left (by simp; omega)]; simp
      · rw [if_neg (by omega), List.getElem_append_right (by simp; omega), List.getElem_append_right (by simp; omega), List.getElem_append_right (by simp; omega)]
        simp only [List.getElem_drop, List.length_replicate, List.length_take]
        congr 1
        omega
theorem over_zero (l : List (Int × Int)) (j : Nat) : over l j (List.replicate 0 (0, 0)) = l := by simp [over]
section
variable {w w' : World} {p : Nat} {last : Int} {rv wv : Value} {ls : List LReg}
/-- what the words' block, and the two above it, are good for -/
theorem RAt.apart (h : RAt w p last rv wv ls) {i : Nat} (hi : i < ls.length) : p ∉ [ls[i].wb] ∧ (∀ g, rv.ownBlock = some g → g ∉ [ls[i].wb]) ∧ ∀ g, wv.ownBlock = some g → g ∉ [ls[i].wb] := by
  have hnd := h.nodup
  have hin : ls[i].wb ∈ ls.map (·.wb) := List.mem_map.2 ⟨_, List.getElem_mem hi, rfl⟩
  have hd1 := List.nodup_append.1 (List.nodup_cons.1 hnd).2
  have hd2 := List.nodup_append.1 hd1.2.1
  refine ⟨?_, fun g hg e => ?_, fun g hg e => ?_⟩
  · simp only [List.mem_singleton]
    rintro e
    exact (List.nodup_cons.1 hnd).1 (List.mem_append.2 (.inr (List.mem_append.2 (.inr (e ▸ hin)))))
  · simp only [List.mem_singleton] at e
    exact hd1.2.2 g (by simp [hg]) _ (List.mem_append.2 (.inr hin)) e
  · simp only [List.mem_singleton] at e
    exact hd2.2.2 g (by simp [hg]) _ hin e
set_option maxRecDepth 100000 in
set_option maxHeartbeats 1000000 in
theorem rdrop_spc {S : Sp} {gs : List Nat} (h : RSpc w p S gs) (a m : Int) (ha : -9223372036854775808 ≤ a ∧ a ≤ 9223372036854775807) : Calls Try.prog 53 #[.pointer (some ⟨p, 0, none⟩), .int .i64 a, .int .i64 m] w fun e w' =>
    RStp w p gs (S.drop a m).2 w' ∧ e = .returned (.int .i64 (S.drop a m).1) := by
  have hS := h
  obtain ⟨rv, wv, ls, h, ok, hwd, hr, hgs⟩ := h
  have hhas := rhas_any h ok a m ha
  by_cases hm0 : m = 0
  · subst hm0
    have e1 : hasOf (ls.map LReg.reg) a 0 = true := by simp [hasOf]
    have e2 : S.drop a 0 = (0, S) := by unfold Sp.drop; rw [if_pos rfl]
    rw [e1] at hhas
    rw [e2]
    have HW := Hid.mk (fun (W : World) (hb : Below w.heap.size w W) => where_any (h.below hb) ok a ha)
    have HH := Hid.mk hS
    clear hS h ok hwd hr hgs e1 e2
    go_enter Try.func53, Try.ntmps53
    go_wp2_with fail
    refine hhas.mono ?_
    rintro e w1 ⟨hb1, rfl⟩
    go_wp2_with fail
    refine (HW.out w1 hb1).mono ?_
    rintro e w2 ⟨hb2, rfl⟩
    clear HW hhas
    go_wp2_with fail
    refine wp_loop_rounds 1 ?_; rw [rounds_succ]
    go_wp2_with fail
    go_ret
    exact ⟨RStp.of_below HH.out (hb1.trans (hb2.mono hb1.size)), rfl⟩
  · by_cases hh : 0 < m ∧ (locate (ls.map LReg.reg) a m).isSome = true
    · obtain ⟨hm1, hso⟩ := hh
      obtain ⟨⟨i, j⟩, hl⟩ := Option.isSome_iff_exists.1 hso
      have e1 : hasOf (ls.map LReg.reg) a m = true := by simp [hasOf, hm1, hl]
      rw [e1] at hhas
      obtain ⟨hi', h1, h2⟩ := locate_spec hl
      have hi : i < ls.length := by simpa using hi'
      obtain ⟨q1, q2, q3⟩ := hasB_iff.1 h1
      simp only [List.getElem_map, LReg.reg] at q1 q2 q3 h2
      have hj : j < ls[i].words.length := by omega
      have hjm : j + m.toNat ≤ ls[i].words.length := by omega
      have ew : whereOf (ls.map LReg.reg) a = ((i : Int), (j : Int)) := by
        have ea : ls[i].base + (j : Int) = a := by omega
        unfold whereOf
        rw [← ea, loc_at ok hi hj (m := 1) (by omega)]
      have e2 : S.drop a m = (0, { S with regs := setAt S.regs i (over (wordsAt S.regs i) j (List.replicate m.toNat (0, 0))) }) := by
        unfold Sp.drop
        rw [if_neg hm0, if_neg (by omega), hr, hl]
      rw [e2]
      have hln := (ok.lo _ (List.getElem_mem hi)).2.2.1
      have hn := ok.count
      obtain ⟨nm, hnm⟩ : ∃ nm : Nat, m = nm := ⟨m.toNat, by omega⟩
      have hnt : m.toNat = nm := by omega
      rw [hnt] at hjm ⊢
      have HW : Hid (∀ (W : World), Below w.heap.size w W → Calls Try.prog 57 #[.pointer (some ⟨p, 0, none⟩), .int .i64 a] W fun e w' => Below W.heap.size W w' ∧ e = .returned (.tuple #[.int .i64 i, .int .i64 j])) := by
        intro W hb
        have := where_any (h.below hb) ok a ha
        rw [ew] at this
        exact this
      subst hnm
      clear e1 e2 ew h1 h2 q1 q2 q3 hl hso hnt hS hi' hm0
      go_enter Try.func53, Try.ntmps53
      go_wp2_with fail
      refine hhas.mono ?_
      rintro e w1 ⟨hb1, rfl⟩
      go_wp2_with fail
      refine (HW.out w1 hb1).mono ?_
      rintro e w2 ⟨hb2, rfl⟩
      clear HW hhas
      have hb3 := hb1.trans (hb2.mono hb1.size)
      have h3 := h.below hb3
      have HA : Hid (∀ W, Kp [ls[i].wb] w2 W → W.ownsRow 0 29 2 (.slice (some ⟨ls[i].wb, 0, none⟩) ls[i].words.length ls[i].cap) ls[i].words.length (wcells (over ls[i].words j (List.replicate nm (0, 0)))) →
          RStp w p gs { S with regs := setAt S.regs i (over (wordsAt S.regs i) j (List.replicate nm (0, 0))) } W) := by
        intro W hk hrow
        have hws : wordsAt S.regs i = ls[i].words := by rw [hr]; exact wordsAt_map hi
        rw [hws]
        have hle : (over ls[i].words j (List.replicate nm (0, 0))).length = ls[i].words.length := over_len (by simp; omega)
        have h4 := h3.replace hi hk _ hle hrow
        refine ⟨_, ⟨rv, _, _, h4, ok.replace hi _ hle, words_set hwd ?_, ?_, rfl⟩, ?_, ?_⟩
        · intro v hv
          unfold over at hv
          rcases List.mem_append.1 hv with q | q
          · exact hwd _ (List.getElem_mem hi) v (List.mem_of_mem_take q)
          · rcases List.mem_append.1 q with q | q
            · exact .inl (List.eq_of_mem_replicate q)
            · exact hwd _ (List.getElem_mem hi) v (List.mem_of_mem_drop q)
        · simp only [hr]; exact setAt_map
        · rw [hgs]; exact (Kp.of_below hb3 _).trans hk (fun x hx => by simp only [List.mem_singleton] at hx; subst hx; left; simp [rfoot]; exact .inr (.inr (.inr ⟨_, List.getElem_mem hi, rfl⟩)))
        · intro b hb; left; rw [rfoot_setWords] at hb; rw [hgs]; exact hb
      have HR0 := h3.wrow hi
      obtain ⟨ap1, ap2, ap3⟩ := h3.apart hi
      have hpl : p < w2.heap.size := lt_of_heap h3.head
      have hz := h3.cell1
      obtain ⟨ao, c, rfl, hc⟩ := h3.wshape
      obtain ⟨B, rfl, hB, hx⟩ := hc i hi
      have apB : B ∉ [ls[i].wb] := ap3 B rfl
      obtain ⟨ws, hws⟩ : ∃ ws, ls[i].words = ws := ⟨_, rfl⟩
      obtain ⟨wb, hwb⟩ : ∃ wb, ls[i].wb = wb := ⟨_, rfl⟩
      obtain ⟨cp, hcp⟩ : ∃ cp, ls[i].cap = cp := ⟨_, rfl⟩
      rw [hws, hwb, hcp] at HR0 HA hx
      rw [hws] at hjm hln hj
      rw [hwb] at ap1 apB
      obtain ⟨nw, hnw⟩ : ∃ nw, ws.length = nw := ⟨_, rfl⟩
      have HNW := Hid.mk hnw
      rw [hnw] at HR0 HA hx hjm hln hj
      rw [← over_zero ws j] at HR0
      have HR00 := Hid.mk HR0
      clear hc h h3 hr hgs hwd ok hws hwb hcp hnw ap2 ap3 HR0
      go_wp2_with fail
      go_loopw [10] (fun x wr => ∃ q : Nat, x = .int .i64 q ∧ q ≤ nm ∧ Kp [wb] w2 wr ∧ Hid (wr.ownsRow 0 29 2 (.slice (some ⟨wb, 0, none⟩) nw cp) nw (wcells (over ws j (List.replicate q (0, 0)))))) (fun x _ => nm - (intOf x).toNat)
      case atStart => exact ⟨0, rfl, by omega, Kp.refl _ _, HR00⟩
      case round =>
        clear HR00
        obtain ⟨q, rfl, hq, hk, HRW⟩ := hrel
        by_cases hqn : q < nm
        · have c1 := (kp_cell hk (j := 1) hpl ap1).trans hz
          have cb := (kp_cell hk (j := i) hB apB).trans hx
          have hlen : (over ws j (List.replicate q (0, 0))).length = nw := (over_len (by have := HNW.out; simp; omega)).trans HNW.out
          have x0 := row_cell HRW.out (wcells_fst (l := over ws j (List.replicate q (0, 0))) (i := j + q) (by omega))
          have x1 := row_cell HRW.out (wcells_snd (l := over ws j (List.replicate q (0, 0))) (i := j + q) (by omega))
          have g0 := row_free HRW.out
          have HS1 := Hid.mk (over_step (l := ws) (j := j) (q := q) (by have := HNW.out; omega))
          obtain ⟨u0, hu0⟩ : ∃ u0, (over ws j (List.replicate q (0, 0)))[j + q] = u0 := ⟨_, rfl⟩
          rw [hu0] at x0 x1
          clear hu0 hlen
          go_wp2_with fail
          refine ⟨⟨q + 1, by go_num, by omega, (hk.setCell (.inl (by simp)) _).setCell (.inl (by simp)) _, ?_⟩, by simp [intOf]; omega⟩
          show World.ownsRow _ _ _ _ _ _ _
          rw [HS1.out, wcells_set]
          exact ((HRW.out.stored ((j + q) * 2) _).1.stored ((j + q) * 2 + 1) _).1
        · obtain rfl : q = nm := by omega
          have HE := Hid.mk (HA.out _ hk HRW.out)
          clear HA HRW hk
          go_wp2_with fail
          go_ret
          exact ⟨HE.out, rfl⟩
    · have e1 : hasOf (ls.map LReg.reg) a m = false := by
        by_cases hm1 : 0 < m
        · have : (locate (ls.map LReg.reg) a m).isSome = false := by simpa using fun q => hh ⟨hm1, q⟩
          simp [hasOf, hm0, this]
        · simp [hasOf, hm0, hm1]
      have e2 : S.drop a m = (210, S) := by
        unfold Sp.drop
        rw [if_neg hm0]
        by_cases hm1 : m < 0
        · rw [if_pos hm1]
        · rw [if_neg hm1, hr]
          cases hq : locate (ls.map LReg.reg) a m with
          | none => rfl
          | some x => exact absurd ⟨by omega, by rw [hq]; rfl⟩ hh
      rw [e1] at hhas
      rw [e2]
      have HH := Hid.mk hS
      clear hS h ok hwd hr hgs e1 e2 hh
      go_enter Try.func53, Try.ntmps53
      go_wp2_with fail
      refine hhas.mono ?_
      rintro e w1 ⟨hb1, rfl⟩
      go_wp2_with fail
      go_ret
      exact ⟨RStp.of_below HH.out hb1, rfl⟩
end
end Go.Proofs.Ytkooogllajmkeaa
