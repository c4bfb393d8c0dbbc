/- The walk of SpacePlays. -/
import Derived.Test.YtkooogllajmkeaaDg
import Derived.Test.YtkooogllajmkeaaSn
namespace Go.Proofs.Ytkooogllajmkeaa
open Go.RowKit
set_option pp.deepTerms true
theorem two_start {w W : World} (hb : Below w.heap.size w W) : Two w W.heap.size (W.heap.size + 1) ⟨[], 0⟩ ⟨[], 0⟩ [(W.heap.size + 1 + 1, plo W.heap.size (W.heap.size + 1))]
    (((W.alloc (.cells #[.slice none 0 0, .int .i64 0] 27)).alloc (.cells #[.slice none 0 0, .slice none 0 0, .int .i64 0] 56)).alloc (plo W.heap.size (W.heap.size + 1))) := by
  have h1 := Spc.zero W
  have h2 := RSpc.zero (W.alloc (.cells #[.slice none 0 0, .int .i64 0] 27))
  simp only [World.size_alloc] at h2
  have a1 : Below (W.alloc (.cells #[.slice none 0 0, .int .i64 0] 27)).heap.size (W.alloc (.cells #[.slice none 0 0, .int .i64 0] 27)) ((W.alloc (.cells #[.slice none 0 0, .int .i64 0] 27)).alloc (.cells #[.slice none 0 0, .slice none 0 0, .int .i64 0] 56)) := (Below.refl _ _).alloc (Nat.le_refl _) _
  have a2 := (Below.refl ((W.alloc (.cells #[.slice none 0 0, .int .i64 0] 27)).alloc (.cells #[.slice none 0 0, .slice none 0 0, .int .i64 0] 56)).heap.size ((W.alloc (.cells #[.slice none 0 0, .int .i64 0] 27)).alloc (.cells #[.slice none 0 0, .slice none 0 0, .int .i64 0] 56))).alloc (Nat.le_refl _) (plo W.heap.size (W.heap.size + 1))
  have hs := hb.size
  refine ⟨_, _, (h1.below a1).below a2, h2.below a2, by simp, by simp; exact hs, by simp; omega, ?_, fun x hx => ?_⟩
  · exact ((hb.alloc hs _).alloc (by simp; omega) _).alloc (by simp; omega) _
  · obtain rfl : x = _ := by simpa using hx
    refine ⟨by simp; omega, by simp, ?_⟩
    have := heap_alloc_new ((W.alloc (.cells #[.slice none 0 0, .int .i64 0] 27)).alloc (.cells #[.slice none 0 0, .slice none 0 0, .int .i64 0] 56)) (plo W.heap.size (W.heap.size + 1))
    simpa using this
set_option maxRecDepth 100000 in
set_option maxHeartbeats 4000000 in
theorem plays_any {w : World} {v : Value} {os : List Opr} (h : OpsAt w v os) (a : Int) (ha : I64 a) : Calls Try.prog 5 #[v, .int .i64 a] w fun e w' => e = .returned (.bool true) ∧ Below w.heap.size w w' := by
  have h2 := h
  obtain ⟨⟨ao, c, rfl⟩, hml, hok, hc⟩ := h
  have HOK := Hid.mk hok
  have HA := Hid.mk ha
  clear hok hml ha
  go_enter Try.func5, Try.ntmps5
  go_wp2_with fail
  refine (great21_any h2).mono ?_
  rintro e w2 ⟨hb, hg⟩
  clear h2
  rcases hg with rfl | ⟨rfl, hs⟩
  · go_wp2
    go_ret
    exact ⟨rfl, hb⟩
  · obtain ⟨n, hn⟩ : ∃ n, os.length = n := ⟨_, rfl⟩
    have HN := Hid.mk hn
    have hn150 : n ≤ 150 := by rw [← hn]; exact hs.1
    have HS := Hid.mk hs.2
    have HC : Hid (∀ i (hi : i < os.length), ∃ b o, ao = some ⟨b, o, none⟩ ∧ b < w.heap.size ∧ OprAt w b (o + i * 6) os[i]) := by
      intro i hi
      obtain ⟨b, o, c', e, hb, ha⟩ := hc (by omega)
      simp only [Value.slice.injEq] at e
      exact ⟨b, o, e.1, hb, ha i hi⟩
    clear hc hs
    rw [hn]
    clear hn
    have L0 := two_start hb
    have hq : w.heap.size ≤ w2.heap.size + 1 + 1 := by have := hb.size; omega
    unfold plo at L0
    go_wp2_with fail
    go_loopw [22] (fun i wr => ∃ (k : Nat) (S : Sp) (p pr : Nat), i = .int .i64 k ∧ k ≤ n ∧ S.last ≤ 202 * k ∧ Two w p pr S S [(w2.heap.size + 1 + 1, plo p pr)] wr) (fun i _ => n - (intOf i).toNat)
    case atStart => exact ⟨0, ⟨[], 0⟩, _, _, rfl, by omega, by simp, L0⟩
    case round =>
      clear L0
      obtain ⟨k, S, p, pr, rfl, hk, hl, HL⟩ := hrel
      by_cases hlt : k < n
      · have h1 : k < os.length := by rw [HN.out]; exact hlt
        obtain ⟨b, o, rfl, hbl, a0, a1, a2, a3, a4, a5⟩ := HC.out k h1
        have hbw := HL.size
        have c0 := (hbw.cell (p := ⟨b, o + k * 6, none⟩) hbl).trans a0
        have c1 := (hbw.cell (p := ⟨b, o + k * 6 + 1, none⟩) hbl).trans a1
        have c2 := (hbw.cell (p := ⟨b, o + k * 6 + 2, none⟩) hbl).trans a2
        have c3 := (hbw.cell (p := ⟨b, o + k * 6 + 3, none⟩) hbl).trans a3
        have c4 := (hbw.cell (p := ⟨b, o + k * 6 + 4, none⟩) hbl).trans a4
        have c5 := (hbw.cell (p := ⟨b, o + k * 6 + 5, none⟩) hbl).trans a5
        have h0 : 0 ≤ S.last := by
          obtain ⟨ls, -, ok⟩ := HL.ok
          exact ok.last0
        have hst := stepOf_last S os[k] (HS.out _ (List.getElem_mem h1)) h0
        have HD := Hid.mk (do21_any HL hq (by omega) os[k] (HOK.out _ (List.getElem_mem h1)))
        clear a0 a1 a2 a3 a4 a5 hbw h0 HL
        obtain ⟨x, hx⟩ : ∃ x, x = os[k] := ⟨_, rfl⟩
        rw [← hx] at c0 c1 c2 c3 c4 c5 hst HD
        clear hx h1
        go_wp2_with fail
        refine HD.out.mono ?_
        rintro e w3 ⟨rfl, p', pr', h3⟩
        clear HD c0 c1 c2 c3 c4 c5
        go_wp2_with fail
        exact ⟨⟨k + 1, _, p', pr', by go_num, by omega, by omega, h3⟩, by simp [intOf]; omega⟩
      · obtain rfl : k = n := by omega
        obtain ⟨x1, x2⟩ := HL.q1
        go_wp2_with fail
        refine (of_two HL a).mono ?_
        rintro e w4 ⟨h4, hb4, rfl⟩
        have h5 := Two.alloc h4 (.cells #[.int .i64 (S.of a).1.1, .int .i64 (S.of a).1.2] 39)
        have x1 := h5.box (j := 0) (List.Mem.tail _ (List.Mem.head _)) rfl
        have x2 := h5.box (j := 1) (List.Mem.tail _ (List.Mem.head _)) rfl
        go_wp2_with fail
        refine (rof_two h5 a HA.out).mono ?_
        rintro e w5 ⟨h6, hb6, rfl⟩
        have h7 := Two.alloc h6 (.cells #[.int .i64 (S.of a).1.1, .int .i64 (S.of a).1.2] 39)
        have z0 := h7.box (j := 0) (List.Mem.head _) rfl
        have z1 := h7.box (j := 1) (List.Mem.head _) rfl
        have z2 := h7.box (j := 0) (List.Mem.tail _ (List.Mem.head _)) rfl
        have z3 := h7.box (j := 1) (List.Mem.tail _ (List.Mem.head _)) rfl
        have hS := same21_any (h7.sub (E' := [(w2.heap.size + 1 + 1, plo p pr)]) (by simp))
        clear x1 x2 h4 h5 h6 h7 HL hb4 hb6
        go_wp2_with fail
        refine hS.mono ?_
        rintro e w6 ⟨rfl, h8, hb8⟩
        have y0 := (hb8.cell (cell_lt z0)).trans z0
        have y1 := (hb8.cell (cell_lt z1)).trans z1
        have y2 := (hb8.cell (cell_lt z2)).trans z2
        have y3 := (hb8.cell (cell_lt z3)).trans z3
        have HF := Hid.mk h8.size
        clear z0 z1 z2 z3 hS h8 hb8
        go_wp2_with fail
        go_ret
        exact ⟨rfl, HF.out⟩
end Go.Proofs.Ytkooogllajmkeaa
