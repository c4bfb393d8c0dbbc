/- A play's step (layer 21), kind 7: copies go on in its place. -/
import Derived.Test.YtkooogllajmkeaaDa
import Derived.Test.YtkooogllajmkeaaCp
import Derived.Test.YtkooogllajmkeaaKe
import Derived.Deep.RegionWith
namespace Go.Proofs.Ytkooogllajmkeaa
open Go.RowKit
set_option pp.deepTerms true
attribute [local go_sem ↓] Go.wp_at_zero Go.wp_at_succ
/-- two spaces alike, and a third of the call's own -/
def Three (w : World) (p0 p pr : Nat) (S0 S : Sp) (E : List (Nat × Obj)) (W : World) : Prop := ∃ f0 fs gs, Spc W p0 S0 f0 ∧ Spc W p S fs ∧ RSpc W pr S gs ∧ (∀ b ∈ f0, b ∉ fs ∧ b ∉ gs) ∧ (∀ b ∈ fs, b ∉ gs) ∧
  (∀ b ∈ f0, w.heap.size ≤ b) ∧ (∀ b ∈ fs, w.heap.size ≤ b) ∧ (∀ b ∈ gs, w.heap.size ≤ b) ∧ Below w.heap.size w W ∧ ∀ x ∈ E, x.1 ∉ f0 ∧ x.1 ∉ fs ∧ x.1 ∉ gs ∧ W.heap[x.1]? = some x.2
section
variable {w W W' : World} {q p0 p pr : Nat} {S0 S0' S : Sp} {E : List (Nat × Obj)} {f0 : List Nat}
theorem Three.two (h : Three w p0 p pr S0 S E W) : Two w p pr S S E W := by
  obtain ⟨f0, fs, gs, h1, h2, h3, h4, h5, h6, h7, h8, h9, h10⟩ := h
  exact ⟨fs, gs, h2, h3, h5, h7, h8, h9, fun x hx => (h10 x hx).2⟩
theorem Three.step {r : Ending → Prop} {f : FuncId} {args : Array Value} (h : Three w p0 p pr S0 S E W) (hc : ∀ f0, Spc W p0 S0 f0 → Calls Try.prog f args W fun e w' => Stp W p0 f0 S0' w' ∧ r e) : Calls Try.prog f args W fun e w' => Three w p0 p pr S0' S E w' ∧ r e := by
  obtain ⟨f0, fs, gs, h1, h2, h3, h4, h5, h6, h7, h8, h9, h10⟩ := h
  refine (hc f0 h1).mono ?_
  rintro e W' ⟨⟨f0', k1, k2, k3⟩, he⟩
  have hfl := h2.lt
  have hgl := h3.lt
  refine ⟨⟨f0', fs, gs, k1, h2.kp k2 (fun b hb q => (h4 b q).1 hb), h3.kp k2 (fun b hb q => (h4 b q).2 hb), fun b hb => ?_, h5, fun b hb => (k3 b hb).elim (h6 b) (fun q => Nat.le_trans h9.size q), h7, h8, k2.to_below h9 h6, fun x hx => ⟨fun q => ?_, (h10 x hx).2.1, (h10 x hx).2.2.1, k2.at (h10 x hx).2.2.2 (h10 x hx).1⟩⟩, he⟩
  · rcases k3 b hb with c | c
    · exact h4 b c
    · exact ⟨fun q => by have := hfl b q; omega, fun q => by have := hgl b q; omega⟩
  · rcases k3 _ q with q | q
    · exact (h10 x hx).1 q
    · have := lt_of_heap (h10 x hx).2.2.2; omega
theorem three_mk {W1 X : World} {p2 pr2 : Nat} {fs2 gs2 : List Nat} (h : Two w p pr S S [(q, plo p pr)] W1) (hq : w.heap.size ≤ q) (hb : Below W1.heap.size W1 X) (hs2 : Spc X p2 S fs2) (hn2 : ∀ b ∈ fs2, W1.heap.size ≤ b) (hs3 : RSpc X pr2 S gs2) (hn3 : ∀ b ∈ gs2, W1.heap.size ≤ b) (hd : ∀ b ∈ fs2, b ∉ gs2) :
    Three w p p2 pr2 S S [(q, plo p2 pr2)] ((X.setCell ⟨q, 0, none⟩ (.pointer (some ⟨p2, 0, none⟩))).setCell ⟨q, 1, none⟩ (.pointer (some ⟨pr2, 0, none⟩))) := by
  obtain ⟨fs, gs, h1, h2, h3, h4, h5, h6, h7⟩ := h
  have hQ := h7 _ (List.Mem.head _)
  have hql := lt_of_heap hQ.2.2
  simp only at hql hQ
  have hwl := h6.size
  have k : Kp [q] X ((X.setCell ⟨q, 0, none⟩ (.pointer (some ⟨p2, 0, none⟩))).setCell ⟨q, 1, none⟩ (.pointer (some ⟨pr2, 0, none⟩))) := ((Kp.refl _ _).setCell (.inl (by simp)) _).setCell (.inl (by simp)) _
  have hh : X.heap[q]? = some (plo p pr) := below_at hb hQ.2.2 hql
  have hfl := h1.lt
  have hgl := h2.lt
  refine ⟨fs, fs2, gs2, (h1.below hb).kp k ?_, hs2.kp k ?_, hs3.kp k ?_, fun b hb' => ⟨fun c => ?_, fun c => ?_⟩, hd, h4, fun b c => Nat.le_trans hwl (hn2 b c), fun b c => Nat.le_trans hwl (hn3 b c), ?_, fun x hx => ?_⟩
  · intro b c d; simp only [List.mem_singleton] at d; subst d; exact hQ.1 c
  · intro b c d; simp only [List.mem_singleton] at d; subst d; have := hn2 b c; omega
  · intro b c d; simp only [List.mem_singleton] at d; subst d; have := hn3 b c; omega
  · have := hn2 b c; have := hfl b hb'; omega
  · have := hn3 b c; have := hfl b hb'; omega
  · exact ((h6.trans (hb.mono hwl)).setCell (p := ⟨q, 0, none⟩) hq _).setCell (p := ⟨q, 1, none⟩) hq _
  · obtain rfl : x = _ := by simpa using hx
    refine ⟨hQ.1, fun c => by have := hn2 _ c; omega, fun c => by have := hn3 _ c; omega, ?_⟩
    have e1 := heap_setCell_same X q 0 _ _ (.pointer (some ⟨p2, 0, none⟩)) hh
    have e2 := heap_setCell_same _ q 1 _ _ (.pointer (some ⟨pr2, 0, none⟩)) e1
    simpa [plo] using e2
set_option maxRecDepth 100000 in
set_option maxHeartbeats 4000000 in
theorem do7_any (h : Two w p pr S S [(q, plo p pr)] W) (n a b t v : Int) (hq : w.heap.size ≤ q) (hl : S.last ≤ 1152921504606846976) : Calls Try.prog 20 #[.pointer (some ⟨q, 0, none⟩), opv 7 n a b t v] W fun e w' => e = .returned (.bool true) ∧ ∃ p' pr', Two w p' pr' S S [(q, plo p' pr')] w' := by
  have hB := Two.alloc h (opo 7 n a b t v)
  have b0 := hB.keep (Below.refl _ _).drew
  obtain ⟨x2, x3⟩ := hB.qs
  obtain ⟨x4, x5, x6, x7, x8, x9⟩ := hB.os
  unfold opo at x2 x3 x4 x5 x6 x7 x8 x9
  unfold opv
  go_enter Try.func20, Try.ntmps20
  go_upto_region 30 with (fail)
  go_cut [] (fun W' => Hid (∃ p2 pr2, Three w p p2 pr2 S S [(q, plo p2 pr2)] W'))
  case first =>
    have HCA : Hid (∀ X, Below (W.alloc (opo 7 n a b t v)).heap.size (W.alloc (opo 7 n a b t v)) X → Calls Try.prog 28 #[.pointer (some ⟨p, 0, none⟩)] X (CopyRes X S)) := by
      intro X hX
      obtain ⟨fs, gs, h1, -⟩ := hB.keep hX
      exact copy_spc h1
    have HRA : Hid (∀ X, Below (W.alloc (opo 7 n a b t v)).heap.size (W.alloc (opo 7 n a b t v)) X → Calls Try.prog 56 #[.pointer (some ⟨pr, 0, none⟩)] X (CopyPost X S)) := by
      intro X hX
      obtain ⟨fs, gs, h1, h2, -⟩ := hB.keep hX
      exact rcopy_spc h2
    have hdr : Below (W.alloc (opo 7 n a b t v)).heap.size (W.alloc (opo 7 n a b t v)) (W.alloc (opo 7 n a b t v)).drew := (Below.refl _ _).drew
    go_region_with (first | (go_at_call 28; refine (HCA.out _ ?_).mono ?_; exact hdr; rintro e wx ⟨hbx, p2, fs2, rfl, hs2, hn2⟩; have hx := hB.keep (undrew hbx); have g2 := hx.qs.1; have g3 := hx.qs.2; have f2 := hx.free (List.Mem.tail _ (List.Mem.head _)) 0; have f3 := hx.free (List.Mem.tail _ (List.Mem.head _)) 1) | (go_at_call 28; refine (HCA.out _ ?_).mono ?_; exact undrew hby; rintro e wx ⟨hbx, p2, fs2, rfl, hs2, hn2⟩; have hx := (hB.keep (undrew hby)).keep hbx; have g2 := hx.qs.1; have g3 := hx.qs.2; have f2 := hx.free (List.Mem.tail _ (List.Mem.head _)) 0; have f3 := hx.free (List.Mem.tail _ (List.Mem.head _)) 1) | (go_at_call 56; refine (HRA.out _ ?_).mono ?_; exact hdr; rintro e wy ⟨hby, pr2, gs2, rfl, hs3, hn3⟩; have hy := hB.keep (undrew hby); have g2 := hy.qs.1; have g3 := hy.qs.2; have f2 := hy.free (List.Mem.tail _ (List.Mem.head _)) 0; have f3 := hy.free (List.Mem.tail _ (List.Mem.head _)) 1) | (go_at_call 56; refine (HRA.out _ ?_).mono ?_; exact undrew hbx; rintro e wy ⟨hby, pr2, gs2, rfl, hs3, hn3⟩; have hy := (hB.keep (undrew hbx)).keep hby; have g2 := hy.qs.1; have g3 := hy.qs.2; have f2 := hy.free (List.Mem.tail _ (List.Mem.head _)) 0; have f3 := hy.free (List.Mem.tail _ (List.Mem.head _)) 1))
    all_goals
      have HT := Hid.mk (three_mk hB.lst hq ((undrew hbx).trans (hby.mono (undrew hbx).size)) (hs2.below hby) hn2 hs3 (fun b hb => Nat.le_trans (undrew hbx).size (hn3 b hb)) (fun b hb c => by have := hs2.lt b hb; have := hn3 b c; omega))
      clear hbx hby hs2 hs3 hn2 hn3 hx hy HCA HRA hdr
      go_wp2_with fail
      go_meet
      case rel => exact ⟨_, _, HT.out⟩
  case rest =>
    obtain ⟨p2, pr2, h1⟩ := hcut.out
    clear hcut x2 x3 x4 x5 x6 x7 x8 x9 b0 hB
    go_wp2_with fail
    refine (h1.step (fun f0 h0 => put_spc h0 1 1 77)).mono ?_
    rintro e w1 ⟨h2, rfl⟩
    go_wp2_with fail
    refine (h2.step (fun f0 h0 => take_spc h0 5 (by rw [put_last]; exact hl))).mono ?_
    rintro e w2 ⟨h3, rfl⟩
    go_wp2_with fail
    refine (h3.step (fun f0 h0 => let_spc h0 1)).mono ?_
    rintro e w3 ⟨h4, rfl⟩
    have HF := Hid.mk h4.two
    go_wp2_with fail
    go_ret
    exact ⟨rfl, _, _, HF.out⟩
end
end Go.Proofs.Ytkooogllajmkeaa
