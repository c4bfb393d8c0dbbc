/- Parts Hd He Hf Hg Hu Hv Hw Hx, put together. -/
import Derived.Test.YtkooogllajmkeaaMo16
import Derived.Test.YtkooogllajmkeaaMo17
import Derived.LoopN
/- The document's Free and Words (24). -/
namespace Go.Proofs.Ytkooogllajmkeaa
open Go.RowKit
set_option pp.deepTerms true
attribute [local go_sem ↓] Go.wp_at_zero Go.wp_at_succ
/-- all of these are let go -/
def freeS (S : Sp) (ks : List (Int × Int)) : Sp := ks.foldl (fun S x => (S.let_ x.1).2) S
theorem freeS_snoc (S : Sp) (ks : List (Int × Int)) {i : Nat} (hi : i < ks.length) : freeS S (ks.take (i + 1)) = ((freeS S (ks.take i)).let_ ks[i].1).2 := by
  unfold freeS
  rw [List.take_succ_eq_append_getElem hi, List.foldl_append]
  rfl
section
variable {w W : World} {F : List Asr} {q pr : Nat} {S R : Sp} {L : Lk} {sz ca : Int}
set_option maxRecDepth 100000 in
set_option maxHeartbeats 4000000 in
theorem qfree_ok (h : Sep w (rsA pr R :: qlA q pr sz ca L :: F) W) (hkl : L.kept.length ≤ 1000000) :
    Calls Try.prog 71 #[.pointer (some ⟨q, 0, none⟩)] W fun e w' => Sep w (rsA pr (freeS R L.kept) :: qlA q pr sz ca ⟨L.live, []⟩ :: F) w' ∧ e = .returned (.int .i64 L.kept.length) := by
  have hA : Sep w (qlA q pr sz ca L :: rsA pr R :: F) W := h.pick 1 rfl
  obtain ⟨ao, c, ak, ck, hX⟩ := ql_open hA
  obtain ⟨n, hn⟩ : ∃ n, L.kept.length = n := ⟨_, rfl⟩
  rw [hn] at hX hkl ⊢
  have HN := Hid.mk hn
  have hX0 : Sep w (rsA pr R :: bx q (.cells #[.pointer (some ⟨pr, 0, none⟩), .int .i64 sz, .int .i64 ca, .slice ao L.live.length c, .slice ak n ck] 131) :: rw_ 0 39 2 (.slice ao L.live.length c) L.live.length (wcells L.live) :: rw_ 0 39 2 (.slice ak n ck) n (wcells L.kept) :: F) W := hX.pick 3 rfl
  have c4 := hX.cell (b := q) (j := 4) (List.Mem.head _) rfl
  have H0 := Hid.mk hX0
  clear hX h hA hn hX0
  go_enter Try.func71, Try.ntmps71
  go_wp2_with fail
  go_loopw [4] (fun i wr => ∃ k : Nat, i = .int .i64 k ∧ k ≤ n ∧ Hid (Sep w (rsA pr (freeS R (L.kept.take k)) :: bx q (.cells #[.pointer (some ⟨pr, 0, none⟩), .int .i64 sz, .int .i64 ca, .slice ao L.live.length c, .slice ak n ck] 131) :: rw_ 0 39 2 (.slice ao L.live.length c) L.live.length (wcells L.live) :: rw_ 0 39 2 (.slice ak n ck) n (wcells L.kept) :: F) wr)) (fun i _ => n - (intOf i).toNat)
  case atStart => exact ⟨0, rfl, by omega, H0⟩
  case round =>
    clear H0 c4
    obtain ⟨k, rfl, hk, HS⟩ := hrel
    have c0 := HS.out.cell (b := q) (j := 0) (List.Mem.tail _ (List.Mem.head _)) rfl
    have c4 := HS.out.cell (b := q) (j := 4) (List.Mem.tail _ (List.Mem.head _)) rfl
    have cf := HS.out.free (b := q) (List.Mem.tail _ (List.Mem.head _)) 4
    by_cases hlt : k < n
    · have hk1 : k < L.kept.length := by have := HN.out; omega
      have hrow := HS.out.owns (base := 0) (T := 39) (n := 2) (v := .slice ak n ck) (m := n) (xs := wcells L.kept) (List.Mem.tail _ (List.Mem.tail _ (List.Mem.tail _ (List.Mem.head _))))
      obtain ⟨g, ck', ev⟩ := row_shape hrow (by omega)
      simp only [Value.slice.injEq, true_and] at ev
      obtain ⟨rfl, rfl⟩ := ev
      have e0 := row_cell hrow (j := k * 2) (v := .int .i64 L.kept[k].1) (wcells_fst hk1)
      have HE : Hid (∀ W' : World, W'.ownsRow 0 39 2 (.slice (some ⟨g, 0, none⟩) n ck) n (wcells L.kept) → W'.cell? ⟨g, k * 2, none⟩ = some (.int .i64 L.kept[k].1)) := fun W' hr => row_cell hr (j := k * 2) (wcells_fst hk1)
      have hz := freeS_snoc R L.kept hk1
      obtain ⟨y1, hy⟩ : ∃ y1, L.kept[k].1 = y1 := ⟨_, rfl⟩
      rw [hy] at e0 HE hz
      have HZ := Hid.mk hz
      have d0 := HS.out.drew
      have i1 : (0 : Int) ≤ (k : Int) := by omega
      have i2 : (k : Int) < (n : Int) := by omega
      clear hz hy hk1 hrow cf
      obtain ⟨S1, hS1⟩ : ∃ S1, freeS R (L.kept.take k) = S1 := ⟨_, rfl⟩
      rw [hS1] at d0 HZ HS
      clear hS1
      go_upto_region 5 with (fail)
      go_region_held3 (fun W' => W'.cell? ⟨q, 0, none⟩ = some (.pointer (some ⟨pr, 0, none⟩)) ∧ W'.cell? ⟨q, 4, none⟩ = some (.slice (some ⟨g, 0, none⟩) n ck) ∧ W'.cell? ⟨g, k * 2, none⟩ = some (.int .i64 y1)) (first | exact ⟨f0, f1, f2⟩ | exact ⟨c0, c4, e0⟩) ((go_at_call 50; refine (rlet_sep (w := w) (pr := pr) (S := S1) (F := bx q (.cells #[.pointer (some ⟨pr, 0, none⟩), .int .i64 sz, .int .i64 ca, .slice ao L.live.length c, .slice (some ⟨g, 0, none⟩) n ck] 131) :: rw_ 0 39 2 (.slice ao L.live.length c) L.live.length (wcells L.live) :: rw_ 0 39 2 (.slice (some ⟨g, 0, none⟩) n ck) n (wcells L.kept) :: F) ?_ y1).mono ?_; exact d0; rintro e wx ⟨hx, rfl⟩; have f0 := hx.cell (b := q) (j := 0) (List.Mem.tail _ (List.Mem.head _)) rfl; have f1 := hx.cell (b := q) (j := 4) (List.Mem.tail _ (List.Mem.head _)) rfl; have f2 := HE.out wx (hx.owns (List.Mem.tail _ (List.Mem.tail _ (List.Mem.tail _ (List.Mem.head _)))))))
      have HW := Hid.mk hx
      clear hx f0 f1 f2 c0 c4 e0 d0
      go_wp2_with fail
      exact ⟨⟨k + 1, by go_num, by omega, by rw [HZ.out]; exact HW.out⟩, by simp [intOf]; omega⟩
    · obtain rfl : k = n := by omega
      have ht : L.kept.take k = L.kept := List.take_of_length_le (by have := HN.out; omega)
      rw [ht] at HS
      clear ht
      go_wp2_with fail
      go_ret
      have P := (((HS.out.lose 3).pick 1 rfl).store 4 (.slice none 0 0))
      have P2 : Sep w (bx q (.cells #[.pointer (some ⟨pr, 0, none⟩), .int .i64 sz, .int .i64 ca, .slice ao L.live.length c, .slice none 0 0] 131) :: rw_ 0 39 2 (.slice ao L.live.length c) L.live.length (wcells L.live) :: rw_ 0 39 2 (.slice none 0 0) 0 [] :: rsA pr (freeS R L.kept) :: F) _ := ((((P.rnil 0 39 2).pick 2 rfl).pick 1 rfl).pick 3 rfl).pick 3 rfl
      exact ⟨(ql_close (L := ⟨L.live, []⟩) P2 rfl rfl).pick 1 rfl, rfl⟩
end
end Go.Proofs.Ytkooogllajmkeaa
/- A link laid open; Kept, Live, Top, Words beside other parts; the document's Words (24). -/
namespace Go.Proofs.Ytkooogllajmkeaa
open Go.RowKit
set_option pp.deepTerms true
attribute [local go_sem ↓] Go.wp_at_zero Go.wp_at_succ
section
variable {w W : World} {F : List Asr} {p b : Nat} {S : Sp} {L : Lk} {sz ca : Int}
theorem lk_open (h : Sep w (lkA b p sz ca L :: F) W) : ∃ ao c ak ck, Sep w (bx b (.cells #[.pointer (some ⟨p, 0, none⟩), .int .i64 sz, .int .i64 ca, .slice ao L.live.length c, .slice ak L.kept.length ck] 97 (0, 0)) ::
    rw_ 0 39 2 (.slice ao L.live.length c) L.live.length (wcells L.live) :: rw_ 0 39 2 (.slice ak L.kept.length ck) L.kept.length (wcells L.kept) :: F) W := by
  obtain ⟨hb, us, fs, gs, rfl, ⟨lv, kv, h1, rfl⟩, h2, h3, h4⟩ := h
  obtain ⟨ao, c, rfl⟩ := own_shape h1.live
  obtain ⟨ak, ck, rfl⟩ := own_shape h1.kept
  have hd0 := List.nodup_cons.1 h1.nodup
  have hd1 := List.nodup_append.1 hd0.2
  refine ⟨ao, c, ak, ck, hb, _, [b], _, rfl, ⟨rfl, h1.head⟩, ⟨_, _, rfl, ⟨rfl, h1.live⟩, ⟨_, gs, rfl, ⟨rfl, h1.kept⟩, h2, fun x hx => h3 x ?_, fun x hx => h4 x ?_⟩, fun x hx c => ?_, fun x hx => h4 x ?_⟩, fun x hx c => ?_, fun x hx => h4 x ?_⟩
  · exact List.mem_cons_of_mem _ (List.mem_append.2 (.inr hx))
  · exact List.mem_cons_of_mem _ (List.mem_append.2 (.inr hx))
  · rcases List.mem_append.1 c with q | q
    · exact hd1.2.2 x hx x q rfl
    · exact h3 x (List.mem_cons_of_mem _ (List.mem_append.2 (.inl hx))) q
  · exact List.mem_cons_of_mem _ (List.mem_append.2 (.inl hx))
  · obtain rfl : x = b := by simpa using hx
    rcases List.mem_append.1 c with q | q
    · exact hd0.1 (List.mem_append.2 (.inl q))
    · rcases List.mem_append.1 q with q | q
      · exact hd0.1 (List.mem_append.2 (.inr q))
      · exact h3 x (List.Mem.head _) q
  · obtain rfl : x = b := by simpa using hx
    exact List.Mem.head _
theorem lk_close {lv kv : Value} {n m : Nat} (h : Sep w (bx b (.cells #[.pointer (some ⟨p, 0, none⟩), .int .i64 sz, .int .i64 ca, lv, kv] 97 (0, 0)) :: rw_ 0 39 2 lv n (wcells L.live) :: rw_ 0 39 2 kv m (wcells L.kept) :: F) W) (hn : n = L.live.length) (hm : m = L.kept.length) : Sep w (lkA b p sz ca L :: F) W := by
  subst hn hm
  obtain ⟨hb, us, fs, gs, rfl, ⟨rfl, h1⟩, ⟨gs1, gs2, rfl, ⟨rfl, h2⟩, ⟨gs3, gs4, rfl, ⟨rfl, h5⟩, h6, h7, h8⟩, h9, h10⟩, h3, h4⟩ := h
  refine ⟨hb, lfoot b lv kv ++ gs4, lfoot b lv kv, gs4, rfl, ⟨lv, kv, ⟨h1, h2, h5, ?_⟩, rfl⟩, h6, fun x hx c => ?_, fun x hx => ?_⟩
  · refine List.nodup_cons.2 ⟨fun q => ?_, List.nodup_append.2 ⟨by cases lv.ownBlock <;> simp, by cases kv.ownBlock <;> simp, fun x hx y hy e => ?_⟩⟩
    · rcases List.mem_append.1 q with q | q
      · exact h3 b (by simp) (List.mem_append.2 (.inl q))
      · exact h3 b (by simp) (List.mem_append.2 (.inr (List.mem_append.2 (.inl q))))
    · subst e
      exact h9 x hx (List.mem_append.2 (.inl hy))
  · simp only [lfoot, List.mem_cons, List.mem_append] at hx
    rcases hx with rfl | q | q
    · exact h3 x (by simp) (List.mem_append.2 (.inr (List.mem_append.2 (.inr c))))
    · exact h9 x q (List.mem_append.2 (.inr c))
    · exact h7 x q c
  · simp only [lfoot, List.mem_cons, List.mem_append] at hx
    rcases hx with rfl | q | q
    · exact h4 x (by simp)
    · exact h10 x q
    · exact h8 x q
theorem Sep.seg0 (h : Sep w (spA p S :: lkA b p sz ca L :: F) W) : Seg w p b sz ca S L [] W := by
  obtain ⟨hb, us, fs, gs0, rfl, h1, ⟨hs, ks, rfl, h2, hF, h23, hge2⟩, h13, hge1⟩ := h
  exact ⟨fs, hs, h1, h2, fun x hx q => h13 x hx (List.mem_append.2 (.inl q)), hge1, hge2, hb, by simp⟩
theorem kept_sep (h : Sep w (spA p S :: lkA b p sz ca L :: F) W) (hn : L.kept.length ≤ 1000000) : Calls Try.prog 34 #[.pointer (some ⟨b, 0, none⟩)] W fun e w' =>
    ∃ ao c, e = .returned (.slice ao L.kept.length c) ∧ Sep w (rw_ 0 39 2 (.slice ao L.kept.length c) L.kept.length (wcells L.kept) :: spA p S :: lkA b p sz ca L :: F) w' ∧ Below W.heap.size W w' := by
  refine (kept24_seg h.seg0 hn).mono ?_
  rintro e w' ⟨-, hb, v, rfl, hr⟩
  obtain ⟨ao, c, rfl⟩ := own_shape hr
  exact ⟨ao, c, rfl, h.row hb hr, hb⟩
theorem live_sep (h : Sep w (spA p S :: lkA b p sz ca L :: F) W) (hn : L.live.length ≤ 1000000) : Calls Try.prog 35 #[.pointer (some ⟨b, 0, none⟩)] W fun e w' =>
    ∃ ao c, e = .returned (.slice ao L.live.length c) ∧ Sep w (rw_ 0 39 2 (.slice ao L.live.length c) L.live.length (wcells L.live) :: spA p S :: lkA b p sz ca L :: F) w' ∧ Below W.heap.size W w' := by
  refine (live24_seg h.seg0 hn).mono ?_
  rintro e w' ⟨-, hb, v, rfl, hr⟩
  obtain ⟨ao, c, rfl⟩ := own_shape hr
  exact ⟨ao, c, rfl, h.row hb hr, hb⟩
theorem top_sep (h : Sep w (spA p S :: lkA b p sz ca L :: F) W) (hn : L.live.length ≤ 1000000) : Calls Try.prog 33 #[.pointer (some ⟨b, 0, none⟩)] W fun e w' =>
    Sep w (spA p S :: lkA b p sz ca L :: F) w' ∧ Below W.heap.size W w' ∧ e = .returned (.tuple #[.agg #[.int .i64 (topOf L.live).1.1, .int .i64 (topOf L.live).1.2], .bool (topOf L.live).2]) := by
  refine (top24_seg h.seg0 hn).mono ?_
  rintro e w' ⟨-, hb, he⟩
  exact ⟨h.keep hb, hb, he⟩
end
/-- how many words -/
def wsum (l : List (Int × Int)) : Int := (l.map (·.2)).sum
def Wok (l : List (Int × Int)) : Prop := l.length ≤ 1000000 ∧ ∀ x ∈ l, 0 ≤ x.2 ∧ x.2 ≤ 1048576
theorem wsum_snoc (l : List (Int × Int)) {i : Nat} (hi : i < l.length) : wsum (l.take (i + 1)) = wsum (l.take i) + l[i].2 := by
  unfold wsum
  rw [List.take_succ_eq_append_getElem hi, List.map_append, List.sum_append]
  simp only [List.map_cons, List.map_nil, List.sum_cons, List.sum_nil]
  omega
theorem wsum_bd : ∀ {l : List (Int × Int)}, (∀ x ∈ l, 0 ≤ x.2 ∧ x.2 ≤ 1048576) → 0 ≤ wsum l ∧ wsum l ≤ 1048576 * (l.length : Int)
  | [], _ => by simp [wsum]
  | x :: l, h => by
    have h1 := h x (List.Mem.head _)
    have h2 := wsum_bd (l := l) (fun y hy => h y (List.mem_cons_of_mem _ hy))
    simp only [wsum, List.map_cons, List.sum_cons, List.length_cons] at h2 ⊢
    omega
theorem wsum_take {l : List (Int × Int)} (h : Wok l) (i : Nat) : 0 ≤ wsum (l.take i) ∧ wsum (l.take i) ≤ 1048576000000 := by
  have := wsum_bd (l := l.take i) (fun x hx => h.2 x (List.mem_of_mem_take hx))
  have h1 := h.1
  rw [List.length_take] at this
  omega
set_option maxRecDepth 100000 in
set_option maxHeartbeats 4000000 in
theorem qwords_any {w : World} {v : Value} {xs : List (Int × Int)} (h : Rd w v xs) (hx : Wok xs) : Calls Try.prog 73 #[v] w fun e w' => e = .returned (.int .i64 (wsum xs)) ∧ w' = w := by
  obtain ⟨ao, c, rfl⟩ := h.shape
  obtain ⟨n, hn⟩ : ∃ n, xs.length = n := ⟨_, rfl⟩
  have hn0 := hx.1
  have HX := Hid.mk hx
  have HR := Hid.mk h
  rw [hn] at HR hn0 ⊢
  have HN := Hid.mk hn
  clear h hx hn
  go_enter Try.func73, Try.ntmps73
  go_wp2_with fail
  go_loop [3, 4] (fun t i => ∃ k : Nat, k ≤ n ∧ i = .int .i64 k ∧ t = .int .i64 (wsum (xs.take k))) (fun _ i => n - (intOf i).toNat)
  case atStart => exact ⟨0, by omega, rfl, by simp [wsum]⟩
  case round =>
    obtain ⟨k, hk, rfl, rfl⟩ := hrel
    by_cases hlt : k < n
    · have hk1 : k < xs.length := by rw [HN.out]; exact hlt
      obtain ⟨b, o, c', ev, -, hcl⟩ := HR.out.some (by omega)
      simp only [Value.slice.injEq] at ev
      obtain ⟨rfl, -, -⟩ := ev
      obtain ⟨-, e1⟩ := hcl k hk1
      have hs := wsum_snoc xs hk1
      have hb := wsum_take HX.out k
      have hb1 := HX.out.2 _ (List.getElem_mem hk1)
      obtain ⟨y, hy⟩ : ∃ y, xs[k].2 = y := ⟨_, rfl⟩
      rw [hy] at hs e1 hb1
      have HS := Hid.mk hs
      clear hs hcl hk1 hy
      obtain ⟨t, ht⟩ : ∃ t, wsum (xs.take k) = t := ⟨_, rfl⟩
      rw [ht] at HS hb
      rw [ht]
      clear ht
      have hw : IntKind.i64.wrap (t + y) = t + y := by rw [IntKind.wrap_i64]; omega
      go_wp2_with fail
      exact ⟨⟨k + 1, by omega, by go_num, by rw [HS.out]⟩, by simp [intOf]; omega⟩
    · obtain rfl : k = n := by omega
      have ht : xs.take k = xs := List.take_of_length_le (by rw [HN.out]; exact Nat.le_refl _)
      rw [ht]
      clear ht
      go_wp2_with fail
      go_ret
      exact ⟨rfl, rfl⟩
end Go.Proofs.Ytkooogllajmkeaa
/- Words, Free and Copy of a link (24). -/
namespace Go.Proofs.Ytkooogllajmkeaa
open Go.RowKit
set_option pp.deepTerms true
attribute [local go_sem ↓] Go.wp_at_zero Go.wp_at_succ
section
variable {w W : World} {F : List Asr} {p b : Nat} {S : Sp} {L : Lk} {sz ca : Int}
set_option maxRecDepth 100000 in
set_option maxHeartbeats 4000000 in
theorem words24_sep (h : Sep w (spA p S :: lkA b p sz ca L :: F) W) (hl : Wok L.live) (hk : Wok L.kept) : Calls Try.prog 40 #[.pointer (some ⟨b, 0, none⟩)] W fun e w' => Sep w (spA p S :: lkA b p sz ca L :: F) w' ∧ e = .returned (.tuple #[.int .i64 (wsum L.live), .int .i64 (wsum L.kept)]) := by
  obtain ⟨n, hn⟩ : ∃ n, L.live.length = n := ⟨_, rfl⟩
  obtain ⟨m, hm⟩ : ∃ m, L.kept.length = m := ⟨_, rfl⟩
  have hn0 := hl.1
  have hm0 := hk.1
  have HC := Hid.mk (live_sep h hl.1)
  rw [hn] at HC hn0
  rw [hm] at hm0
  have HN := Hid.mk (And.intro hn hm)
  have HL := Hid.mk (And.intro hl hk)
  clear h hn hm hl hk
  go_enter Try.func40, Try.ntmps40
  go_wp2_with fail
  refine HC.out.mono ?_
  rintro e w1 ⟨ao, c, rfl, h1, -⟩
  have H1 := Hid.mk h1
  clear HC h1
  go_wp2_with fail
  go_loopw [2, 11] (fun t i wr => ∃ k : Nat, k ≤ n ∧ i = .int .i64 k ∧ t = .int .i64 (wsum (L.live.take k)) ∧ Hid (Sep w (rw_ 0 39 2 (.slice ao n c) n (wcells L.live) :: spA p S :: lkA b p sz ca L :: F) wr)) (fun _ i _ => n - (intOf i).toNat)
  case atStart => exact ⟨0, by omega, rfl, by simp [wsum], H1⟩
  case round =>
    clear H1
    obtain ⟨k, hk, rfl, rfl, HS⟩ := hrel
    by_cases hlt : k < n
    · have hk1 : k < L.live.length := by rw [HN.out.1]; exact hlt
      have hrow := HS.out.owns (List.Mem.head _)
      obtain ⟨g, c', ev⟩ := row_shape hrow (by omega)
      simp only [Value.slice.injEq, true_and] at ev
      obtain ⟨rfl, rfl⟩ := ev
      have e0 := row_cell hrow (j := k * 2) (v := .int .i64 L.live[k].1) (wcells_fst hk1)
      have e1 := row_cell hrow (j := k * 2 + 1) (v := .int .i64 L.live[k].2) (wcells_snd hk1)
      have hs := wsum_snoc L.live hk1
      have hb := wsum_take HL.out.1 k
      have hb1 := HL.out.1.2 _ (List.getElem_mem hk1)
      obtain ⟨⟨y0, y⟩, hy⟩ : ∃ y, L.live[k] = y := ⟨_, rfl⟩
      rw [hy] at hs e0 e1 hb1
      simp only at hs e0 e1 hb1
      have HQ := Hid.mk hs
      have HA := Hid.mk (HS.out.alloc (.cells #[.int .i64 y0, .int .i64 y] 39)).tl
      clear hs hrow hk1 hy
      obtain ⟨t, ht⟩ : ∃ t, wsum (L.live.take k) = t := ⟨_, rfl⟩
      rw [ht] at HQ hb
      rw [ht]
      clear ht
      have hw : IntKind.i64.wrap (t + y) = t + y := by rw [IntKind.wrap_i64]; omega
      go_wp2_with fail
      exact ⟨⟨k + 1, by omega, by go_num, by rw [HQ.out], HA.out⟩, by simp [intOf]; omega⟩
    · obtain rfl : k = n := by omega
      have ht : L.live.take k = L.live := List.take_of_length_le (by rw [HN.out.1]; exact Nat.le_refl _)
      rw [ht]
      have HC := Hid.mk (kept_sep HS.out.tl HL.out.2.1)
      rw [HN.out.2] at HC
      clear ht HS
      go_wp2_with fail
      refine HC.out.mono ?_
      rintro e w2 ⟨ao2, c2, rfl, h1, -⟩
      have H1 := Hid.mk h1
      clear HC h1
      go_wp2_with fail
      go_loopw [3, 23] (fun t i wr => ∃ k : Nat, k ≤ m ∧ i = .int .i64 k ∧ t = .int .i64 (wsum (L.kept.take k)) ∧ Hid (Sep w (rw_ 0 39 2 (.slice ao2 m c2) m (wcells L.kept) :: spA p S :: lkA b p sz ca L :: F) wr)) (fun _ i _ => m - (intOf i).toNat)
      case atStart => exact ⟨0, by omega, rfl, by simp [wsum], H1⟩
      case round =>
        clear H1
        obtain ⟨k, hk, rfl, rfl, HS⟩ := hrel
        by_cases hlt : k < m
        · have hk1 : k < L.kept.length := by rw [HN.out.2]; exact hlt
          have hrow := HS.out.owns (List.Mem.head _)
          obtain ⟨g, c', ev⟩ := row_shape hrow (by omega)
          simp only [Value.slice.injEq, true_and] at ev
          obtain ⟨rfl, rfl⟩ := ev
          have e0 := row_cell hrow (j := k * 2) (v := .int .i64 L.kept[k].1) (wcells_fst hk1)
          have e1 := row_cell hrow (j := k * 2 + 1) (v := .int .i64 L.kept[k].2) (wcells_snd hk1)
          have hs := wsum_snoc L.kept hk1
          have hb := wsum_take HL.out.2 k
          have hb1 := HL.out.2.2 _ (List.getElem_mem hk1)
          obtain ⟨⟨y0, y⟩, hy⟩ : ∃ y, L.kept[k] = y := ⟨_, rfl⟩
          rw [hy] at hs e0 e1 hb1
          simp only at hs e0 e1 hb1
          have HQ := Hid.mk hs
          have HA := Hid.mk (HS.out.alloc (.cells #[.int .i64 y0, .int .i64 y] 39)).tl
          clear hs hrow hk1 hy
          obtain ⟨t, ht⟩ : ∃ t, wsum (L.kept.take k) = t := ⟨_, rfl⟩
          rw [ht] at HQ hb
          rw [ht]
          clear ht
          have hw : IntKind.i64.wrap (t + y) = t + y := by rw [IntKind.wrap_i64]; omega
          go_wp2_with fail
          exact ⟨⟨k + 1, by omega, by go_num, by rw [HQ.out], HA.out⟩, by simp [intOf]; omega⟩
        · obtain rfl : k = m := by omega
          have ht : L.kept.take k = L.kept := List.take_of_length_le (by rw [HN.out.2]; exact Nat.le_refl _)
          rw [ht]
          have HF := Hid.mk HS.out.tl
          clear ht HS
          go_wp2_with fail
          go_ret2
          exact ⟨HF.out, rfl⟩
end
end Go.Proofs.Ytkooogllajmkeaa
/- Free and Copy of a link (24), the program's and the document's. -/
namespace Go.Proofs.Ytkooogllajmkeaa
open Go.RowKit
set_option pp.deepTerms true
attribute [local go_sem ↓] Go.wp_at_zero Go.wp_at_succ
theorem wp_append_rd {W : World} {o : Oper} {a : Act} {K : Act → World → Prop} {Q : Exit → Act → World → Prop} (s x : Operand)
    (ho : o.op = .call { callee := .builtin .append, args := #[s, x], argTypes := #[36, 36] }) (base : Nat) (v xv : Value) {xs ys : List (Int × Int)} (hs : a.eval s = v) (hxv : a.eval x = xv)
    (hown : W.ownsRow base 39 2 v xs.length (wcells xs)) (hx : Rd W xv ys) (hn : xs.length + ys.length ≤ 4194304) (hb : base ≤ W.heap.size)
    (h : ∀ v' w', w'.ownsRow base 39 2 v' (xs ++ ys).length (wcells (xs ++ ys)) → W.grownBy w' v.ownBlock → (v'.ownBlock = v.ownBlock ∨ v'.ownBlock = some W.heap.size) → K (a.put o.dst v') w') :
    o.wp Try.prog a W K Q := by
  obtain ⟨v', w', hr, h2, h3, h4⟩ := run_append_rd o.type hown hx hn hb
  unfold Oper.wp execOp
  simp only [ho, resolve, invoke, builtin, Sem.run_bind, Sem.run_pure, Result.andThen_ok, List.map_toArray, List.map_cons, List.map_nil, hs, hxv, hr]
  exact h v' w' h2 h3 h4
section
variable {w W : World} {F l : List Asr} {p b q pr : Nat} {S R : Sp} {L : Lk} {sz ca : Int}
theorem lk_cells (h : Sep w l W) (hm : lkA b p sz ca L ∈ l) : W.cell? ⟨b, 0, none⟩ = some (.pointer (some ⟨p, 0, none⟩)) ∧ W.cell? ⟨b, 1, none⟩ = some (.int .i64 sz) ∧ W.cell? ⟨b, 2, none⟩ = some (.int .i64 ca) := by
  obtain ⟨fs, ⟨lv, kv, h1, -⟩, -⟩ := h.mem hm
  exact ⟨h1.c.1, h1.c.2.1, h1.c.2.2.1⟩
set_option maxRecDepth 100000 in
set_option maxHeartbeats 4000000 in
theorem free24_sep (h : Sep w (spA p S :: lkA b p sz ca L :: F) W) (hk : L.kept.length ≤ 1000000) : Calls Try.prog 41 #[.pointer (some ⟨b, 0, none⟩)] W fun e w' => Sep w (spA p (freeS S L.kept) :: lkA b p sz ca ⟨L.live, []⟩ :: F) w' ∧ e = .returned (.int .i64 L.kept.length) := by
  obtain ⟨m, hm⟩ : ∃ m, L.kept.length = m := ⟨_, rfl⟩
  have hm0 := hk
  have HC := Hid.mk (kept_sep h hk)
  rw [hm] at HC hm0 ⊢
  have HM := Hid.mk hm
  clear h hm hk
  go_enter Try.func41, Try.ntmps41
  go_wp2_with fail
  refine HC.out.mono ?_
  rintro e w1 ⟨ao, c, rfl, h1, -⟩
  have H1 : Hid (Sep w (spA p (freeS S (L.kept.take 0)) :: rw_ 0 39 2 (.slice ao m c) m (wcells L.kept) :: lkA b p sz ca L :: F) w1) := h1.pick 1 rfl
  clear HC h1
  go_wp2_with fail
  go_loopw [10] (fun i wr => ∃ k : Nat, k ≤ m ∧ i = .int .i64 k ∧ Hid (Sep w (spA p (freeS S (L.kept.take k)) :: rw_ 0 39 2 (.slice ao m c) m (wcells L.kept) :: lkA b p sz ca L :: F) wr)) (fun i _ => m - (intOf i).toNat)
  case atStart => exact ⟨0, by omega, rfl, H1⟩
  case round =>
    clear H1
    obtain ⟨k, hk, rfl, HS⟩ := hrel
    by_cases hlt : k < m
    · have hk1 : k < L.kept.length := by rw [HM.out]; exact hlt
      have hrow := HS.out.owns (base := 0) (T := 39) (n := 2) (v := .slice ao m c) (m := m) (xs := wcells L.kept) (List.Mem.tail _ (List.Mem.head _))
      obtain ⟨g, c', ev⟩ := row_shape hrow (by omega)
      simp only [Value.slice.injEq, true_and] at ev
      obtain ⟨rfl, rfl⟩ := ev
      have e0 := row_cell hrow (j := k * 2) (v := .int .i64 L.kept[k].1) (wcells_fst hk1)
      have e1 := row_cell hrow (j := k * 2 + 1) (v := .int .i64 L.kept[k].2) (wcells_snd hk1)
      have hz := freeS_snoc S L.kept hk1
      obtain ⟨⟨y1, y2⟩, hy⟩ : ∃ y, L.kept[k] = y := ⟨_, rfl⟩
      rw [hy] at hz e0 e1
      simp only at hz e0 e1
      have HZ := Hid.mk hz
      have P1 : Sep w (spA p (freeS S (L.kept.take k)) :: bx wr.heap.size (.cells #[.int .i64 y1, .int .i64 y2] 39) :: rw_ 0 39 2 (.slice (some ⟨g, 0, none⟩) m c) m (wcells L.kept) :: lkA b p sz ca L :: F) (wr.alloc (.cells #[.int .i64 y1, .int .i64 y2] 39)) := (HS.out.alloc (.cells #[.int .i64 y1, .int .i64 y2] 39)).pick 1 rfl
      obtain ⟨S1, hS1⟩ : ∃ S1, freeS S (L.kept.take k) = S1 := ⟨_, rfl⟩
      obtain ⟨X, hX⟩ : ∃ X, wr.alloc (.cells #[.int .i64 y1, .int .i64 y2] 39) = X := ⟨_, rfl⟩
      obtain ⟨B, hB⟩ : ∃ B, wr.heap.size = B := ⟨_, rfl⟩
      have HXB := Hid.mk (And.intro hX hB)
      rw [hS1, hX, hB] at P1
      rw [hS1] at HZ
      have k0 := (lk_cells P1 (List.Mem.tail _ (List.Mem.tail _ (List.Mem.tail _ (List.Mem.head _))))).1
      have k1 := P1.cell (b := B) (j := 0) (List.Mem.tail _ (List.Mem.head _)) rfl
      have d0 := P1.drew
      clear hz hy hk1 hrow P1 hS1 hX hB HS
      go_upto_region 5 with (fail)
      rw [HXB.out.1, HXB.out.2]
      clear e0 e1
      go_region_held3 (fun W' => W'.cell? ⟨b, 0, none⟩ = some (.pointer (some ⟨p, 0, none⟩)) ∧ W'.cell? ⟨B, 0, none⟩ = some (.int .i64 y1)) (first | exact ⟨f0, f1⟩ | exact ⟨k0, k1⟩) ((go_at_call 13; refine (let_sep (w := w) (p := p) (S := S1) (F := bx B (.cells #[.int .i64 y1, .int .i64 y2] 39) :: rw_ 0 39 2 (.slice (some ⟨g, 0, none⟩) m c) m (wcells L.kept) :: lkA b p sz ca L :: F) ?_ y1).mono ?_; exact d0; rintro e wx ⟨hx, rfl⟩; have f0 := (lk_cells hx (List.Mem.tail _ (List.Mem.tail _ (List.Mem.tail _ (List.Mem.head _))))).1; have f1 := hx.cell (b := B) (j := 0) (List.Mem.tail _ (List.Mem.head _)) rfl))
      have HW := Hid.mk (hx.lose 1)
      clear hx f0 f1 k0 k1 d0
      go_wp2_with fail
      exact ⟨⟨k + 1, by omega, by go_num, by rw [HZ.out]; exact HW.out⟩, by simp [intOf]; omega⟩
    · obtain rfl : k = m := by omega
      have ht : L.kept.take k = L.kept := List.take_of_length_le (by rw [HM.out]; exact Nat.le_refl _)
      rw [ht] at HS
      clear ht
      by_cases h0 : 0 < k
      · have z1 : decide (k > 0) = true := by simpa using h0
        have hP := HS.out.pick 2 rfl
        obtain ⟨av, cv, ak, ck, hQ⟩ := lk_open hP
        have c4 := hQ.cell (b := b) (j := 4) (List.Mem.head _) rfl
        have cf := hQ.free (b := b) (List.Mem.head _) 4
        have HQ := Hid.mk hQ
        clear hP hQ HS
        go_wp2_with fail
        go_ret
        have P := ((HQ.out.store 4 (.slice none 0 0)).lose 4).lose 2
        have P2 : Sep w (bx b (.cells #[.pointer (some ⟨p, 0, none⟩), .int .i64 sz, .int .i64 ca, .slice av L.live.length cv, .slice none 0 0] 97) :: rw_ 0 39 2 (.slice av L.live.length cv) L.live.length (wcells L.live) :: rw_ 0 39 2 (.slice none 0 0) 0 [] :: spA p (freeS S L.kept) :: F) _ := (((P.rnil 0 39 2).pick 0 rfl).pick 2 rfl).pick 2 rfl
        exact ⟨(lk_close (L := ⟨L.live, []⟩) P2 rfl rfl).pick 1 rfl, rfl⟩
      · obtain rfl : k = 0 := by omega
        have hkn : L.kept = [] := List.eq_nil_of_length_eq_zero HM.out
        have HF : Hid (Sep w (spA p (freeS S L.kept) :: lkA b p sz ca ⟨L.live, []⟩ :: F) wr) := by
          have := HS.out.lose 1
          have e : (⟨L.live, []⟩ : Lk) = L := by rw [← hkn]
          rw [e]
          exact this
        have HK := Hid.mk hkn
        clear hkn HS
        go_wp2_with fail
        go_ret
        exact ⟨HF.out, rfl⟩
set_option maxRecDepth 100000 in
set_option maxHeartbeats 4000000 in
theorem copy24_sep (h : Sep w (spA p S :: lkA b p sz ca L :: F) W) (hl : L.live.length ≤ 1000000) (hk : L.kept.length ≤ 1000000) (p2 : Nat) : Calls Try.prog 42 #[.pointer (some ⟨b, 0, none⟩), .pointer (some ⟨p2, 0, none⟩)] W fun e w' =>
    ∃ b2, Sep w (lkA b2 p2 sz ca L :: spA p S :: lkA b p sz ca L :: F) w' ∧ e = .returned (.pointer (some ⟨b2, 0, none⟩)) := by
  obtain ⟨c0, c1, c2⟩ := lk_cells h (List.Mem.tail _ (List.Mem.head _))
  have P1 : Sep w (spA p S :: lkA b p sz ca L :: bx W.heap.size (.cells #[.pointer (some ⟨p2, 0, none⟩), .int .i64 sz, .int .i64 ca, .slice none 0 0, .slice none 0 0] 97) :: F) (W.alloc (.cells #[.pointer (some ⟨p2, 0, none⟩), .int .i64 sz, .int .i64 ca, .slice none 0 0, .slice none 0 0] 97)) := (h.alloc _).rot [_] [_, _]
  have HC := Hid.mk (live_sep P1 hl)
  have HK : Hid (L.live.length ≤ 1000000 ∧ L.kept.length ≤ 1000000) := ⟨hl, hk⟩
  clear P1 h hl hk
  go_enter Try.func42, Try.ntmps42
  go_wp2_with fail
  refine (none24_any c0).mono ?_
  rintro e W ⟨rfl, rfl⟩
  go_wp2_with fail
  refine HC.out.mono ?_
  rintro e w1 ⟨ao, c, rfl, h1, -⟩
  have P2 : Sep w (spA p S :: lkA b p sz ca L :: rw_ 0 39 2 (.slice ao L.live.length c) L.live.length (wcells L.live) :: _) w1 := h1.rot [_] [_, _]
  have HC2 := Hid.mk (kept_sep P2 HK.out.2)
  clear P2 h1 HC c0 c1 c2
  go_wp2_with fail
  refine HC2.out.mono ?_
  rintro e w2 ⟨ak, ck, rfl, h2, -⟩
  have P3 := (h2.pick 3 rfl).pick 4 rfl
  have cf := P3.free (b := W.heap.size) (List.Mem.head _)
  have c3 := P3.cell (b := W.heap.size) (j := 3) (List.Mem.head _) rfl
  have c4 := P3.cell (b := W.heap.size) (j := 4) (List.Mem.head _) rfl
  have HP := Hid.mk P3
  clear P3 h2 HC2
  obtain ⟨B, hB⟩ : ∃ B, W.heap.size = B := ⟨_, rfl⟩
  rw [hB] at HP cf c3 c4
  simp only [hB]
  clear hB
  go_wp2_with fail
  go_ret
  exact ⟨B, lk_close (L := L) ((HP.out.store 3 _).store 4 _) rfl rfl, rfl⟩
end
end Go.Proofs.Ytkooogllajmkeaa
/- Calls on no link (24). -/
namespace Go.Proofs.Ytkooogllajmkeaa
open Go.RowKit
set_option pp.deepTerms true
attribute [local go_sem ↓] Go.wp_at_zero Go.wp_at_succ
/-- there is no link at a pointer -/
def NoneAt (pv : Value) (W : World) : Prop := ∀ W' : World, Below W.heap.size W W' → Calls Try.prog 64 #[pv] W' fun e w' => e = .returned (.bool true) ∧ w' = W'
theorem noneAt_nil (W : World) : NoneAt (.pointer none) W := by
  intro W' _
  go_enter Try.func64, Try.ntmps64
  go_wp2_with fail
  go_ret
  exact ⟨rfl, rfl⟩
theorem noneAt_zero {W : World} {b : Nat} (h : W.cell? ⟨b, 0, none⟩ = some (.pointer none)) : NoneAt (.pointer (some ⟨b, 0, none⟩)) W := by
  intro W' hb
  have c0 := keep_be hb h
  clear h hb
  go_enter Try.func64, Try.ntmps64
  go_wp2_with fail
  go_ret
  exact ⟨rfl, rfl⟩
theorem NoneAt.below {pv : Value} {W W' : World} (h : NoneAt pv W) (k : Below W.heap.size W W') : NoneAt pv W' := fun W'' k' => h W'' (k.trans (k'.mono k.size))
section
variable {W : World} {pv : Value}
set_option maxRecDepth 100000 in
theorem push_none (h : NoneAt pv W) (m : Int) : Calls Try.prog 31 #[pv, .int .i64 m] W fun e w' => Below W.heap.size W w' ∧ e = .returned (.tuple #[.agg #[.int .i64 0, .int .i64 0], .int .i64 1]) := by
  have HB := Hid.mk ((Below.refl W.heap.size W).alloc (Nat.le_refl _) (.cells #[.int .i64 0, .int .i64 0] 39))
  have HC := Hid.mk (h _ HB.out)
  clear h
  go_enter Try.func31, Try.ntmps31
  go_wp2_with fail
  refine HC.out.mono ?_
  rintro e W ⟨rfl, rfl⟩
  go_wp2_with fail
  refine bodyPost_ret (v := .tuple #[.agg #[.int .i64 0, .int .i64 0], .int .i64 1]) (by simp [results, Try.results31, go_sem]) rfl ⟨HB.out, rfl⟩
set_option maxRecDepth 100000 in
theorem pop_nil (h : NoneAt pv W) : Calls Try.prog 32 #[pv] W fun e w' => Below W.heap.size W w' ∧ e = .returned (.int .i64 1) := by
  have HC := Hid.mk (h _ (Below.refl _ _))
  clear h
  go_enter Try.func32, Try.ntmps32
  go_wp2_with fail
  refine HC.out.mono ?_
  rintro e W ⟨rfl, rfl⟩
  go_wp2_with fail
  go_ret
  exact ⟨Below.refl _ _, rfl⟩
set_option maxRecDepth 100000 in
theorem top_nil (h : NoneAt pv W) : Calls Try.prog 33 #[pv] W fun e w' => Below W.heap.size W w' ∧ e = .returned (.tuple #[.agg #[.int .i64 0, .int .i64 0], .bool false]) := by
  have HB := Hid.mk ((Below.refl W.heap.size W).alloc (Nat.le_refl _) (.cells #[.int .i64 0, .int .i64 0] 39))
  have HC := Hid.mk (h _ HB.out)
  clear h
  go_enter Try.func33, Try.ntmps33
  go_wp2_with fail
  refine HC.out.mono ?_
  rintro e W ⟨rfl, rfl⟩
  go_wp2_with fail
  refine bodyPost_ret (v := .tuple #[.agg #[.int .i64 0, .int .i64 0], .bool false]) (by simp [results, Try.results33, go_sem]) rfl ⟨HB.out, rfl⟩
set_option maxRecDepth 100000 in
theorem live_nil (h : NoneAt pv W) : Calls Try.prog 35 #[pv] W fun e w' => Below W.heap.size W w' ∧ e = .returned (.slice none 0 0) := by
  have HC := Hid.mk (h _ (Below.refl _ _))
  clear h
  go_enter Try.func35, Try.ntmps35
  go_wp2_with fail
  refine HC.out.mono ?_
  rintro e W ⟨rfl, rfl⟩
  go_wp2_with fail
  go_ret
  exact ⟨Below.refl _ _, rfl⟩
set_option maxRecDepth 100000 in
theorem kept_nil (h : NoneAt pv W) : Calls Try.prog 34 #[pv] W fun e w' => Below W.heap.size W w' ∧ e = .returned (.slice none 0 0) := by
  have HC := Hid.mk (h _ (Below.refl _ _))
  clear h
  go_enter Try.func34, Try.ntmps34
  go_wp2_with fail
  refine HC.out.mono ?_
  rintro e W ⟨rfl, rfl⟩
  go_wp2_with fail
  go_ret
  exact ⟨Below.refl _ _, rfl⟩
set_option maxRecDepth 100000 in
theorem words_nil (h : NoneAt pv W) : Calls Try.prog 40 #[pv] W fun e w' => Below W.heap.size W w' ∧ e = .returned (.tuple #[.int .i64 0, .int .i64 0]) := by
  have HH := Hid.mk h
  clear h
  go_enter Try.func40, Try.ntmps40
  go_wp2_with fail
  refine (live_nil HH.out).mono ?_
  rintro e w1 ⟨hb1, rfl⟩
  have HB := Hid.mk hb1
  have HC := Hid.mk (kept_nil (HH.out.below hb1))
  clear hb1
  have z : decide ((0 : Int) < 0) = false := rfl
  go_wp2_with fail
  refine wp_loop_rounds 1 ?_
  rw [rounds_succ]
  go_wp2_with fail
  refine HC.out.mono ?_
  rintro e w2 ⟨hb2, rfl⟩
  have HB2 := Hid.mk (HB.out.trans (hb2.mono HB.out.size))
  clear hb2
  go_wp2_with fail
  refine wp_loop_rounds 1 ?_
  rw [rounds_succ]
  go_wp2_with fail
  go_ret2
  exact ⟨HB2.out, rfl⟩
set_option maxRecDepth 100000 in
theorem free_nil (h : NoneAt pv W) : Calls Try.prog 41 #[pv] W fun e w' => Below W.heap.size W w' ∧ e = .returned (.int .i64 0) := by
  have HH := Hid.mk h
  clear h
  go_enter Try.func41, Try.ntmps41
  go_wp2_with fail
  refine (kept_nil HH.out).mono ?_
  rintro e w1 ⟨hb1, rfl⟩
  have HB := Hid.mk hb1
  clear hb1
  have z : decide ((0 : Int) < 0) = false := rfl
  go_wp2_with fail
  refine wp_loop_rounds 1 ?_
  rw [rounds_succ]
  go_wp2_with fail
  go_ret
  exact ⟨HB.out, rfl⟩
set_option maxRecDepth 100000 in
theorem copy_nil (h : NoneAt pv W) (pv2 : Value) : Calls Try.prog 42 #[pv, pv2] W fun e w' => Below W.heap.size W w' ∧ e = .returned (.pointer none) := by
  have HC := Hid.mk (h _ (Below.refl _ _))
  clear h
  go_enter Try.func42, Try.ntmps42
  go_wp2_with fail
  refine HC.out.mono ?_
  rintro e W ⟨rfl, rfl⟩
  go_wp2_with fail
  go_ret
  exact ⟨Below.refl _ _, rfl⟩
set_option maxRecDepth 100000 in
theorem copy_to_nil {b p : Nat} (c0 : W.cell? ⟨b, 0, none⟩ = some (.pointer (some ⟨p, 0, none⟩))) : Calls Try.prog 42 #[.pointer (some ⟨b, 0, none⟩), .pointer none] W fun e w' => Below W.heap.size W w' ∧ e = .returned (.pointer none) := by
  go_enter Try.func42, Try.ntmps42
  go_wp2_with fail
  refine (none24_any c0).mono ?_
  rintro e W ⟨rfl, rfl⟩
  go_wp2_with fail
  go_ret
  exact ⟨Below.refl _ _, rfl⟩
set_option maxRecDepth 100000 in
theorem snew_nil (s c : Int) (w : World) : Calls Try.prog 39 #[.pointer none, .agg #[.int .i64 s, .int .i64 c]] w fun e w' => Below w.heap.size w w' ∧ e = .returned (.tuple #[.pointer none, .int .i64 1]) := by
  have HB := Hid.mk ((Below.refl w.heap.size w).alloc (Nat.le_refl _) (.cells #[.int .i64 s, .int .i64 c] 70))
  go_enter Try.func39, Try.ntmps39
  go_wp2_with fail
  go_ret2
  exact ⟨HB.out, rfl⟩
end
section
variable {w W : World} {F : List Asr} {p : Nat} {S : Sp}
theorem snew_sep (h : Sep w F W) (p : Nat) (s c : Int) (hk : segOk s c = true) : Calls Try.prog 39 #[.pointer (some ⟨p, 0, none⟩), .agg #[.int .i64 s, .int .i64 c]] W fun e w' => ∃ b, Sep w (lkA b p s c ⟨[], []⟩ :: F) w' ∧ e = .returned (.tuple #[.pointer (some ⟨b, 0, none⟩), .int .i64 0]) := by
  refine (sNew_any p s c W).mono ?_
  rintro e w' ⟨hb, ⟨-, b, hbb, hL, rfl⟩ | ⟨q, -⟩⟩
  · exact ⟨b, h.new hb (A := lkA b p s c ⟨[], []⟩) (fs := [b]) hL (by simpa using hbb), rfl⟩
  · rw [hk] at q; cases q
theorem snew_bad (h : Sep w F W) (p : Nat) (s c : Int) (hk : segOk s c = false) : Calls Try.prog 39 #[.pointer (some ⟨p, 0, none⟩), .agg #[.int .i64 s, .int .i64 c]] W fun e w' => Sep w F w' ∧ e = .returned (.tuple #[.pointer none, .int .i64 240]) := by
  refine (sNew_any p s c W).mono ?_
  rintro e w' ⟨hb, ⟨q, -⟩ | ⟨-, rfl⟩⟩
  · rw [hk] at q; cases q
  · exact ⟨h.keep hb, rfl⟩
theorem Sep.space (h : Sep w F W) : Sep w (spA W.heap.size ⟨[], 0⟩ :: F) (W.alloc (.cells #[.slice none 0 0, .int .i64 0] 27)) :=
  h.new ((Below.refl _ _).alloc (Nat.le_refl _) _) (A := spA W.heap.size ⟨[], 0⟩) (fs := [W.heap.size]) (Spc.zero W) (by simp)
end
end Go.Proofs.Ytkooogllajmkeaa
/- SegmentNames in plain words: what the calls answer. -/
namespace Go.Proofs.Ytkooogllajmkeaa
open Go.RowKit
set_option pp.deepTerms true
section
variable {w W : World} {F : List Asr} {p b : Nat} {S S' : Sp} {L L' : Lk} {sz ca : Int}
theorem push_eq (h : Sep w (spA p S :: lkA b p sz ca L :: F) W) (m : Int) {y1 y2 er : Int} (he : pushL S L sz m = (((y1, y2), er), S', L')) (hll : L.live.length ≤ 1000000) (hkl : L.kept.length ≤ 1000000) (hla : S.last ≤ 1152921504606846976) :
    Calls Try.prog 31 #[.pointer (some ⟨b, 0, none⟩), .int .i64 m] W fun e w' => Sep w (spA p S' :: lkA b p sz ca L' :: F) w' ∧ e = .returned (.tuple #[.agg #[.int .i64 y1, .int .i64 y2], .int .i64 er]) := by
  have := push_sep h m hll hkl hla
  rw [he] at this
  exact this
theorem pop_eq (h : Sep w (spA p S :: lkA b p sz ca L :: F) W) {er : Int} (he : popL S L ca = (er, S', L')) (hll : L.live.length ≤ 1000000) (hkl : L.kept.length ≤ 1000000) :
    Calls Try.prog 32 #[.pointer (some ⟨b, 0, none⟩)] W fun e w' => Sep w (spA p S' :: lkA b p sz ca L' :: F) w' ∧ e = .returned (.int .i64 er) := by
  have := pop_sep h hll hkl
  rw [he] at this
  exact this
theorem free_eq (h : Sep w (spA p S :: lkA b p sz ca L :: F) W) (he : freeS S L.kept = S') {n : Int} (hn : (L.kept.length : Int) = n) (hk : L.kept.length ≤ 1000000) :
    Calls Try.prog 41 #[.pointer (some ⟨b, 0, none⟩)] W fun e w' => Sep w (spA p S' :: lkA b p sz ca ⟨L.live, []⟩ :: F) w' ∧ e = .returned (.int .i64 n) := by
  have := free24_sep h hk
  rw [he, hn] at this
  exact this
theorem top_eq (h : Sep w (spA p S :: lkA b p sz ca L :: F) W) {y1 y2 : Int} {t : Bool} (he : topOf L.live = ((y1, y2), t)) (hn : L.live.length ≤ 1000000) : Calls Try.prog 33 #[.pointer (some ⟨b, 0, none⟩)] W fun e w' =>
    Sep w (spA p S :: lkA b p sz ca L :: F) w' ∧ e = .returned (.tuple #[.agg #[.int .i64 y1, .int .i64 y2], .bool t]) := by
  refine (top_sep h hn).mono ?_
  rintro e w' ⟨h1, -, h2⟩
  rw [he] at h2
  exact ⟨h1, h2⟩
theorem take_sep2 (h : Sep w (spA p S :: F) W) (m : Int) (hl : S.last ≤ 1152921504606846976) : Calls Try.prog 12 #[.pointer (some ⟨p, 0, none⟩), .int .i64 m] W fun e w' => ∃ y er, Sep w (spA p (S.take m).2 :: F) w' ∧ e = .returned (.tuple #[.int .i64 y, .int .i64 er]) := by
  refine (take_sep h m hl).mono ?_
  rintro e w' ⟨h1, h2⟩
  exact ⟨_, _, h1, h2⟩
theorem get_eq (h : Sep w (spA p S :: F) W) (a : Int) {y1 y2 er : Int} (he : S.get a = ((y1, y2), er)) : Calls Try.prog 19 #[.pointer (some ⟨p, 0, none⟩), .int .i64 a] W fun e w' => Sep w (spA p S :: F) w' ∧ e = .returned (.tuple #[.agg #[.int .i64 y1, .int .i64 y2], .int .i64 er]) := by
  obtain ⟨fs, hf⟩ := h.sp
  refine (get_spc hf a).mono ?_
  rintro e w' ⟨hb, rfl⟩
  rw [he]
  exact ⟨h.keep hb, rfl⟩
theorem of_eq (h : Sep w (spA p S :: F) W) (a : Int) {y1 y2 : Int} {t : Bool} (he : S.of a = ((y1, y2), t)) : Calls Try.prog 15 #[.pointer (some ⟨p, 0, none⟩), .int .i64 a] W fun e w' => Sep w (spA p S :: F) w' ∧ e = .returned (.tuple #[.agg #[.int .i64 y1, .int .i64 y2], .bool t]) := by
  obtain ⟨fs, hf⟩ := h.sp
  refine (find_of hf a).mono ?_
  rintro e w' ⟨hb, rfl⟩
  rw [he]
  exact ⟨h.keep hb, rfl⟩
theorem put_eq (h : Sep w (spA p S :: F) W) (a t n : Int) {er : Int} (he : S.put a (t, n) = (er, S')) : Calls Try.prog 17 #[.pointer (some ⟨p, 0, none⟩), .int .i64 a, .agg #[.int .i64 t, .int .i64 n]] W fun e w' => Sep w (spA p S' :: F) w' ∧ e = .returned (.int .i64 er) := by
  have := put_sep h a t n
  rw [he] at this
  exact this
theorem regions_len (h : Sep w (spA p S :: F) W) : Calls Try.prog 14 #[.pointer (some ⟨p, 0, none⟩)] W fun e w' => Below W.heap.size W w' ∧ ∃ ao c, e = .returned (.slice ao S.regs.length c) := by
  obtain ⟨fs, hf⟩ := h.sp
  refine (regions_spc hf).mono ?_
  rintro e w' ⟨hb, v, rfl, hv, -⟩
  obtain ⟨ao, c, rfl⟩ := own_shape hv
  exact ⟨hb, ao, c, rfl⟩
end
def zs (n : Nat) : List (Int × Int) := List.replicate n (0, 0)
def nm1 : Sp := ⟨[⟨1, zs 256⟩], 256⟩
def nm2 : Sp := ⟨[⟨1, zs 256⟩, ⟨258, zs 500⟩], 757⟩
def nm3 : Sp := ⟨[⟨1, zs 256⟩, ⟨258, zs 500⟩, ⟨759, zs 256⟩], 1014⟩
def nm4 : Sp := ⟨[⟨1, zs 256⟩, ⟨258, (zs 500).set 0 (1, 7)⟩, ⟨759, zs 256⟩], 1014⟩
def nm5 : Sp := ⟨[⟨258, zs 500⟩, ⟨759, zs 256⟩], 1014⟩
def nm6 : Sp := ⟨[⟨258, zs 500⟩, ⟨759, zs 256⟩, ⟨1016, zs 256⟩], 1271⟩
def nm7 : Sp := ⟨[⟨258, zs 500⟩], 1271⟩
theorem nfit0 (m : Int) : fitAt [] m = none := rfl
theorem zs_len (n : Nat) : (zs n).length = n := List.length_replicate
set_option maxRecDepth 100000 in
theorem nt1 : (⟨[], 0⟩ : Sp).take 256 = ((1, 0), nm1) := by rfl
set_option maxRecDepth 100000 in
theorem nt2 : nm1.take 500 = ((258, 0), nm2) := by rfl
set_option maxRecDepth 100000 in
theorem nt3 : nm2.take 256 = ((759, 0), nm3) := by rfl
set_option maxRecDepth 100000 in
theorem nt6 : nm5.take 256 = ((1016, 0), nm6) := by rfl
theorem push_by_take {S S' : Sp} {L : Lk} {m n nb : Int} (hm : 1 ≤ m ∧ m ≤ 65536) (hf : fitAt L.kept m = none) (hn : max 256 m = n) (ht : S.take n = ((nb, 0), S')) : pushL S L 256 m = (((nb, n), 0), S', ⟨L.live ++ [(nb, n)], L.kept⟩) := by
  unfold pushL
  rw [if_neg (by omega), hf]
  simp only
  rw [hn, ht]
  rfl
theorem push_by_fit {S : Sp} {L : Lk} {m y1 y2 : Int} {i : Nat} (hm : 1 ≤ m ∧ m ≤ 65536) (hf : fitAt L.kept m = some i) (hy : L.kept[i]? = some (y1, y2)) : pushL S L 256 m = (((y1, y2), 0), S, ⟨L.live ++ [(y1, y2)], L.kept.eraseIdx i⟩) := by
  unfold pushL
  rw [if_neg (by omega), hf]
  simp only
  rw [hy]
  rfl
theorem np1 : pushL ⟨[], 0⟩ ⟨[], []⟩ 256 256 = (((1, 256), 0), nm1, ⟨[(1, 256)], []⟩) := push_by_take (by omega) rfl rfl nt1
theorem np2 : pushL nm1 ⟨[(1, 256)], []⟩ 256 500 = (((258, 500), 0), nm2, ⟨[(1, 256), (258, 500)], []⟩) := push_by_take (by omega) rfl rfl nt2
theorem np3 : pushL nm2 ⟨[(1, 256), (258, 500)], []⟩ 256 1 = (((759, 256), 0), nm3, ⟨[(1, 256), (258, 500), (759, 256)], []⟩) := push_by_take (by omega) rfl rfl nt3
set_option maxRecDepth 100000 in
theorem nput : nm3.put 258 (1, 7) = (0, nm4) := by rfl
set_option maxRecDepth 100000 in
theorem nd1 : (nm4.drop 759 256).2 = nm4 := by rfl
set_option maxRecDepth 100000 in
theorem nd2 : (nm4.drop 258 500).2 = nm3 := by rfl
set_option maxRecDepth 100000 in
theorem nl3 : (nm3.let_ 1).2 = nm5 := by rfl
theorem npop1 : popL nm4 ⟨[(1, 256), (258, 500), (759, 256)], []⟩ 2 = (0, nm4, ⟨[(1, 256), (258, 500)], [(759, 256)]⟩) := by
  show (0, (nm4.drop 759 256).2, _) = _
  rw [nd1]; rfl
theorem npop2 : popL nm4 ⟨[(1, 256), (258, 500)], [(759, 256)]⟩ 2 = (0, nm3, ⟨[(1, 256)], [(759, 256), (258, 500)]⟩) := by
  show (0, (nm4.drop 258 500).2, _) = _
  rw [nd2]; rfl
theorem npop3 : popL nm3 ⟨[(1, 256)], [(759, 256), (258, 500)]⟩ 2 = (0, nm5, ⟨[], [(759, 256), (258, 500)]⟩) := by
  show (0, (nm3.let_ 1).2, _) = _
  rw [nl3]; rfl
set_option maxRecDepth 100000 in
theorem ng1 : nm5.get 258 = ((0, 0), 212) := by rfl
set_option maxRecDepth 100000 in
theorem ng2 : nm5.get 1 = ((0, 0), 210) := by rfl
theorem np4 : pushL nm5 ⟨[], [(759, 256), (258, 500)]⟩ 256 257 = (((258, 500), 0), nm5, ⟨[(258, 500)], [(759, 256)]⟩) := push_by_fit (i := 1) (by omega) (by decide) rfl
theorem np5 : pushL nm5 ⟨[(258, 500)], [(759, 256)]⟩ 256 256 = (((759, 256), 0), nm5, ⟨[(258, 500), (759, 256)], []⟩) := push_by_fit (i := 0) (by omega) (by decide) rfl
theorem np6 : pushL nm5 ⟨[(258, 500), (759, 256)], []⟩ 256 1 = (((1016, 256), 0), nm6, ⟨[(258, 500), (759, 256), (1016, 256)], []⟩) := push_by_take (by omega) rfl rfl nt6
theorem npbad (S : Sp) (L : Lk) (m : Int) (hm : m < 1 ∨ 65536 < m) : pushL S L 256 m = (((0, 0), 240), S, L) := by unfold pushL; rw [if_pos hm]
set_option maxRecDepth 100000 in
theorem nd4 : (nm6.drop 1016 256).2 = nm6 := by rfl
set_option maxRecDepth 100000 in
theorem nd5 : (nm6.drop 759 256).2 = nm6 := by rfl
theorem npop4 : popL nm6 ⟨[(258, 500), (759, 256), (1016, 256)], []⟩ 2 = (0, nm6, ⟨[(258, 500), (759, 256)], [(1016, 256)]⟩) := by
  show (0, (nm6.drop 1016 256).2, _) = _
  rw [nd4]; rfl
theorem npop5 : popL nm6 ⟨[(258, 500), (759, 256)], [(1016, 256)]⟩ 2 = (0, nm6, ⟨[(258, 500)], [(1016, 256), (759, 256)]⟩) := by
  show (0, (nm6.drop 759 256).2, _) = _
  rw [nd5]; rfl
set_option maxRecDepth 100000 in
theorem nfree : freeS nm6 [(1016, 256), (759, 256)] = nm7 := by rfl
set_option maxRecDepth 100000 in
theorem nof : nm7.of 1016 = ((0, 0), false) := by rfl
/-- a full space -/
theorem take_full {S : Sp} {k : Nat} (hk : k < 4) (ht : total S.regs = k * 1048576) : total (S.take 1048576).2.regs = (k + 1) * 1048576 ∧ (S.take 1048576).2.last ≤ S.last + 1048578 := by
  have hc : ¬ ((1048576 : Int) < 1 ∨ (1048576 : Int) < 1048576 ∨ 4194304 < (total S.regs : Int) + 1048576) := by omega
  obtain ⟨N, hN, e⟩ : ∃ N : Nat, N = 1048576 ∧ (S.take 1048576).2 = ⟨S.regs ++ [⟨nextBase S.last, List.replicate N (0, 0)⟩], nextBase S.last + 1048576 - 1⟩ := by
    have h0 : ∀ m : Int, ¬ (m < 1 ∨ (1048576 : Int) < m ∨ 4194304 < (total S.regs : Int) + m) → (S.take m).2 = ⟨S.regs ++ [⟨nextBase S.last, List.replicate m.toNat (0, 0)⟩], nextBase S.last + m - 1⟩ := fun m hm => by
      unfold Sp.take
      rw [if_neg hm]
    obtain ⟨m, hm⟩ : ∃ m : Int, m = 1048576 := ⟨_, rfl⟩
    rw [← hm] at hc
    have h1 := h0 m (by omega)
    rw [hm] at h1
    exact ⟨_, by omega, h1⟩
  rw [e]
  have h1 : total (S.regs ++ [⟨nextBase S.last, List.replicate N (0, 0)⟩]) = total S.regs + N := by
    unfold total
    rw [List.map_append, List.sum_append]
    simp only [List.map_cons, List.map_nil, List.sum_cons, List.sum_nil, List.length_replicate, Nat.add_zero]
  have h3 : nextBase S.last ≤ S.last + 2 := by
    unfold nextBase
    split <;> omega
  clear e hc
  exact ⟨h1.trans (by omega), show nextBase S.last + 1048576 - 1 ≤ S.last + 1048578 by omega⟩
theorem full_no {S : Sp} (ht : total S.regs = 4 * 1048576) : pushL S ⟨[], []⟩ 256 1 = (((0, 0), 211), S, ⟨[], []⟩) := by
  have e : S.take 256 = ((0, 211), S) := by
    unfold Sp.take
    rw [if_pos (by omega)]
  unfold pushL
  rw [if_neg (by omega)]
  rw [show fitAt ([] : List (Int × Int)) 1 = none from rfl]
  simp only
  rw [show max (256 : Int) 1 = 256 from rfl, e]
  rfl
end Go.Proofs.Ytkooogllajmkeaa
/- SegmentNames' walk: its end. -/
namespace Go.Proofs.Ytkooogllajmkeaa
open Go.RowKit
set_option pp.deepTerms true
attribute [local go_sem ↓] Go.wp_at_zero Go.wp_at_succ
set_option maxRecDepth 100000 in
set_option maxHeartbeats 4000000 in
theorem nmD {w W : World} {p b : Nat} {u0 u3 u4 u5 u6 u7 u8 u9 u10 u11 u12 u13 u14 u15 u16 u17 u18 u19 u20 u21 u22 u23 u25 u26 u27 u28 u29 u30 u31 u32 u33 u34 u35 u36 u37 u38 u39 u40 u41 u42 u43 u45 u46 u47 u49 u50 u51 u52 u53 u54 u55 u56 u57 u58 u59 u60 u61 u62 u63 u64 u65 u66 u67 u68 u69 u70 u71 u72 u73 u74 u75 u76 u77 u78 u79 u80 u81 u82 u83 u84 u85 u86 u87 u88 u89 u90 u91 u92 u93 u94 u95 u96 u97 u98 u99 u100 u101 u102 u103 u104 u105 u106 u107 u108 u109 u110 u111 u112 u113 u114 u115 u116 u117 u118 u119 u120 u121 u122 u123 u124 u125 u126 u127 u128 u129 u130 u131 u132 u133 u134 u135 u136 u137 u138 u139 u140 u141 u142 u143 u144 u145 u146 u147 u148 u149 u150 u151 u152 u153 u154 u155 u156 u157 u158 u159 u160 u161 u162 u163 u164 u165 u166 u167 u168 u169 u170 u171 u172 u173 u174 u175 u176 u177 u178 u179 u180 u181 u182 u183 u184 u185 u186 u187 u188 u189 u190 u191 u192 u193 u194 u195 u196 u197 u198 u199 u200 u201 u202 u203 u204 u205 u206 u207 u208 u209 u210 u211 u212 u213 u214 u215 u216 u217 u218 u219 u220 u221 u222 u223 u224 u225 u226 u227 u228 u229 u230 u231 u232 u233 u234 u235 u236 u237 u238 u239 u240 u241 u242 u243 u244 u245 u246 u247 u248 u249 u250 u251 u252 u253 u254 u255 u256 u257 u258 u259 u260 u261 u262 u263 u264 u265 u266 u267 u268 u269 u270 u271 u272 u273 u274 u275 u276 u277 u278 u279 u280 u281 u282 u283 u284 u285 u286 u287 u288 u289 u290 u291 u292 u293 u294 u295 u296 u297 u298 u299 u300 u301 u302 u303 u304 u305 u306 u307 u308 u309 u310 u311 u312 u313 u314 u315 u316 u317 u318 u319 u320 u321 u322 u323 u324 u325 u326 u327 u328 u329 u330 u331 u332 u333 u334 u335 u336 u337 u338 u339 u340 u341 u342 u343 u344 u345 u346 u347 u348 u349 u350 u351 u352 u353 u354 u355 u356 u357 u358 u359 u360 u361 u362 u363 u364 u365 u366 u367 u368 u369 u370 u371 u372 u373 u374 u375 u376 u377 u378 u379 u380 u381 u382 : Value} (H0 : Hid (Sep w [spA p nm7, lkA b p 256 2 ⟨[(258, 500)], []⟩] W)) :
    Code.wp Try.prog (pieceOf (Try.f9.body.getD .skip) [1, 1, 1, 1, 1, 1, 1, 1, 1, 1, 1, 1, 1, 1, 1, 1, 1, 1, 1, 1, 1, 1, 1, 1, 1, 1, 1, 1, 1, 1, 1, 1, 1, 1, 1, 1]) (bodyPost Try.prog Try.f9 (fun e w' => e = .returned (.bool true) ∧ Below w.heap.size w w')) ⟨#[u0, .pointer (some ⟨p, 0, none⟩), .pointer (some ⟨b, 0, none⟩), u3, u4, u5, u6, u7, u8, u9, u10, u11, u12, u13, u14, u15, u16, u17, u18, u19, u20, u21, u22, u23, .bool true, u25, u26, u27, u28, u29, u30, u31, u32, u33, u34, u35, u36, u37, u38, u39, u40, u41, u42, u43, .bool true, u45, u46, u47, .bool true, u49, u50, u51, u52, u53, u54, u55, u56, u57, u58, u59, u60, u61, u62, u63, u64, u65, u66, u67, u68, u69, u70, u71, u72, u73, u74, u75, u76, u77, u78, u79, u80, u81, u82, u83, u84, u85, u86, u87, u88, u89, u90, u91, u92, u93, u94, u95, u96, u97, u98, u99, u100, u101, u102, u103, u104, u105, u106, u107, u108, u109, u110, u111, u112, u113, u114, u115, u116, u117, u118, u119, u120, u121, u122, u123, u124, u125, u126, u127, u128, u129, u130, u131, u132, u133, u134, u135, u136, u137, u138, u139, u140, u141, u142, u143, u144, u145, u146, u147, u148, u149, u150, u151, u152, u153, u154, u155, u156, u157, u158, u159, u160, u161, u162, u163, u164, u165, u166, u167, u168, u169, u170, u171, u172, u173, u174, u175, u176, u177, u178, u179, u180, u181, u182, u183, u184, u185, u186, u187, u188, u189, u190, u191, u192, u193, u194, u195, u196, u197, u198, u199, u200, u201, u202, u203, u204, u205, u206, u207, u208, u209, u210, u211, u212, u213, u214, u215, u216, u217, u218, u219, u220, u221, u222, u223, u224, u225, u226, u227, u228, u229, u230, u231, u232, u233, u234, u235, u236, u237, u238, u239, u240, u241, u242, u243, u244, u245, u246, u247, u248, u249, u250, u251, u252, u253, u254, u255, u256, u257, u258, u259, u260, u261, u262, u263, u264, u265, u266, u267, u268, u269, u270, u271, u272, u273, u274, u275, u276, u277, u278, u279, u280, u281, u282, u283, u284, u285, u286, u287, u288, u289, u290, u291, u292, u293, u294, u295, u296, u297, u298, u299, u300, u301, u302, u303, u304, u305, u306, u307, u308, u309, u310, u311, u312, u313, u314, u315, u316, u317, u318, u319, u320, u321, u322, u323, u324, u325, u326, u327, u328, u329, u330, u331, u332, u333, u334, u335, u336, u337, u338, u339, u340, u341, u342, u343, u344, u345, u346, u347, u348, u349, u350, u351, u352, u353, u354, u355, u356, u357, u358, u359, u360, u361, u362, u363, u364, u365, u366, u367, u368, u369, u370, u371, u372, u373, u374, u375, u376, u377, u378, u379, u380, u381, u382], []⟩ W := by
  conv => arg 2; whnf
  have HA1 := Hid.mk (H0.out.alloc (.cells #[.pointer none, .int .i64 0, .int .i64 0, .slice none 0 0, .slice none 0 0] 97))
  clear H0
  obtain ⟨Bz, hBz⟩ : ∃ Bz, W.heap.size = Bz := ⟨_, rfl⟩
  obtain ⟨X0, hX0⟩ : ∃ X0, W.alloc (.cells #[.pointer none, .int .i64 0, .int .i64 0, .slice none 0 0, .slice none 0 0] 97) = X0 := ⟨_, rfl⟩
  have HXB := Hid.mk (And.intro hX0 hBz)
  rw [hX0, hBz] at HA1
  clear hX0 hBz
  go_wp2_with fail
  rw [HXB.out.1, HXB.out.2]
  have HC2 := Hid.mk (push_none (noneAt_nil X0) 1)
  go_wp2_with fail
  refine HC2.out.mono ?_
  rintro e w2 ⟨hb2, rfl⟩
  have H2 := Hid.mk (HA1.out.keep hb2)
  clear hb2 HC2 HA1
  have HA3 := Hid.mk (H2.out.alloc (.cells #[.int .i64 0, .int .i64 0] 39))
  clear H2
  have HC4 := Hid.mk (top_nil (noneAt_zero (HA3.out.cell (b := Bz) (j := 0) (List.Mem.tail _ (List.Mem.head _)) rfl)))
  go_wp2_with fail
  refine HC4.out.mono ?_
  rintro e w4 ⟨hb4, rfl⟩
  have H4 := Hid.mk (HA3.out.keep hb4)
  clear hb4 HC4 HA3
  have HA5 := Hid.mk (H4.out.alloc (.cells #[.int .i64 0, .int .i64 0] 39))
  clear H4
  have HC6 := Hid.mk (words_nil (noneAt_nil (w4.alloc (.cells #[.int .i64 0, .int .i64 0] 39))))
  go_wp2_with fail
  refine HC6.out.mono ?_
  rintro e w6 ⟨hb6, rfl⟩
  have H6 := Hid.mk (HA5.out.keep hb6)
  clear hb6 HC6 HA5
  have HC7 := Hid.mk (alive24_any w6)
  go_wp2_with fail
  refine HC7.out.mono ?_
  rintro e w7 ⟨rfl, hb7⟩
  have H7 := Hid.mk (H6.out.keep hb7)
  clear hb7 HC7 H6
  have HC8 := Hid.mk (pop_nil (noneAt_zero (H7.out.cell (b := Bz) (j := 0) (List.Mem.tail _ (List.Mem.tail _ (List.Mem.head _))) rfl)))
  go_wp2_with fail
  refine HC8.out.mono ?_
  rintro e w8 ⟨hb8, rfl⟩
  have H8 := Hid.mk (H7.out.keep hb8)
  clear hb8 HC8 H7
  have HC9 := Hid.mk (free_nil (noneAt_nil w8))
  go_wp2_with fail
  refine HC9.out.mono ?_
  rintro e w9 ⟨hb9, rfl⟩
  have H9 := Hid.mk (H8.out.keep hb9)
  clear hb9 HC9 H8
  have HC10 := Hid.mk (free_nil (noneAt_zero (H9.out.cell (b := Bz) (j := 0) (List.Mem.tail _ (List.Mem.tail _ (List.Mem.head _))) rfl)))
  go_wp2_with fail
  refine HC10.out.mono ?_
  rintro e w10 ⟨hb10, rfl⟩
  have H10 := Hid.mk (H9.out.keep hb10)
  clear hb10 HC10 H9
  have HC11 := Hid.mk (live_nil (noneAt_nil w10))
  go_wp2_with fail
  refine HC11.out.mono ?_
  rintro e w11 ⟨hb11, rfl⟩
  have H11 := Hid.mk (H10.out.keep hb11)
  clear hb11 HC11 H10
  have HC12 := Hid.mk (kept_nil (noneAt_zero (H11.out.cell (b := Bz) (j := 0) (List.Mem.tail _ (List.Mem.tail _ (List.Mem.head _))) rfl)))
  go_wp2_with fail
  refine HC12.out.mono ?_
  rintro e w12 ⟨hb12, rfl⟩
  have H12 := Hid.mk (H11.out.keep hb12)
  clear hb12 HC12 H11
  have HC13 := Hid.mk (copy_nil (noneAt_nil w12) (.pointer (some ⟨p, 0, none⟩)))
  go_wp2_with fail
  refine HC13.out.mono ?_
  rintro e w13 ⟨hb13, rfl⟩
  have H13 := Hid.mk (H12.out.keep hb13)
  clear hb13 HC13 H12
  have HC14 := Hid.mk (copy_to_nil (lk_cells H13.out (List.Mem.tail _ (List.Mem.tail _ (List.Mem.tail _ (List.Mem.tail _ (List.Mem.head _)))))).1)
  go_wp2_with fail
  refine HC14.out.mono ?_
  rintro e w14 ⟨hb14, rfl⟩
  have H14 := Hid.mk (H13.out.keep hb14)
  clear hb14 HC14 H13
  go_wp2_with fail
  go_ret
  exact ⟨rfl, H14.out.size⟩
end Go.Proofs.Ytkooogllajmkeaa
/- SegmentNames' walk: what is let go. -/
namespace Go.Proofs.Ytkooogllajmkeaa
open Go.RowKit
set_option pp.deepTerms true
attribute [local go_sem ↓] Go.wp_at_zero Go.wp_at_succ
set_option maxRecDepth 100000 in
set_option maxHeartbeats 4000000 in
theorem nmC {w W : World} {p b Bf : Nat} {u0 u3 u4 u5 u6 u7 u8 u9 u10 u11 u12 u13 u14 u15 u16 u17 u18 u19 u20 u21 u23 u25 u26 u27 u28 u29 u30 u31 u32 u33 u34 u35 u36 u37 u38 u39 u40 u41 u42 u43 u45 u46 u47 u48 u49 u50 u51 u52 u53 u54 u55 u56 u57 u58 u59 u60 u61 u62 u63 u64 u65 u66 u67 u68 u69 u70 u71 u72 u73 u74 u75 u76 u77 u78 u79 u80 u81 u82 u83 u84 u85 u86 u87 u88 u89 u90 u91 u92 u93 u94 u95 u96 u97 u98 u99 u100 u101 u102 u103 u104 u105 u106 u107 u108 u109 u110 u111 u112 u113 u114 u115 u116 u117 u118 u119 u120 u121 u122 u123 u124 u125 u126 u127 u128 u129 u130 u131 u132 u133 u134 u135 u136 u137 u138 u139 u140 u141 u142 u143 u144 u145 u146 u147 u148 u149 u150 u151 u152 u153 u154 u155 u156 u157 u158 u159 u160 u161 u162 u163 u164 u165 u166 u167 u168 u169 u170 u171 u172 u173 u174 u175 u176 u177 u178 u179 u180 u181 u182 u183 u184 u185 u186 u187 u188 u189 u190 u191 u192 u193 u194 u195 u196 u197 u198 u199 u200 u201 u202 u203 u204 u205 u206 u207 u208 u209 u210 u211 u212 u213 u214 u215 u216 u217 u218 u219 u220 u221 u222 u223 u224 u225 u226 u227 u228 u229 u230 u231 u232 u233 u234 u235 u236 u237 u238 u239 u240 u241 u242 u243 u244 u245 u246 u247 u248 u249 u250 u251 u252 u253 u254 u255 u256 u257 u258 u259 u260 u261 u262 u263 u264 u265 u266 u267 u268 u269 u270 u271 u272 u273 u274 u275 u276 u277 u278 u279 u280 u281 u282 u283 u284 u285 u286 u287 u288 u289 u290 u291 u292 u293 u294 u295 u296 u297 u298 u299 u300 u301 u302 u303 u304 u305 u306 u307 u308 u309 u310 u311 u312 u313 u314 u315 u316 u317 u318 u319 u320 u321 u322 u323 u324 u325 u326 u327 u328 u329 u330 u331 u332 u333 u334 u335 u336 u337 u338 u339 u340 u341 u342 u343 u344 u345 u346 u347 u348 u349 u350 u351 u352 u353 u354 u355 u356 u357 u358 u359 u360 u361 u362 u363 u364 u365 u366 u367 u368 u369 u370 u371 u372 u373 u374 u375 u376 u377 u378 u379 u380 u381 u382 : Value} (H0 : Hid (Sep w [spA p nm6, lkA b p 256 2 ⟨[(258, 500), (759, 256), (1016, 256)], []⟩, bx Bf (.cells #[.int .i64 1016, .int .i64 256] 39)] W)) :
    Code.wp Try.prog (pieceOf (Try.f9.body.getD .skip) [1, 1, 1, 1, 1, 1, 1, 1, 1, 1, 1, 1, 1, 1, 1, 1, 1, 1, 1, 1, 1, 1, 1, 1, 1, 1, 1, 1, 1, 1, 1]) (bodyPost Try.prog Try.f9 (fun e w' => e = .returned (.bool true) ∧ Below w.heap.size w w')) ⟨#[u0, .pointer (some ⟨p, 0, none⟩), .pointer (some ⟨b, 0, none⟩), u3, u4, u5, u6, u7, u8, u9, u10, u11, u12, u13, u14, u15, u16, u17, u18, u19, u20, u21, .pointer (some ⟨Bf, 0, none⟩), u23, .bool true, u25, u26, u27, u28, u29, u30, u31, u32, u33, u34, u35, u36, u37, u38, u39, u40, u41, u42, u43, .bool true, u45, u46, u47, u48, u49, u50, u51, u52, u53, u54, u55, u56, u57, u58, u59, u60, u61, u62, u63, u64, u65, u66, u67, u68, u69, u70, u71, u72, u73, u74, u75, u76, u77, u78, u79, u80, u81, u82, u83, u84, u85, u86, u87, u88, u89, u90, u91, u92, u93, u94, u95, u96, u97, u98, u99, u100, u101, u102, u103, u104, u105, u106, u107, u108, u109, u110, u111, u112, u113, u114, u115, u116, u117, u118, u119, u120, u121, u122, u123, u124, u125, u126, u127, u128, u129, u130, u131, u132, u133, u134, u135, u136, u137, u138, u139, u140, u141, u142, u143, u144, u145, u146, u147, u148, u149, u150, u151, u152, u153, u154, u155, u156, u157, u158, u159, u160, u161, u162, u163, u164, u165, u166, u167, u168, u169, u170, u171, u172, u173, u174, u175, u176, u177, u178, u179, u180, u181, u182, u183, u184, u185, u186, u187, u188, u189, u190, u191, u192, u193, u194, u195, u196, u197, u198, u199, u200, u201, u202, u203, u204, u205, u206, u207, u208, u209, u210, u211, u212, u213, u214, u215, u216, u217, u218, u219, u220, u221, u222, u223, u224, u225, u226, u227, u228, u229, u230, u231, u232, u233, u234, u235, u236, u237, u238, u239, u240, u241, u242, u243, u244, u245, u246, u247, u248, u249, u250, u251, u252, u253, u254, u255, u256, u257, u258, u259, u260, u261, u262, u263, u264, u265, u266, u267, u268, u269, u270, u271, u272, u273, u274, u275, u276, u277, u278, u279, u280, u281, u282, u283, u284, u285, u286, u287, u288, u289, u290, u291, u292, u293, u294, u295, u296, u297, u298, u299, u300, u301, u302, u303, u304, u305, u306, u307, u308, u309, u310, u311, u312, u313, u314, u315, u316, u317, u318, u319, u320, u321, u322, u323, u324, u325, u326, u327, u328, u329, u330, u331, u332, u333, u334, u335, u336, u337, u338, u339, u340, u341, u342, u343, u344, u345, u346, u347, u348, u349, u350, u351, u352, u353, u354, u355, u356, u357, u358, u359, u360, u361, u362, u363, u364, u365, u366, u367, u368, u369, u370, u371, u372, u373, u374, u375, u376, u377, u378, u379, u380, u381, u382], []⟩ W := by
  conv => arg 2; whnf
  have HC1 := Hid.mk (pop_eq (((H0.out.pick 2 rfl).pick 2 rfl).pick 2 rfl) npop4 (by decide) (by decide))
  go_wp2_with fail
  refine HC1.out.mono ?_
  rintro e w1 ⟨h1, rfl⟩
  have H1 := Hid.mk h1
  clear h1 HC1 H0
  have HC2 := Hid.mk (pop_eq (((H1.out.pick 2 rfl).pick 2 rfl).pick 2 rfl) npop5 (by decide) (by decide))
  go_wp2_with fail
  refine HC2.out.mono ?_
  rintro e w2 ⟨h2, rfl⟩
  have H2 := Hid.mk h2
  clear h2 HC2 H1
  have HC3 := Hid.mk (free_eq (((H2.out.pick 2 rfl).pick 2 rfl).pick 2 rfl) nfree (n := 2) rfl (by decide))
  go_wp2_with fail
  refine HC3.out.mono ?_
  rintro e w3 ⟨h3, rfl⟩
  have H3 := Hid.mk h3
  clear h3 HC3 H2
  have c0 := H3.out.cell (b := Bf) (j := 0) (List.Mem.tail _ (List.Mem.tail _ (List.Mem.head _))) rfl
  have HC4 := Hid.mk (of_eq (((H3.out.pick 2 rfl).pick 2 rfl).pick 2 rfl) 1016 nof)
  go_wp2_with fail
  refine HC4.out.mono ?_
  rintro e w4 ⟨h4, rfl⟩
  have H4 := Hid.mk h4
  clear h4 HC4 H3
  clear c0
  have HA5 := Hid.mk (H4.out.alloc (.cells #[.int .i64 0, .int .i64 0] 39))
  clear H4
  go_upto_region 39 with (fail)
  go_cut [48] (fun v W' => Hid (v = .bool true ∧ Sep w [spA p nm7, lkA b p 256 2 ⟨[(258, 500)], []⟩] W'))
  case first =>
    have HC6 := Hid.mk (kept_sep ((((HA5.out.pick 3 rfl).pick 1 rfl).pick 3 rfl).pick 3 rfl) (by decide))
    go_wp2_with fail
    refine HC6.out.mono ?_
    rintro e w6 ⟨ao, c, rfl, h6, -⟩
    have H6 := Hid.mk h6.tl
    clear h6 HC6 HA5
    have HC7 := Hid.mk (regions_len H6.out)
    go_wp2_with fail
    refine HC7.out.mono ?_
    rintro e w7 ⟨hb7, ar, cr, rfl⟩
    rw [show nm7.regs.length = 1 from rfl]
    have H7 := Hid.mk (H6.out.keep hb7)
    clear hb7 HC7 H6
    have HC8 := Hid.mk (free_eq ((((H7.out.pick 3 rfl).pick 3 rfl).pick 3 rfl).pick 3 rfl) (S' := nm7) (n := 0) rfl rfl (by decide))
    go_wp2_with fail
    refine HC8.out.mono ?_
    rintro e w8 ⟨h8, rfl⟩
    have H8 := Hid.mk h8
    clear h8 HC8 H7
    have HF : Hid (Sep w [spA p nm7, lkA b p 256 2 ⟨[(258, 500)], []⟩] _) := ((H8.out.lose 3).lose 2)
    go_wp2_with fail
    go_meet
    case rel => exact ⟨rfl, HF.out⟩
  case rest =>
    obtain ⟨rfl, h⟩ := hcut.out
    apply_assumption
    exact nmD h
end Go.Proofs.Ytkooogllajmkeaa
