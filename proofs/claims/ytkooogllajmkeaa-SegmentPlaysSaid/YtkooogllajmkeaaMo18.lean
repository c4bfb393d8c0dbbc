/- Parts Hd He Hf Hg Hh Hi, put together. -/
import Derived.Test.YtkooogllajmkeaaMo17
/- The document's Free and Words (24). -/
namespace Go.Proofs.Ytkooogllajmkeaa
open Go.RowKit
set_option pp.deepTerms true
attribute [local go_sem ↓] Go.wp_at_zero Go.wp_at_succ
/-- all of these are let go -/
def freeS (S : Sp) (ks : List (Int × Int)) : Sp := ks.foldl (fun S x => (S.let_ x.1).2) S
theorem freeS_snoc (S : Sp) (ks : List (Int × Int)) {i : Nat} (hi : i < ks.length) : freeS S (ks.take (i + 1)) = ((freeS S (ks.take i)).let_ ks[i].1).2 := by
  unfold freeS
  rw [List.take_succ_eq_append_getElem hi, List.foldl_append]
  rfl
section
variable {w W : World} {F : List Asr} {q pr : Nat} {S R : Sp} {L : Lk} {sz ca : Int}
set_option maxRecDepth 100000 in
set_option maxHeartbeats 4000000 in
theorem qfree_ok (h : Sep w (rsA pr R :: qlA q pr sz ca L :: F) W) (hkl : L.kept.length ≤ 1000000) :
    Calls Try.prog 71 #[.pointer (some ⟨q, 0, none⟩)] W fun e w' => Sep w (rsA pr (freeS R L.kept) :: qlA q pr sz ca ⟨L.live, []⟩ :: F) w' ∧ e = .returned (.int .i64 L.kept.length) := by
  have hA : Sep w (qlA q pr sz ca L :: rsA pr R :: F) W := h.pick 1 rfl
  obtain ⟨ao, c, ak, ck, hX⟩ := ql_open hA
  obtain ⟨n, hn⟩ : ∃ n, L.kept.length = n := ⟨_, rfl⟩
  rw [hn] at hX hkl ⊢
  have HN := Hid.mk hn
  have hX0 : Sep w (rsA pr R :: bx q (.cells #[.pointer (some ⟨pr, 0, none⟩), .int .i64 sz, .int .i64 ca, .slice ao L.live.length c, .slice ak n ck] 131) :: rw_ 0 39 2 (.slice ao L.live.length c) L.live.length (wcells L.live) :: rw_ 0 39 2 (.slice ak n ck) n (wcells L.kept) :: F) W := hX.pick 3 rfl
  have c4 := hX.cell (b := q) (j := 4) (List.Mem.head _) rfl
  have H0 := Hid.mk hX0
  clear hX h hA hn hX0
  go_enter Try.func71, Try.ntmps71
  go_wp2_with fail
  go_loopw [4] (fun i wr => ∃ k : Nat, i = .int .i64 k ∧ k ≤ n ∧ Hid (Sep w (rsA pr (freeS R (L.kept.take k)) :: bx q (.cells #[.pointer (some ⟨pr, 0, none⟩), .int .i64 sz, .int .i64 ca, .slice ao L.live.length c, .slice ak n ck] 131) :: rw_ 0 39 2 (.slice ao L.live.length c) L.live.length (wcells L.live) :: rw_ 0 39 2 (.slice ak n ck) n (wcells L.kept) :: F) wr)) (fun i _ => n - (intOf i).toNat)
  case atStart => exact ⟨0, rfl, by omega, H0⟩
  case round =>
    clear H0 c4
    obtain ⟨k, rfl, hk, HS⟩ := hrel
    have c0 := HS.out.cell (b := q) (j := 0) (List.Mem.tail _ (List.Mem.head _)) rfl
    have c4 := HS.out.cell (b := q) (j := 4) (List.Mem.tail _ (List.Mem.head _)) rfl
    have cf := HS.out.free (b := q) (List.Mem.tail _ (List.Mem.head _)) 4
    by_cases hlt : k < n
    · have hk1 : k < L.kept.length := by have := HN.out; omega
      have hrow := HS.out.owns (base := 0) (T := 39) (n := 2) (v := .slice ak n ck) (m := n) (xs := wcells L.kept) (List.Mem.tail _ (List.Mem.tail _ (List.Mem.tail _ (List.Mem.head _))))
      obtain ⟨g, ck', ev⟩ := row_shape hrow (by omega)
      simp only [Value.slice.injEq, true_and] at ev
      obtain ⟨rfl, rfl⟩ := ev
      have e0 := row_cell hrow (j := k * 2) (v := .int .i64 L.kept[k].1) (wcells_fst hk1)
      have HE : Hid (∀ W' : World, W'.ownsRow 0 39 2 (.slice (some ⟨g, 0, none⟩) n ck) n (wcells L.kept) → W'.cell? ⟨g, k * 2, none⟩ = some (.int .i64 L.kept[k].1)) := fun W' hr => row_cell hr (j := k * 2) (wcells_fst hk1)
      have hz := freeS_snoc R L.kept hk1
      obtain ⟨y1, hy⟩ : ∃ y1, L.kept[k].1 = y1 := ⟨_, rfl⟩
      rw [hy] at e0 HE hz
      have HZ := Hid.mk hz
      have d0 := HS.out.drew
      have i1 : (0 : Int) ≤ (k : Int) := by omega
      have i2 : (k : Int) < (n : Int) := by omega
      clear hz hy hk1 hrow cf
      obtain ⟨S1, hS1⟩ : ∃ S1, freeS R (L.kept.take k) = S1 := ⟨_, rfl⟩
      rw [hS1] at d0 HZ HS
      clear hS1
      go_upto_region 5 with (fail)
      go_region_held3 (fun W' => W'.cell? ⟨q, 0, none⟩ = some (.pointer (some ⟨pr, 0, none⟩)) ∧ W'.cell? ⟨q, 4, none⟩ = some (.slice (some ⟨g, 0, none⟩) n ck) ∧ W'.cell? ⟨g, k * 2, none⟩ = some (.int .i64 y1)) (first | exact ⟨f0, f1, f2⟩ | exact ⟨c0, c4, e0⟩) ((go_at_call 50; refine (rlet_sep (w := w) (pr := pr) (S := S1) (F := bx q (.cells #[.pointer (some ⟨pr, 0, none⟩), .int .i64 sz, .int .i64 ca, .slice ao L.live.length c, .slice (some ⟨g, 0, none⟩) n ck] 131) :: rw_ 0 39 2 (.slice ao L.live.length c) L.live.length (wcells L.live) :: rw_ 0 39 2 (.slice (some ⟨g, 0, none⟩) n ck) n (wcells L.kept) :: F) ?_ y1).mono ?_; exact d0; rintro e wx ⟨hx, rfl⟩; have f0 := hx.cell (b := q) (j := 0) (List.Mem.tail _ (List.Mem.head _)) rfl; have f1 := hx.cell (b := q) (j := 4) (List.Mem.tail _ (List.Mem.head _)) rfl; have f2 := HE.out wx (hx.owns (List.Mem.tail _ (List.Mem.tail _ (List.Mem.tail _ (List.Mem.head _)))))))
      have HW := Hid.mk hx
      clear hx f0 f1 f2 c0 c4 e0 d0
      go_wp2_with fail
      exact ⟨⟨k + 1, by go_num, by omega, by rw [HZ.out]; exact HW.out⟩, by simp [intOf]; omega⟩
    · obtain rfl : k = n := by omega
      have ht : L.kept.take k = L.kept := List.take_of_length_le (by have := HN.out; omega)
      rw [ht] at HS
      clear ht
      go_wp2_with fail
      go_ret
      have P := (((HS.out.lose 3).pick 1 rfl).store 4 (.slice none 0 0))
      have P2 : Sep w (bx q (.cells #[.pointer (some ⟨pr, 0, none⟩), .int .i64 sz, .int .i64 ca, .slice ao L.live.length c, .slice none 0 0] 131) :: rw_ 0 39 2 (.slice ao L.live.length c) L.live.length (wcells L.live) :: rw_ 0 39 2 (.slice none 0 0) 0 [] :: rsA pr (freeS R L.kept) :: F) _ := ((((P.rnil 0 39 2).pick 2 rfl).pick 1 rfl).pick 3 rfl).pick 3 rfl
      exact ⟨(ql_close (L := ⟨L.live, []⟩) P2 rfl rfl).pick 1 rfl, rfl⟩
end
end Go.Proofs.Ytkooogllajmkeaa
/- A link laid open; Kept, Live, Top, Words beside other parts; the document's Words (24). -/
namespace Go.Proofs.Ytkooogllajmkeaa
open Go.RowKit
set_option pp.deepTerms true
attribute [local go_sem ↓] Go.wp_at_zero Go.wp_at_succ
section
variable {w W : World} {F : List Asr} {p b : Nat} {S : Sp} {L : Lk} {sz ca : Int}
theorem lk_open (h : Sep w (lkA b p sz ca L :: F) W) : ∃ ao c ak ck, Sep w (bx b (.cells #[.pointer (some ⟨p, 0, none⟩), .int .i64 sz, .int .i64 ca, .slice ao L.live.length c, .slice ak L.kept.length ck] 97 (0, 0)) ::
    rw_ 0 39 2 (.slice ao L.live.length c) L.live.length (wcells L.live) :: rw_ 0 39 2 (.slice ak L.kept.length ck) L.kept.length (wcells L.kept) :: F) W := by
  obtain ⟨hb, us, fs, gs, rfl, ⟨lv, kv, h1, rfl⟩, h2, h3, h4⟩ := h
  obtain ⟨ao, c, rfl⟩ := own_shape h1.live
  obtain ⟨ak, ck, rfl⟩ := own_shape h1.kept
  have hd0 := List.nodup_cons.1 h1.nodup
  have hd1 := List.nodup_append.1 hd0.2
  refine ⟨ao, c, ak, ck, hb, _, [b], _, rfl, ⟨rfl, h1.head⟩, ⟨_, _, rfl, ⟨rfl, h1.live⟩, ⟨_, gs, rfl, ⟨rfl, h1.kept⟩, h2, fun x hx => h3 x ?_, fun x hx => h4 x ?_⟩, fun x hx c => ?_, fun x hx => h4 x ?_⟩, fun x hx c => ?_, fun x hx => h4 x ?_⟩
  · exact List.mem_cons_of_mem _ (List.mem_append.2 (.inr hx))
  · exact List.mem_cons_of_mem _ (List.mem_append.2 (.inr hx))
  · rcases List.mem_append.1 c with q | q
    · exact hd1.2.2 x hx x q rfl
    · exact h3 x (List.mem_cons_of_mem _ (List.mem_append.2 (.inl hx))) q
  · exact List.mem_cons_of_mem _ (List.mem_append.2 (.inl hx))
  · obtain rfl : x = b := by simpa using hx
    rcases List.mem_append.1 c with q | q
    · exact hd0.1 (List.mem_append.2 (.inl q))
    · rcases List.mem_append.1 q with q | q
      · exact hd0.1 (List.mem_append.2 (.inr q))
      · exact h3 x (List.Mem.head _) q
  · obtain rfl : x = b := by simpa using hx
    exact List.Mem.head _
theorem lk_close {lv kv : Value} {n m : Nat} (h : Sep w (bx b (.cells #[.pointer (some ⟨p, 0, none⟩), .int .i64 sz, .int .i64 ca, lv, kv] 97 (0, 0)) :: rw_ 0 39 2 lv n (wcells L.live) :: rw_ 0 39 2 kv m (wcells L.kept) :: F) W) (hn : n = L.live.length) (hm : m = L.kept.length) : Sep w (lkA b p sz ca L :: F) W := by
  subst hn hm
  obtain ⟨hb, us, fs, gs, rfl, ⟨rfl, h1⟩, ⟨gs1, gs2, rfl, ⟨rfl, h2⟩, ⟨gs3, gs4, rfl, ⟨rfl, h5⟩, h6, h7, h8⟩, h9, h10⟩, h3, h4⟩ := h
  refine ⟨hb, lfoot b lv kv ++ gs4, lfoot b lv kv, gs4, rfl, ⟨lv, kv, ⟨h1, h2, h5, ?_⟩, rfl⟩, h6, fun x hx c => ?_, fun x hx => ?_⟩
  · refine List.nodup_cons.2 ⟨fun q => ?_, List.nodup_append.2 ⟨by cases lv.ownBlock <;> simp, by cases kv.ownBlock <;> simp, fun x hx y hy e => ?_⟩⟩
    · rcases List.mem_append.1 q with q | q
      · exact h3 b (by simp) (List.mem_append.2 (.inl q))
      · exact h3 b (by simp) (List.mem_append.2 (.inr (List.mem_append.2 (.inl q))))
    · subst e
      exact h9 x hx (List.mem_append.2 (.inl hy))
  · simp only [lfoot, List.mem_cons, List.mem_append] at hx
    rcases hx with rfl | q | q
    · exact h3 x (by simp) (List.mem_append.2 (.inr (List.mem_append.2 (.inr c))))
    · exact h9 x q (List.mem_append.2 (.inr c))
    · exact h7 x q c
  · simp only [lfoot, List.mem_cons, List.mem_append] at hx
    rcases hx with rfl | q | q
    · exact h4 x (by simp)
    · exact h10 x q
    · exact h8 x q
theorem Sep.seg0 (h : Sep w (spA p S :: lkA b p sz ca L :: F) W) : Seg w p b sz ca S L [] W := by
  obtain ⟨hb, us, fs, gs0, rfl, h1, ⟨hs, ks, rfl, h2, hF, h23, hge2⟩, h13, hge1⟩ := h
  exact ⟨fs, hs, h1, h2, fun x hx q => h13 x hx (List.mem_append.2 (.inl q)), hge1, hge2, hb, by simp⟩
theorem kept_sep (h : Sep w (spA p S :: lkA b p sz ca L :: F) W) (hn : L.kept.length ≤ 1000000) : Calls Try.prog 34 #[.pointer (some ⟨b, 0, none⟩)] W fun e w' =>
    ∃ ao c, e = .returned (.slice ao L.kept.length c) ∧ Sep w (rw_ 0 39 2 (.slice ao L.kept.length c) L.kept.length (wcells L.kept) :: spA p S :: lkA b p sz ca L :: F) w' ∧ Below W.heap.size W w' := by
  refine (kept24_seg h.seg0 hn).mono ?_
  rintro e w' ⟨-, hb, v, rfl, hr⟩
  obtain ⟨ao, c, rfl⟩ := own_shape hr
  exact ⟨ao, c, rfl, h.row hb hr, hb⟩
theorem live_sep (h : Sep w (spA p S :: lkA b p sz ca L :: F) W) (hn : L.live.length ≤ 1000000) : Calls Try.prog 35 #[.pointer (some ⟨b, 0, none⟩)] W fun e w' =>
    ∃ ao c, e = .returned (.slice ao L.live.length c) ∧ Sep w (rw_ 0 39 2 (.slice ao L.live.length c) L.live.length (wcells L.live) :: spA p S :: lkA b p sz ca L :: F) w' ∧ Below W.heap.size W w' := by
  refine (live24_seg h.seg0 hn).mono ?_
  rintro e w' ⟨-, hb, v, rfl, hr⟩
  obtain ⟨ao, c, rfl⟩ := own_shape hr
  exact ⟨ao, c, rfl, h.row hb hr, hb⟩
theorem top_sep (h : Sep w (spA p S :: lkA b p sz ca L :: F) W) (hn : L.live.length ≤ 1000000) : Calls Try.prog 33 #[.pointer (some ⟨b, 0, none⟩)] W fun e w' =>
    Sep w (spA p S :: lkA b p sz ca L :: F) w' ∧ Below W.heap.size W w' ∧ e = .returned (.tuple #[.agg #[.int .i64 (topOf L.live).1.1, .int .i64 (topOf L.live).1.2], .bool (topOf L.live).2]) := by
  refine (top24_seg h.seg0 hn).mono ?_
  rintro e w' ⟨-, hb, he⟩
  exact ⟨h.keep hb, hb, he⟩
end
/-- how many words -/
def wsum (l : List (Int × Int)) : Int := (l.map (·.2)).sum
def Wok (l : List (Int × Int)) : Prop := l.length ≤ 1000000 ∧ ∀ x ∈ l, 0 ≤ x.2 ∧ x.2 ≤ 1048576
theorem wsum_snoc (l : List (Int × Int)) {i : Nat} (hi : i < l.length) : wsum (l.take (i + 1)) = wsum (l.take i) + l[i].2 := by
  unfold wsum
  rw [List.take_succ_eq_append_getElem hi, List.map_append, List.sum_append]
  simp only [List.map_cons, List.map_nil, List.sum_cons, List.sum_nil]
  omega
theorem wsum_bd : ∀ {l : List (Int × Int)}, (∀ x ∈ l, 0 ≤ x.2 ∧ x.2 ≤ 1048576) → 0 ≤ wsum l ∧ wsum l ≤ 1048576 * (l.length : Int)
  | [], _ => by simp [wsum]
  | x :: l, h => by
    have h1 := h x (List.Mem.head _)
    have h2 := wsum_bd (l := l) (fun y hy => h y (List.mem_cons_of_mem _ hy))
    simp only [wsum, List.map_cons, List.sum_cons, List.length_cons] at h2 ⊢
    omega
theorem wsum_take {l : List (Int × Int)} (h : Wok l) (i : Nat) : 0 ≤ wsum (l.take i) ∧ wsum (l.take i) ≤ 1048576000000 := by
  have := wsum_bd (l := l.take i) (fun x hx => h.2 x (List.mem_of_mem_take hx))
  have h1 := h.1
  rw [List.length_take] at this
  omega
set_option maxRecDepth 100000 in
set_option maxHeartbeats 4000000 in
theorem qwords_any {w : World} {v : Value} {xs : List (Int × Int)} (h : Rd w v xs) (hx : Wok xs) : Calls Try.prog 73 #[v] w fun e w' => e = .returned (.int .i64 (wsum xs)) ∧ w' = w := by
  obtain ⟨ao, c, rfl⟩ := h.shape
  obtain ⟨n, hn⟩ : ∃ n, xs.length = n := ⟨_, rfl⟩
  have hn0 := hx.1
  have HX := Hid.mk hx
  have HR := Hid.mk h
  rw [hn] at HR hn0 ⊢
  have HN := Hid.mk hn
  clear h hx hn
  go_enter Try.func73, Try.ntmps73
  go_wp2_with fail
  go_loop [3, 4] (fun t i => ∃ k : Nat, k ≤ n ∧ i = .int .i64 k ∧ t = .int .i64 (wsum (xs.take k))) (fun _ i => n - (intOf i).toNat)
  case atStart => exact ⟨0, by omega, rfl, by simp [wsum]⟩
  case round =>
    obtain ⟨k, hk, rfl, rfl⟩ := hrel
    by_cases hlt : k < n
    · have hk1 : k < xs.length := by rw [HN.out]; exact hlt
      obtain ⟨b, o, c', ev, -, hcl⟩ := HR.out.some (by omega)
      simp only [Value.slice.injEq] at ev
      obtain ⟨rfl, -, -⟩ := ev
      obtain ⟨-, e1⟩ := hcl k hk1
      have hs := wsum_snoc xs hk1
      have hb := wsum_take HX.out k
      have hb1 := HX.out.2 _ (List.getElem_mem hk1)
      obtain ⟨y, hy⟩ : ∃ y, xs[k].2 = y := ⟨_, rfl⟩
      rw [hy] at hs e1 hb1
      have HS := Hid.mk hs
      clear hs hcl hk1 hy
      obtain ⟨t, ht⟩ : ∃ t, wsum (xs.take k) = t := ⟨_, rfl⟩
      rw [ht] at HS hb
      rw [ht]
      clear ht
      have hw : IntKind.i64.wrap (t + y) = t + y := by rw [IntKind.wrap_i64]; omega
      go_wp2_with fail
      exact ⟨⟨k + 1, by omega, by go_num, by rw [HS.out]⟩, by simp [intOf]; omega⟩
    · obtain rfl : k = n := by omega
      have ht : xs.take k = xs := List.take_of_length_le (by rw [HN.out]; exact Nat.le_refl _)
      rw [ht]
      clear ht
      go_wp2_with fail
      go_ret
      exact ⟨rfl, rfl⟩
end Go.Proofs.Ytkooogllajmkeaa
/- Words, Free and Copy of a link (24). -/
namespace Go.Proofs.Ytkooogllajmkeaa
open Go.RowKit
set_option pp.deepTerms true
attribute [local go_sem ↓] Go.wp_at_zero Go.wp_at_succ
section
variable {w W : World} {F : List Asr} {p b : Nat} {S : Sp} {L : Lk} {sz ca : Int}
set_option maxRecDepth 100000 in
set_option maxHeartbeats 4000000 in
theorem words24_sep (h : Sep w (spA p S :: lkA b p sz ca L :: F) W) (hl : Wok L.live) (hk : Wok L.kept) : Calls Try.prog 40 #[.pointer (some ⟨b, 0, none⟩)] W fun e w' => Sep w (spA p S :: lkA b p sz ca L :: F) w' ∧ e = .returned (.tuple #[.int .i64 (wsum L.live), .int .i64 (wsum L.kept)]) := by
  obtain ⟨n, hn⟩ : ∃ n, L.live.length = n := ⟨_, rfl⟩
  obtain ⟨m, hm⟩ : ∃ m, L.kept.length = m := ⟨_, rfl⟩
  have hn0 := hl.1
  have hm0 := hk.1
  have HC := Hid.mk (live_sep h hl.1)
  rw [hn] at HC hn0
  rw [hm] at hm0
  have HN := Hid.mk (And.intro hn hm)
  have HL := Hid.mk (And.intro hl hk)
  clear h hn hm hl hk
  go_enter Try.func40, Try.ntmps40
  go_wp2_with fail
  refine HC.out.mono ?_
  rintro e w1 ⟨ao, c, rfl, h1, -⟩
  have H1 := Hid.mk h1
  clear HC h1
  go_wp2_with fail
  go_loopw [2, 11] (fun t i wr => ∃ k : Nat, k ≤ n ∧ i = .int .i64 k ∧ t = .int .i64 (wsum (L.live.take k)) ∧ Hid (Sep w (rw_ 0 39 2 (.slice ao n c) n (wcells L.live) :: spA p S :: lkA b p sz ca L :: F) wr)) (fun _ i _ => n - (intOf i).toNat)
  case atStart => exact ⟨0, by omega, rfl, by simp [wsum], H1⟩
  case round =>
    clear H1
    obtain ⟨k, hk, rfl, rfl, HS⟩ := hrel
    by_cases hlt : k < n
    · have hk1 : k < L.live.length := by rw [HN.out.1]; exact hlt
      have hrow := HS.out.owns (List.Mem.head _)
      obtain ⟨g, c', ev⟩ := row_shape hrow (by omega)
      simp only [Value.slice.injEq, true_and] at ev
      obtain ⟨rfl, rfl⟩ := ev
      have e0 := row_cell hrow (j := k * 2) (v := .int .i64 L.live[k].1) (wcells_fst hk1)
      have e1 := row_cell hrow (j := k * 2 + 1) (v := .int .i64 L.live[k].2) (wcells_snd hk1)
      have hs := wsum_snoc L.live hk1
      have hb := wsum_take HL.out.1 k
      have hb1 := HL.out.1.2 _ (List.getElem_mem hk1)
      obtain ⟨⟨y0, y⟩, hy⟩ : ∃ y, L.live[k] = y := ⟨_, rfl⟩
      rw [hy] at hs e0 e1 hb1
      simp only at hs e0 e1 hb1
      have HQ := Hid.mk hs
      have HA := Hid.mk (HS.out.alloc (.cells #[.int .i64 y0, .int .i64 y] 39)).tl
      clear hs hrow hk1 hy
      obtain ⟨t, ht⟩ : ∃ t, wsum (L.live.take k) = t := ⟨_, rfl⟩
      rw [ht] at HQ hb
      rw [ht]
      clear ht
      have hw : IntKind.i64.wrap (t + y) = t + y := by rw [IntKind.wrap_i64]; omega
      go_wp2_with fail
      exact ⟨⟨k + 1, by omega, by go_num, by rw [HQ.out], HA.out⟩, by simp [intOf]; omega⟩
    · obtain rfl : k = n := by omega
      have ht : L.live.take k = L.live := List.take_of_length_le (by rw [HN.out.1]; exact Nat.le_refl _)
      rw [ht]
      have HC := Hid.mk (kept_sep HS.out.tl HL.out.2.1)
      rw [HN.out.2] at HC
      clear ht HS
      go_wp2_with fail
      refine HC.out.mono ?_
      rintro e w2 ⟨ao2, c2, rfl, h1, -⟩
      have H1 := Hid.mk h1
      clear HC h1
      go_wp2_with fail
      go_loopw [3, 23] (fun t i wr => ∃ k : Nat, k ≤ m ∧ i = .int .i64 k ∧ t = .int .i64 (wsum (L.kept.take k)) ∧ Hid (Sep w (rw_ 0 39 2 (.slice ao2 m c2) m (wcells L.kept) :: spA p S :: lkA b p sz ca L :: F) wr)) (fun _ i _ => m - (intOf i).toNat)
      case atStart => exact ⟨0, by omega, rfl, by simp [wsum], H1⟩
      case round =>
        clear H1
        obtain ⟨k, hk, rfl, rfl, HS⟩ := hrel
        by_cases hlt : k < m
        · have hk1 : k < L.kept.length := by rw [HN.out.2]; exact hlt
          have hrow := HS.out.owns (List.Mem.head _)
          obtain ⟨g, c', ev⟩ := row_shape hrow (by omega)
          simp only [Value.slice.injEq, true_and] at ev
          obtain ⟨rfl, rfl⟩ := ev
          have e0 := row_cell hrow (j := k * 2) (v := .int .i64 L.kept[k].1) (wcells_fst hk1)
          have e1 := row_cell hrow (j := k * 2 + 1) (v := .int .i64 L.kept[k].2) (wcells_snd hk1)
          have hs := wsum_snoc L.kept hk1
          have hb := wsum_take HL.out.2 k
          have hb1 := HL.out.2.2 _ (List.getElem_mem hk1)
          obtain ⟨⟨y0, y⟩, hy⟩ : ∃ y, L.kept[k] = y := ⟨_, rfl⟩
          rw [hy] at hs e0 e1 hb1
          simp only at hs e0 e1 hb1
          have HQ := Hid.mk hs
          have HA := Hid.mk (HS.out.alloc (.cells #[.int .i64 y0, .int .i64 y] 39)).tl
          clear hs hrow hk1 hy
          obtain ⟨t, ht⟩ : ∃ t, wsum (L.kept.take k) = t := ⟨_, rfl⟩
          rw [ht] at HQ hb
          rw [ht]
          clear ht
          have hw : IntKind.i64.wrap (t + y) = t + y := by rw [IntKind.wrap_i64]; omega
          go_wp2_with fail
          exact ⟨⟨k + 1, by omega, by go_num, by rw [HQ.out], HA.out⟩, by simp [intOf]; omega⟩
        · obtain rfl : k = m := by omega
          have ht : L.kept.take k = L.kept := List.take_of_length_le (by rw [HN.out.2]; exact Nat.le_refl _)
          rw [ht]
          have HF := Hid.mk HS.out.tl
          clear ht HS
          go_wp2_with fail
          go_ret2
          exact ⟨HF.out, rfl⟩
end
end Go.Proofs.Ytkooogllajmkeaa
/- Free and Copy of a link (24), the program's and the document's. -/
namespace Go.Proofs.Ytkooogllajmkeaa
open Go.RowKit
set_option pp.deepTerms true
attribute [local go_sem ↓] Go.wp_at_zero Go.wp_at_succ
theorem wp_append_rd {W : World} {o : Oper} {a : Act} {K : Act → World → Prop} {Q : Exit → Act → World → Prop} (s x : Operand)
    (ho : o.op = .call { callee := .builtin .append, args := #[s, x], argTypes := #[36, 36] }) (base : Nat) (v xv : Value) {xs ys : List (Int × Int)} (hs : a.eval s = v) (hxv : a.eval x = xv)
    (hown : W.ownsRow base 39 2 v xs.length (wcells xs)) (hx : Rd W xv ys) (hn : xs.length + ys.length ≤ 4194304) (hb : base ≤ W.heap.size)
    (h : ∀ v' w', w'.ownsRow base 39 2 v' (xs ++ ys).length (wcells (xs ++ ys)) → W.grownBy w' v.ownBlock → (v'.ownBlock = v.ownBlock ∨ v'.ownBlock = some W.heap.size) → K (a.put o.dst v') w') :
    o.wp Try.prog a W K Q := by
  obtain ⟨v', w', hr, h2, h3, h4⟩ := run_append_rd o.type hown hx hn hb
  unfold Oper.wp execOp
  simp only [ho, resolve, invoke, builtin, Sem.run_bind, Sem.run_pure, Result.andThen_ok, List.map_toArray, List.map_cons, List.map_nil, hs, hxv, hr]
  exact h v' w' h2 h3 h4
section
variable {w W : World} {F l : List Asr} {p b q pr : Nat} {S R : Sp} {L : Lk} {sz ca : Int}
theorem lk_cells (h : Sep w l W) (hm : lkA b p sz ca L ∈ l) : W.cell? ⟨b, 0, none⟩ = some (.pointer (some ⟨p, 0, none⟩)) ∧ W.cell? ⟨b, 1, none⟩ = some (.int .i64 sz) ∧ W.cell? ⟨b, 2, none⟩ = some (.int .i64 ca) := by
  obtain ⟨fs, ⟨lv, kv, h1, -⟩, -⟩ := h.mem hm
  exact ⟨h1.c.1, h1.c.2.1, h1.c.2.2.1⟩
set_option maxRecDepth 100000 in
set_option maxHeartbeats 4000000 in
theorem free24_sep (h : Sep w (spA p S :: lkA b p sz ca L :: F) W) (hk : L.kept.length ≤ 1000000) : Calls Try.prog 41 #[.pointer (some ⟨b, 0, none⟩)] W fun e w' => Sep w (spA p (freeS S L.kept) :: lkA b p sz ca ⟨L.live, []⟩ :: F) w' ∧ e = .returned (.int .i64 L.kept.length) := by
  obtain ⟨m, hm⟩ : ∃ m, L.kept.length = m := ⟨_, rfl⟩
  have hm0 := hk
  have HC := Hid.mk (kept_sep h hk)
  rw [hm] at HC hm0 ⊢
  have HM := Hid.mk hm
  clear h hm hk
  go_enter Try.func41, Try.ntmps41
  go_wp2_with fail
  refine HC.out.mono ?_
  rintro e w1 ⟨ao, c, rfl, h1, -⟩
  have H1 : Hid (Sep w (spA p (freeS S (L.kept.take 0)) :: rw_ 0 39 2 (.slice ao m c) m (wcells L.kept) :: lkA b p sz ca L :: F) w1) := h1.pick 1 rfl
  clear HC h1
  go_wp2_with fail
  go_loopw [10] (fun i wr => ∃ k : Nat, k ≤ m ∧ i = .int .i64 k ∧ Hid (Sep w (spA p (freeS S (L.kept.take k)) :: rw_ 0 39 2 (.slice ao m c) m (wcells L.kept) :: lkA b p sz ca L :: F) wr)) (fun i _ => m - (intOf i).toNat)
  case atStart => exact ⟨0, by omega, rfl, H1⟩
  case round =>
    clear H1
    obtain ⟨k, hk, rfl, HS⟩ := hrel
    by_cases hlt : k < m
    · have hk1 : k < L.kept.length := by rw [HM.out]; exact hlt
      have hrow := HS.out.owns (base := 0) (T := 39) (n := 2) (v := .slice ao m c) (m := m) (xs := wcells L.kept) (List.Mem.tail _ (List.Mem.head _))
      obtain ⟨g, c', ev⟩ := row_shape hrow (by omega)
      simp only [Value.slice.injEq, true_and] at ev
      obtain ⟨rfl, rfl⟩ := ev
      have e0 := row_cell hrow (j := k * 2) (v := .int .i64 L.kept[k].1) (wcells_fst hk1)
      have e1 := row_cell hrow (j := k * 2 + 1) (v := .int .i64 L.kept[k].2) (wcells_snd hk1)
      have hz := freeS_snoc S L.kept hk1
      obtain ⟨⟨y1, y2⟩, hy⟩ : ∃ y, L.kept[k] = y := ⟨_, rfl⟩
      rw [hy] at hz e0 e1
      simp only at hz e0 e1
      have HZ := Hid.mk hz
      have P1 : Sep w (spA p (freeS S (L.kept.take k)) :: bx wr.heap.size (.cells #[.int .i64 y1, .int .i64 y2] 39) :: rw_ 0 39 2 (.slice (some ⟨g, 0, none⟩) m c) m (wcells L.kept) :: lkA b p sz ca L :: F) (wr.alloc (.cells #[.int .i64 y1, .int .i64 y2] 39)) := (HS.out.alloc (.cells #[.int .i64 y1, .int .i64 y2] 39)).pick 1 rfl
      obtain ⟨S1, hS1⟩ : ∃ S1, freeS S (L.kept.take k) = S1 := ⟨_, rfl⟩
      obtain ⟨X, hX⟩ : ∃ X, wr.alloc (.cells #[.int .i64 y1, .int .i64 y2] 39) = X := ⟨_, rfl⟩
      obtain ⟨B, hB⟩ : ∃ B, wr.heap.size = B := ⟨_, rfl⟩
      have HXB := Hid.mk (And.intro hX hB)
      rw [hS1, hX, hB] at P1
      rw [hS1] at HZ
      have k0 := (lk_cells P1 (List.Mem.tail _ (List.Mem.tail _ (List.Mem.tail _ (List.Mem.head _))))).1
      have k1 := P1.cell (b := B) (j := 0) (List.Mem.tail _ (List.Mem.head _)) rfl
      have d0 := P1.drew
      clear hz hy hk1 hrow P1 hS1 hX hB HS
      go_upto_region 5 with (fail)
      rw [HXB.out.1, HXB.out.2]
      clear e0 e1
      go_region_held3 (fun W' => W'.cell? ⟨b, 0, none⟩ = some (.pointer (some ⟨p, 0, none⟩)) ∧ W'.cell? ⟨B, 0, none⟩ = some (.int .i64 y1)) (first | exact ⟨f0, f1⟩ | exact ⟨k0, k1⟩) ((go_at_call 13; refine (let_sep (w := w) (p := p) (S := S1) (F := bx B (.cells #[.int .i64 y1, .int .i64 y2] 39) :: rw_ 0 39 2 (.slice (some ⟨g, 0, none⟩) m c) m (wcells L.kept) :: lkA b p sz ca L :: F) ?_ y1).mono ?_; exact d0; rintro e wx ⟨hx, rfl⟩; have f0 := (lk_cells hx (List.Mem.tail _ (List.Mem.tail _ (List.Mem.tail _ (List.Mem.head _))))).1; have f1 := hx.cell (b := B) (j := 0) (List.Mem.tail _ (List.Mem.head _)) rfl))
      have HW := Hid.mk (hx.lose 1)
      clear hx f0 f1 k0 k1 d0
      go_wp2_with fail
      exact ⟨⟨k + 1, by omega, by go_num, by rw [HZ.out]; exact HW.out⟩, by simp [intOf]; omega⟩
    · obtain rfl : k = m := by omega
      have ht : L.kept.take k = L.kept := List.take_of_length_le (by rw [HM.out]; exact Nat.le_refl _)
      rw [ht] at HS
      clear ht
      by_cases h0 : 0 < k
      · have z1 : decide (k > 0) = true := by simpa using h0
        have hP := HS.out.pick 2 rfl
        obtain ⟨av, cv, ak, ck, hQ⟩ := lk_open hP
        have c4 := hQ.cell (b := b) (j := 4) (List.Mem.head _) rfl
        have cf := hQ.free (b := b) (List.Mem.head _) 4
        have HQ := Hid.mk hQ
        clear hP hQ HS
        go_wp2_with fail
        go_ret
        have P := ((HQ.out.store 4 (.slice none 0 0)).lose 4).lose 2
        have P2 : Sep w (bx b (.cells #[.pointer (some ⟨p, 0, none⟩), .int .i64 sz, .int .i64 ca, .slice av L.live.length cv, .slice none 0 0] 97) :: rw_ 0 39 2 (.slice av L.live.length cv) L.live.length (wcells L.live) :: rw_ 0 39 2 (.slice none 0 0) 0 [] :: spA p (freeS S L.kept) :: F) _ := (((P.rnil 0 39 2).pick 0 rfl).pick 2 rfl).pick 2 rfl
        exact ⟨(lk_close (L := ⟨L.live, []⟩) P2 rfl rfl).pick 1 rfl, rfl⟩
      · obtain rfl : k = 0 := by omega
        have hkn : L.kept = [] := List.eq_nil_of_length_eq_zero HM.out
        have HF : Hid (Sep w (spA p (freeS S L.kept) :: lkA b p sz ca ⟨L.live, []⟩ :: F) wr) := by
          have := HS.out.lose 1
          have e : (⟨L.live, []⟩ : Lk) = L := by rw [← hkn]
          rw [e]
          exact this
        have HK := Hid.mk hkn
        clear hkn HS
        go_wp2_with fail
        go_ret
        exact ⟨HF.out, rfl⟩
set_option maxRecDepth 100000 in
set_option maxHeartbeats 4000000 in
theorem copy24_sep (h : Sep w (spA p S :: lkA b p sz ca L :: F) W) (hl : L.live.length ≤ 1000000) (hk : L.kept.length ≤ 1000000) (p2 : Nat) : Calls Try.prog 42 #[.pointer (some ⟨b, 0, none⟩), .pointer (some ⟨p2, 0, none⟩)] W fun e w' =>
    ∃ b2, Sep w (lkA b2 p2 sz ca L :: spA p S :: lkA b p sz ca L :: F) w' ∧ e = .returned (.pointer (some ⟨b2, 0, none⟩)) := by
  obtain ⟨c0, c1, c2⟩ := lk_cells h (List.Mem.tail _ (List.Mem.head _))
  have P1 : Sep w (spA p S :: lkA b p sz ca L :: bx W.heap.size (.cells #[.pointer (some ⟨p2, 0, none⟩), .int .i64 sz, .int .i64 ca, .slice none 0 0, .slice none 0 0] 97) :: F) (W.alloc (.cells #[.pointer (some ⟨p2, 0, none⟩), .int .i64 sz, .int .i64 ca, .slice none 0 0, .slice none 0 0] 97)) := (h.alloc _).rot [_] [_, _]
  have HC := Hid.mk (live_sep P1 hl)
  have HK : Hid (L.live.length ≤ 1000000 ∧ L.kept.length ≤ 1000000) := ⟨hl, hk⟩
  clear P1 h hl hk
  go_enter Try.func42, Try.ntmps42
  go_wp2_with fail
  refine (none24_any c0).mono ?_
  rintro e W ⟨rfl, rfl⟩
  go_wp2_with fail
  refine HC.out.mono ?_
  rintro e w1 ⟨ao, c, rfl, h1, -⟩
  have P2 : Sep w (spA p S :: lkA b p sz ca L :: rw_ 0 39 2 (.slice ao L.live.length c) L.live.length (wcells L.live) :: _) w1 := h1.rot [_] [_, _]
  have HC2 := Hid.mk (kept_sep P2 HK.out.2)
  clear P2 h1 HC c0 c1 c2
  go_wp2_with fail
  refine HC2.out.mono ?_
  rintro e w2 ⟨ak, ck, rfl, h2, -⟩
  have P3 := (h2.pick 3 rfl).pick 4 rfl
  have cf := P3.free (b := W.heap.size) (List.Mem.head _)
  have c3 := P3.cell (b := W.heap.size) (j := 3) (List.Mem.head _) rfl
  have c4 := P3.cell (b := W.heap.size) (j := 4) (List.Mem.head _) rfl
  have HP := Hid.mk P3
  clear P3 h2 HC2
  obtain ⟨B, hB⟩ : ∃ B, W.heap.size = B := ⟨_, rfl⟩
  rw [hB] at HP cf c3 c4
  simp only [hB]
  clear hB
  go_wp2_with fail
  go_ret
  exact ⟨B, lk_close (L := L) ((HP.out.store 3 _).store 4 _) rfl rfl, rfl⟩
end
end Go.Proofs.Ytkooogllajmkeaa
/- The document's Copy of a link (24). -/
namespace Go.Proofs.Ytkooogllajmkeaa
open Go.RowKit
set_option pp.deepTerms true
attribute [local go_sem ↓] Go.wp_at_zero Go.wp_at_succ
theorem if_mk {c : Prop} [Decidable c] {A B : Prop} (hc : c) (h : A) : if c then A else B := by rw [if_pos hc]; exact h
section
variable {w W : World} {F l : List Asr} {p b q pr : Nat} {S R : Sp} {L : Lk} {sz ca : Int}
set_option maxRecDepth 100000 in
set_option maxHeartbeats 4000000 in
theorem qcopy_sep (h : Sep w (qlA q pr sz ca L :: F) W) (hl : L.live.length ≤ 1000000) (hk : L.kept.length ≤ 1000000) (p2 : Nat) : Calls Try.prog 72 #[.pointer (some ⟨q, 0, none⟩), .pointer (some ⟨p2, 0, none⟩)] W fun e w' =>
    ∃ q2, Sep w (qlA q2 p2 sz ca L :: qlA q pr sz ca L :: F) w' ∧ e = .returned (.pointer (some ⟨q2, 0, none⟩)) := by
  obtain ⟨ao, c, ak, ck, hX⟩ := ql_open h
  have e1 := hX.cell (b := q) (j := 1) (List.Mem.head _) rfl
  have e2 := hX.cell (b := q) (j := 2) (List.Mem.head _) rfl
  have P1 := hX.alloc (.cells #[.pointer (some ⟨p2, 0, none⟩), .int .i64 sz, .int .i64 ca, .slice none 0 0, .slice none 0 0] 131)
  have hRd := Rd.of_row (P1.owns (base := 0) (T := 39) (n := 2) (v := .slice ao L.live.length c) (m := L.live.length) (xs := wcells L.live) (List.Mem.tail _ (List.Mem.tail _ (List.Mem.head _)))) rfl
  obtain ⟨B, hB⟩ : ∃ B, W.heap.size = B := ⟨_, rfl⟩
  obtain ⟨X, hXe⟩ : ∃ X, W.alloc (.cells #[.pointer (some ⟨p2, 0, none⟩), .int .i64 sz, .int .i64 ca, .slice none 0 0, .slice none 0 0] 131) = X := ⟨_, rfl⟩
  rw [hXe] at P1 hRd
  rw [hB] at P1
  have HXB := Hid.mk (And.intro hXe hB)
  have HP := Hid.mk P1
  have HRD := Hid.mk hRd
  clear P1 hX h hXe hB hRd
  go_enter Try.func72, Try.ntmps72
  go_upto_region 2 with (fail)
  rw [HXB.out.1, HXB.out.2]
  clear e1 e2
  have hS := HP.out
  clear HP
  have s0 := hS.cell (b := B) (j := 3) (List.Mem.head _) rfl
  have s1 := hS.cell (b := q) (j := 3) (List.Mem.tail _ (List.Mem.head _)) rfl
  have HS0 := Hid.mk hS.drew
  clear hS
  refine wp_region_L 12 (fun W' => W'.cell? ⟨B, 3, none⟩ = some (.slice none 0 0) ∧ W'.cell? ⟨q, 3, none⟩ = some (.slice ao L.live.length c)) (by kernel_rfl) ⟨s0, s1⟩ (fun hHeld => ?_)
  refine wpAnyL_take (i := 0) (v := ?_) rfl (by kernel_rfl) (by kernel_rfl) (by kernel_rfl) (by kernel_rfl) (fun _ _ _ h => h) (Or.inl ⟨by rfl, ?_⟩) (by assumption) ?_
  rotate_left
  · (intro w hSw; (try dsimp only at hSw); go_simp <;> with_reducible rfl)
  (try simp only [Act.put, List.getElem_toArray, List.getElem_cons_zero, List.getElem_cons_succ, List.setIfInBounds_toArray, List.set_cons_zero, List.set_cons_succ])
  refine wpAnyL_take (i := 1) (v := ?_) rfl (by kernel_rfl) (by kernel_rfl) (by kernel_rfl) (by kernel_rfl) (fun _ _ _ h => h) (Or.inl ⟨by rfl, ?_⟩) (by assumption) ?_
  rotate_left
  · (intro w hSw; (try dsimp only at hSw); go_simp <;> with_reducible rfl)
  (try simp only [Act.put, List.getElem_toArray, List.getElem_cons_zero, List.getElem_cons_succ, List.setIfInBounds_toArray, List.set_cons_zero, List.set_cons_succ])
  refine wpAnyL_take (i := 2) (v := ?_) rfl (by kernel_rfl) (by kernel_rfl) (by kernel_rfl) (by kernel_rfl) (fun _ _ _ h => h) (Or.inl ⟨by rfl, ?_⟩) (by assumption) ?_
  rotate_left
  · (intro w hSw; (try dsimp only at hSw); go_simp <;> with_reducible rfl)
  (try simp only [Act.put, List.getElem_toArray, List.getElem_cons_zero, List.getElem_cons_succ, List.setIfInBounds_toArray, List.set_cons_zero, List.set_cons_succ])
  refine wpAnyL_take (i := 3) (v := ?_) rfl (by kernel_rfl) (by kernel_rfl) (by kernel_rfl) (by kernel_rfl) (fun _ _ _ h => h) (Or.inl ⟨by rfl, ?_⟩) (by assumption) ?_
  rotate_left
  · (intro w hSw; (try dsimp only at hSw); go_simp <;> with_reducible rfl)
  (try simp only [Act.put, List.getElem_toArray, List.getElem_cons_zero, List.getElem_cons_succ, List.setIfInBounds_toArray, List.set_cons_zero, List.set_cons_succ])
  refine wpAnyL_take (i := 4) (v := ?_) rfl (by kernel_rfl) (by kernel_rfl) (by kernel_rfl) (by kernel_rfl) (fun _ _ _ h => h) (Or.inl ⟨by rfl, ?_⟩) (by assumption) ?_
  rotate_left
  · (intro w hSw; (try dsimp only at hSw); go_simp <;> with_reducible rfl)
  (try simp only [Act.put, List.getElem_toArray, List.getElem_cons_zero, List.getElem_cons_succ, List.setIfInBounds_toArray, List.set_cons_zero, List.set_cons_succ])
  refine wpAnyL_take (i := 5) (v := ?_) rfl (by kernel_rfl) (by kernel_rfl) (by kernel_rfl) (by kernel_rfl) (fun _ _ _ h => h) (Or.inl ⟨by rfl, ?_⟩) (by assumption) ?_
  rotate_left
  · (intro w hSw; (try dsimp only at hSw); go_simp <;> with_reducible rfl)
  (try simp only [Act.put, List.getElem_toArray, List.getElem_cons_zero, List.getElem_cons_succ, List.setIfInBounds_toArray, List.set_cons_zero, List.set_cons_succ])
  refine wpAnyL_take (i := 6) (v := ?_) rfl (by kernel_rfl) (by kernel_rfl) (by kernel_rfl) (by kernel_rfl) (fun _ _ _ h => h) (Or.inl ⟨by rfl, ?_⟩) (by assumption) ?_
  rotate_left
  · (intro w hSw; (try dsimp only at hSw); go_simp <;> with_reducible rfl)
  (try simp only [Act.put, List.getElem_toArray, List.getElem_cons_zero, List.getElem_cons_succ, List.setIfInBounds_toArray, List.set_cons_zero, List.set_cons_succ])
  refine wpAnyL_take (i := 7) (v := ?_) rfl (by kernel_rfl) (by kernel_rfl) (by kernel_rfl) (by kernel_rfl) (fun _ _ _ h => h) (Or.inl ⟨by rfl, ?_⟩) (by assumption) ?_
  rotate_left
  · (intro w hSw; (try dsimp only at hSw); go_simp <;> with_reducible rfl)
  (try simp only [Act.put, List.getElem_toArray, List.getElem_cons_zero, List.getElem_cons_succ, List.setIfInBounds_toArray, List.set_cons_zero, List.set_cons_succ])
  refine wpAnyL_take (i := 8) (v := ?_) rfl (by kernel_rfl) (by kernel_rfl) (by kernel_rfl) (by kernel_rfl) (fun _ _ _ h => h) (Or.inl ⟨by rfl, ?_⟩) (by assumption) ?_
  rotate_left
  · (intro w hSw; (try dsimp only at hSw); go_simp <;> with_reducible rfl)
  (try simp only [Act.put, List.getElem_toArray, List.getElem_cons_zero, List.getElem_cons_succ, List.setIfInBounds_toArray, List.set_cons_zero, List.set_cons_succ])
  refine wpAnyL_only (i := 9) (by kernel_rfl) rfl (fun K hK => ?_)
  refine if_mk (by rfl) ?_
  refine wp_append_rd _ _ (by rfl) 0 _ _ (xs := []) (ys := L.live) (by rfl) (by rfl) (World.ownsRow_nil _ _ _ _) (HRD.out.below (Below.refl _ _).drew) (by simp; omega) (Nat.zero_le _) ?_
  intro v9 w9 hown9 hg9 hat9
  simp only [List.nil_append] at hown9
  obtain ⟨a9, c9, rfl⟩ := own_shape hown9
  have HG := Hid.mk ((HS0.out.rnil 0 39 2).grown' hown9 hg9 hat9)
  have t0 := HG.out.cell (b := B) (j := 3) (List.Mem.tail _ (List.Mem.head _)) rfl
  have t1 := HG.out.cell (b := q) (j := 3) (List.Mem.tail _ (List.Mem.tail _ (List.Mem.head _))) rfl
  have tf := HG.out.free (b := B) (List.Mem.tail _ (List.Mem.head _)) 3
  refine hK _ _ (fun _ => ⟨t0, t1⟩) (fun hHeld0 => ?_)
  have hHeld := hHeld0 rfl
  clear hK K hHeld0
  (try simp only [Act.put, List.getElem_toArray, List.getElem_cons_zero, List.getElem_cons_succ, List.setIfInBounds_toArray, List.set_cons_zero, List.set_cons_succ])
  refine wpAnyL_only (i := 10) (by kernel_rfl) rfl (fun K hK => ?_)
  go_simp
  refine hK _ _ (fun _ => ⟨t0, t1⟩) (fun hHeld0 => ?_)
  have hHeld := hHeld0 rfl
  clear hK K hHeld0
  (try simp only [Act.put, List.getElem_toArray, List.getElem_cons_zero, List.getElem_cons_succ, List.setIfInBounds_toArray, List.set_cons_zero, List.set_cons_succ])
  refine wpAnyL_only (i := 11) (by kernel_rfl) rfl (fun K hK => ?_)
  go_simp
  refine hK _ _ (fun _ => ⟨t0, t1⟩) (fun hHeld0 => ?_)
  have hHeld := hHeld0 rfl
  clear hK K hHeld0
  (try simp only [Act.put, List.getElem_toArray, List.getElem_cons_zero, List.getElem_cons_succ, List.setIfInBounds_toArray, List.set_cons_zero, List.set_cons_succ])
  refine wpAnyL_only (i := 12) (by kernel_rfl) rfl (fun K hK => ?_)
  go_simp
  refine hK _ _ (fun q => by cases q) (fun hHeld0 => ?_)
  clear hK K hHeld0
  refine wpAnyL_done (by kernel_rfl) ?_
  clear hown9 hg9 hat9 t0 t1 tf s0 s1 HS0 HRD
  have P2 := (HG.out.pick 1 rfl).store 3 (.slice a9 L.live.length c9)
  have hRd := Rd.of_row (P2.owns (base := 0) (T := 39) (n := 2) (v := .slice ak L.kept.length ck) (m := L.kept.length) (xs := wcells L.kept) (List.Mem.tail _ (List.Mem.tail _ (List.Mem.tail _ (List.Mem.tail _ (List.Mem.head _)))))) rfl
  obtain ⟨X2, hX2⟩ : ∃ X2, w9.setCell ⟨B, 3, none⟩ (.slice a9 L.live.length c9) = X2 := ⟨_, rfl⟩
  rw [hX2] at P2 hRd
  have HX2 := Hid.mk hX2
  have HP := Hid.mk P2
  have HRD := Hid.mk hRd
  clear hX2 P2 hRd HG
  go_wp2_with fail
  rw [HX2.out]
  have hS := HP.out
  clear HP
  have s0 := hS.cell (b := B) (j := 4) (List.Mem.head _) rfl
  have s1 := hS.cell (b := q) (j := 4) (List.Mem.tail _ (List.Mem.tail _ (List.Mem.head _))) rfl
  have HS0 := Hid.mk hS.drew
  clear hS
  refine wp_region_L 12 (fun W' => W'.cell? ⟨B, 4, none⟩ = some (.slice none 0 0) ∧ W'.cell? ⟨q, 4, none⟩ = some (.slice ak L.kept.length ck)) (by kernel_rfl) ⟨s0, s1⟩ (fun hHeld => ?_)
  refine wpAnyL_take (i := 0) (v := ?_) rfl (by kernel_rfl) (by kernel_rfl) (by kernel_rfl) (by kernel_rfl) (fun _ _ _ h => h) (Or.inl ⟨by rfl, ?_⟩) (by assumption) ?_
  rotate_left
  · (intro w hSw; (try dsimp only at hSw); go_simp <;> with_reducible rfl)
  (try simp only [Act.put, List.getElem_toArray, List.getElem_cons_zero, List.getElem_cons_succ, List.setIfInBounds_toArray, List.set_cons_zero, List.set_cons_succ])
  refine wpAnyL_take (i := 1) (v := ?_) rfl (by kernel_rfl) (by kernel_rfl) (by kernel_rfl) (by kernel_rfl) (fun _ _ _ h => h) (Or.inl ⟨by rfl, ?_⟩) (by assumption) ?_
  rotate_left
  · (intro w hSw; (try dsimp only at hSw); go_simp <;> with_reducible rfl)
  (try simp only [Act.put, List.getElem_toArray, List.getElem_cons_zero, List.getElem_cons_succ, List.setIfInBounds_toArray, List.set_cons_zero, List.set_cons_succ])
  refine wpAnyL_take (i := 2) (v := ?_) rfl (by kernel_rfl) (by kernel_rfl) (by kernel_rfl) (by kernel_rfl) (fun _ _ _ h => h) (Or.inl ⟨by rfl, ?_⟩) (by assumption) ?_
  rotate_left
  · (intro w hSw; (try dsimp only at hSw); go_simp <;> with_reducible rfl)
  (try simp only [Act.put, List.getElem_toArray, List.getElem_cons_zero, List.getElem_cons_succ, List.setIfInBounds_toArray, List.set_cons_zero, List.set_cons_succ])
  refine wpAnyL_take (i := 3) (v := ?_) rfl (by kernel_rfl) (by kernel_rfl) (by kernel_rfl) (by kernel_rfl) (fun _ _ _ h => h) (Or.inl ⟨by rfl, ?_⟩) (by assumption) ?_
  rotate_left
  · (intro w hSw; (try dsimp only at hSw); go_simp <;> with_reducible rfl)
  (try simp only [Act.put, List.getElem_toArray, List.getElem_cons_zero, List.getElem_cons_succ, List.setIfInBounds_toArray, List.set_cons_zero, List.set_cons_succ])
  refine wpAnyL_take (i := 4) (v := ?_) rfl (by kernel_rfl) (by kernel_rfl) (by kernel_rfl) (by kernel_rfl) (fun _ _ _ h => h) (Or.inl ⟨by rfl, ?_⟩) (by assumption) ?_
  rotate_left
  · (intro w hSw; (try dsimp only at hSw); go_simp <;> with_reducible rfl)
  (try simp only [Act.put, List.getElem_toArray, List.getElem_cons_zero, List.getElem_cons_succ, List.setIfInBounds_toArray, List.set_cons_zero, List.set_cons_succ])
  refine wpAnyL_take (i := 5) (v := ?_) rfl (by kernel_rfl) (by kernel_rfl) (by kernel_rfl) (by kernel_rfl) (fun _ _ _ h => h) (Or.inl ⟨by rfl, ?_⟩) (by assumption) ?_
  rotate_left
  · (intro w hSw; (try dsimp only at hSw); go_simp <;> with_reducible rfl)
  (try simp only [Act.put, List.getElem_toArray, List.getElem_cons_zero, List.getElem_cons_succ, List.setIfInBounds_toArray, List.set_cons_zero, List.set_cons_succ])
  refine wpAnyL_take (i := 6) (v := ?_) rfl (by kernel_rfl) (by kernel_rfl) (by kernel_rfl) (by kernel_rfl) (fun _ _ _ h => h) (Or.inl ⟨by rfl, ?_⟩) (by assumption) ?_
  rotate_left
  · (intro w hSw; (try dsimp only at hSw); go_simp <;> with_reducible rfl)
  (try simp only [Act.put, List.getElem_toArray, List.getElem_cons_zero, List.getElem_cons_succ, List.setIfInBounds_toArray, List.set_cons_zero, List.set_cons_succ])
  refine wpAnyL_take (i := 7) (v := ?_) rfl (by kernel_rfl) (by kernel_rfl) (by kernel_rfl) (by kernel_rfl) (fun _ _ _ h => h) (Or.inl ⟨by rfl, ?_⟩) (by assumption) ?_
  rotate_left
  · (intro w hSw; (try dsimp only at hSw); go_simp <;> with_reducible rfl)
  (try simp only [Act.put, List.getElem_toArray, List.getElem_cons_zero, List.getElem_cons_succ, List.setIfInBounds_toArray, List.set_cons_zero, List.set_cons_succ])
  refine wpAnyL_take (i := 8) (v := ?_) rfl (by kernel_rfl) (by kernel_rfl) (by kernel_rfl) (by kernel_rfl) (fun _ _ _ h => h) (Or.inl ⟨by rfl, ?_⟩) (by assumption) ?_
  rotate_left
  · (intro w hSw; (try dsimp only at hSw); go_simp <;> with_reducible rfl)
  (try simp only [Act.put, List.getElem_toArray, List.getElem_cons_zero, List.getElem_cons_succ, List.setIfInBounds_toArray, List.set_cons_zero, List.set_cons_succ])
  refine wpAnyL_only (i := 9) (by kernel_rfl) rfl (fun K hK => ?_)
  refine if_mk (by rfl) ?_
  refine wp_append_rd _ _ (by rfl) 0 _ _ (xs := []) (ys := L.kept) (by rfl) (by rfl) (World.ownsRow_nil _ _ _ _) (HRD.out.below (Below.refl _ _).drew) (by simp; omega) (Nat.zero_le _) ?_
  intro v10 w10 hownA hgA hatA
  simp only [List.nil_append] at hownA
  obtain ⟨aA, cA, rfl⟩ := own_shape hownA
  have HG := Hid.mk ((HS0.out.rnil 0 39 2).grown' hownA hgA hatA)
  have t0 := HG.out.cell (b := B) (j := 4) (List.Mem.tail _ (List.Mem.head _)) rfl
  have t1 := HG.out.cell (b := q) (j := 4) (List.Mem.tail _ (List.Mem.tail _ (List.Mem.tail _ (List.Mem.head _)))) rfl
  have tf := HG.out.free (b := B) (List.Mem.tail _ (List.Mem.head _)) 4
  refine hK _ _ (fun _ => ⟨t0, t1⟩) (fun hHeld0 => ?_)
  have hHeld := hHeld0 rfl
  clear hK K hHeld0
  (try simp only [Act.put, List.getElem_toArray, List.getElem_cons_zero, List.getElem_cons_succ, List.setIfInBounds_toArray, List.set_cons_zero, List.set_cons_succ])
  refine wpAnyL_only (i := 10) (by kernel_rfl) rfl (fun K hK => ?_)
  go_simp
  refine hK _ _ (fun _ => ⟨t0, t1⟩) (fun hHeld0 => ?_)
  have hHeld := hHeld0 rfl
  clear hK K hHeld0
  (try simp only [Act.put, List.getElem_toArray, List.getElem_cons_zero, List.getElem_cons_succ, List.setIfInBounds_toArray, List.set_cons_zero, List.set_cons_succ])
  refine wpAnyL_only (i := 11) (by kernel_rfl) rfl (fun K hK => ?_)
  go_simp
  refine hK _ _ (fun _ => ⟨t0, t1⟩) (fun hHeld0 => ?_)
  have hHeld := hHeld0 rfl
  clear hK K hHeld0
  (try simp only [Act.put, List.getElem_toArray, List.getElem_cons_zero, List.getElem_cons_succ, List.setIfInBounds_toArray, List.set_cons_zero, List.set_cons_succ])
  refine wpAnyL_only (i := 12) (by kernel_rfl) rfl (fun K hK => ?_)
  go_simp
  refine hK _ _ (fun q => by cases q) (fun hHeld0 => ?_)
  clear hK K hHeld0
  refine wpAnyL_done (by kernel_rfl) ?_
  clear hownA hgA hatA t0 t1 tf s0 s1 HS0 HRD
  have P3 : Sep w (bx B (.cells #[.pointer (some ⟨p2, 0, none⟩), .int .i64 sz, .int .i64 ca, .slice a9 L.live.length c9, .slice aA L.kept.length cA] 131) :: rw_ 0 39 2 (.slice a9 L.live.length c9) L.live.length (wcells L.live) :: rw_ 0 39 2 (.slice aA L.kept.length cA) L.kept.length (wcells L.kept) :: bx q (.cells #[.pointer (some ⟨pr, 0, none⟩), .int .i64 sz, .int .i64 ca, .slice ao L.live.length c, .slice ak L.kept.length ck] 131 (0, 0)) ::
    rw_ 0 39 2 (.slice ao L.live.length c) L.live.length (wcells L.live) :: rw_ 0 39 2 (.slice ak L.kept.length ck) L.kept.length (wcells L.kept) :: F) (w10.setCell ⟨B, 4, none⟩ (.slice aA L.kept.length cA)) := (((HG.out.pick 1 rfl).store 4 (.slice aA L.kept.length cA)).pick 2 rfl).pick 1 rfl
  have P4 := (ql_close (L := L) P3 rfl rfl)
  have P5 : Sep w (bx q _ :: rw_ 0 39 2 (.slice ao L.live.length c) L.live.length (wcells L.live) :: rw_ 0 39 2 (.slice ak L.kept.length ck) L.kept.length (wcells L.kept) :: qlA B p2 sz ca L :: F) _ := P4.rot [_] [_, _, _]
  have HF := Hid.mk ((ql_close (L := L) P5 rfl rfl).pick 1 rfl)
  clear P3 P4 P5 HG
  go_wp2_with fail
  go_ret
  exact ⟨B, HF.out, rfl⟩
end
end Go.Proofs.Ytkooogllajmkeaa
/- SegmentPlays in plain words: live and kept segments are regions of the space, beside others. -/
namespace Go.Proofs.Ytkooogllajmkeaa
open Go.RowKit
theorem erase_modify {α : Type} (f : α → α) : ∀ (l : List α) (i : Nat), (l.modify i f).eraseIdx i = l.eraseIdx i
  | [], i => by cases i <;> simp
  | x :: l, 0 => by simp
  | x :: l, i + 1 => by simp [erase_modify f l i]
/-- a region goes -/
theorem let_perm {S : Sp} (ok : Spok S) {x : Int × Int} {r : List (Int × Int)} (hp : (tells S.regs).Perm (x :: r)) : (tells (S.let_ x.1).2.regs).Perm r ∧ Spok (S.let_ x.1).2 ∧ (S.let_ x.1).1 = 0 ∧ ((S.drop x.1 x.2).2.let_ x.1).2 = (S.let_ x.1).2 := by
  have h1 : x ∈ tells S.regs := hp.symm.subset (List.Mem.head _)
  obtain ⟨ls, hr, ok⟩ := ok
  have h2 := h1
  rw [hr] at h2
  obtain ⟨g, hg, rfl⟩ := List.mem_map.1 h2
  obtain ⟨l, hl, rfl⟩ := List.mem_map.1 hg
  obtain ⟨i, hi, rfl⟩ := List.getElem_of_mem hl
  simp only [LReg.reg] at hp ⊢
  have hno : ∀ j (hj : j < ls.length), j < i → ls[j].base ≠ ls[i].base := by
    intro j hj hji q
    have := ok.mono j i hji hi
    have := (ok.lo _ (List.getElem_mem hj)).2.1
    omega
  have he : (S.let_ ls[i].base).2 = { S with regs := (ls.eraseIdx i).map LReg.reg } := by rw [let_at hr hi rfl hno]
  have ht : tells S.regs = ls.map (fun l => (l.base, (l.words.length : Int))) := by rw [hr]; simp [tells, LReg.reg, Function.comp_def]
  have h3 : tells ((ls.eraseIdx i).map LReg.reg) = (tells S.regs).eraseIdx i := by
    rw [ht]
    simp only [tells, List.map_map]
    rw [map_erase]
    rfl
  have h4 := perm_erase (l := tells S.regs) (i := i) (by rw [ht]; simpa using hi)
  have h5 : (tells S.regs)[i]'(by rw [ht]; simpa using hi) = (ls[i].base, (ls[i].words.length : Int)) := by
    have : (tells S.regs)[i]? = some (ls[i].base, (ls[i].words.length : Int)) := by rw [ht, List.getElem?_map, List.getElem?_eq_getElem hi]; rfl
    exact (List.getElem?_eq_some_iff.1 this).2
  rw [h5] at h4
  refine ⟨?_, ?_, by rw [let_at hr hi rfl hno], ?_⟩
  · rw [he]
    show (tells ((ls.eraseIdx i).map LReg.reg)).Perm _
    rw [h3]
    exact (h4.symm.trans hp).cons_inv
  · rw [he]
    exact ⟨_, rfl, ok.erase i⟩
  · have hd : (S.drop ls[i].base ls[i].words.length).2 = { S with regs := setAt S.regs i (over ls[i].words 0 (List.replicate ls[i].words.length (0, 0))) } := by
      have hl := (ok.lo _ (List.getElem_mem hi)).2
      unfold Sp.drop
      rw [if_neg (by omega), if_neg (by omega)]
      have := loc_at ok hi (j := 0) (m := ls[i].words.length) (by omega) (by omega)
      simp only [Int.natCast_zero, Int.add_zero] at this
      rw [hr, this]
      simp [wordsAt_map hi]
    rw [hd, he]
    have hi' : i < (setWords ls i (over ls[i].words 0 (List.replicate ls[i].words.length (0, 0)))).length := by rw [setWords_len]; exact hi
    have hb : ∀ j (hj : j < (setWords ls i (over ls[i].words 0 (List.replicate ls[i].words.length (0, 0)))).length), ((setWords ls i (over ls[i].words 0 (List.replicate ls[i].words.length (0, 0))))[j]).base = (ls[j]'(by rw [setWords_len] at hj; exact hj)).base := fun j hj => by
      simp only [setWords, List.getElem_modify]
      split <;> rfl
    rw [let_at (ls := setWords ls i (over ls[i].words 0 (List.replicate ls[i].words.length (0, 0)))) (i := i) (a := ls[i].base) (by simp only [hr]; exact setAt_map) hi' (hb i hi') (fun j hj hji => by rw [hb j hj]; exact hno j (by rw [setWords_len] at hj; exact hj) hji)]
    simp only [setWords, erase_modify]
theorem put_tells (S : Sp) (a : Int) (v : Int × Int) (ok : Spok S) : tells (S.put a v).2.regs = tells S.regs := by
  obtain ⟨ls, hr, ok⟩ := ok
  unfold Sp.put
  split
  · rename_i i j hloc
    split
    · rcases Nat.lt_or_ge i ls.length with hi | hi
      · simp only [hr]
        rw [tells_setAt hi (by rw [wordsAt_map hi]; simp)]
      · simp only [hr, setAt]
        rw [List.modify_eq_self (by simpa using hi)]
    · rfl
  · rfl
theorem drop_tells {S : Sp} (ok : Spok S) {x : Int × Int} (hx : x ∈ tells S.regs) : tells (S.drop x.1 x.2).2.regs = tells S.regs := by
  obtain ⟨ls, hr, ok⟩ := ok
  rw [hr] at hx
  obtain ⟨g, hg, rfl⟩ := List.mem_map.1 hx
  obtain ⟨l, hl, rfl⟩ := List.mem_map.1 hg
  obtain ⟨i, hi, rfl⟩ := List.getElem_of_mem hl
  simp only [LReg.reg]
  have hl := (ok.lo _ (List.getElem_mem hi)).2
  unfold Sp.drop
  rw [if_neg (by omega), if_neg (by omega)]
  have := loc_at ok hi (j := 0) (m := ls[i].words.length) (by omega) (by omega)
  simp only [Int.natCast_zero, Int.add_zero] at this
  rw [hr, this]
  simp only
  rw [tells_setAt hi (by rw [wordsAt_map hi]; exact over_len (by simp))]
theorem pos_of {N W : Int} (h : 1 ≤ W) : -W < N.tmod W ∧ N.tmod W < W ∧ 0 ≤ (N.tmod W + W).tmod W ∧ (N.tmod W + W).tmod W < W := by
  have h1 := Int.tmod_lt_of_pos N (show 0 < W by omega)
  have h2 := Int.lt_tmod_of_pos N (show 0 < W by omega)
  exact ⟨h2, h1, Int.tmod_nonneg _ (by omega), Int.tmod_lt_of_pos _ (by omega)⟩
/-- what a play keeps: live and kept segments are regions, beside others; few ops were done -/
structure PInv (S : Sp) (L : Lk) (k : Nat) : Prop where
  perm : ∃ rest, (tells S.regs).Perm (L.live ++ L.kept ++ rest)
  few : L.live.length + L.kept.length ≤ k
  last : S.last ≤ 1048580 * (k : Int)
theorem PInv.new : PInv ⟨[], 0⟩ ⟨[], []⟩ 0 := ⟨⟨[], by simp [tells]⟩, by simp, by simp⟩
section
variable {S : Sp} {L : Lk} {k : Nat} {sz ca m : Int}
theorem PInv.step (h : PInv S L k) : PInv S L (k + 1) := ⟨h.perm, by have := h.few; omega, by have := h.last; omega⟩
theorem PInv.reg (h : PInv S L k) (ok : Spok S) {x : Int × Int} (hx : x ∈ L.live ++ L.kept) : 1 ≤ x.1 ∧ 1 ≤ x.2 ∧ x.2 ≤ 1048576 ∧ x.1 + x.2 ≤ S.last + 1 := by
  obtain ⟨rest, hp⟩ := h.perm
  have h1 : x ∈ tells S.regs := hp.symm.subset (List.mem_append.2 (.inl hx))
  obtain ⟨ls, hr, ok⟩ := ok
  rw [hr] at h1
  obtain ⟨g, hg, rfl⟩ := List.mem_map.1 h1
  obtain ⟨l, hl, rfl⟩ := List.mem_map.1 hg
  have := ok.lo _ hl
  simp only [LReg.reg]
  omega
theorem PInv.wok (h : PInv S L k) (ok : Spok S) (hk : k ≤ 1000) : Wok L.live ∧ Wok L.kept := by
  have := h.few
  refine ⟨⟨by omega, fun x hx => ?_⟩, ⟨by omega, fun x hx => ?_⟩⟩
  · have := h.reg ok (x := x) (List.mem_append.2 (.inl hx)); omega
  · have := h.reg ok (x := x) (List.mem_append.2 (.inr hx)); omega
theorem PInv.take (h : PInv S L k) (n : Int) : PInv (S.take n).2 L (k + 1) := by
  rcases take_cases S n with e | ⟨n1, n2, e, el⟩
  · rw [e]; exact h.step
  · have hreg : (S.take n).2.regs = S.regs ++ [⟨nextBase S.last, List.replicate n.toNat (0, 0)⟩] := by
      unfold Sp.take at e ⊢
      split
      · rename_i q; rw [if_pos q] at e; simp at e
      · rfl
    obtain ⟨rest, hp⟩ := h.perm
    refine ⟨⟨rest ++ [(nextBase S.last, n)], ?_⟩, by have := h.few; omega, ?_⟩
    · rw [hreg]
      have e2 : tells (S.regs ++ [⟨nextBase S.last, List.replicate n.toNat (0, 0)⟩]) = tells S.regs ++ [(nextBase S.last, n)] := by
        simp [tells]; omega
      rw [e2, ← List.append_assoc]
      exact hp.append_right _
    · rw [el]
      have := h.last
      unfold nextBase
      split <;> omega
theorem PInv.push (h : PInv S L k) (m : Int) : PInv (pushL S L sz m).2.1 (pushL S L sz m).2.2 (k + 1) := by
  unfold pushL
  split
  · exact h.step
  · rename_i hm
    split
    · rename_i i hf
      obtain ⟨hi, -⟩ := fit_spec hf
      obtain ⟨rest, hp⟩ := h.perm
      simp only [List.getElem?_eq_getElem hi, Option.getD_some]
      refine ⟨⟨rest, hp.trans ?_⟩, by have := h.few; simp [List.length_eraseIdx, hi]; omega, by have := h.last; omega⟩
      refine List.Perm.append_right _ ?_
      rw [List.append_assoc]
      exact (perm_erase hi).append_left _
    · split
      · rename_i ht
        have ht' := h.take (max sz m)
        rcases take_cases S (max sz m) with e | ⟨n1, n2, e, el⟩
        · rw [e] at ht; cases ht
        · have hreg : (S.take (max sz m)).2.regs = S.regs ++ [⟨nextBase S.last, List.replicate (max sz m).toNat (0, 0)⟩] := by
            unfold Sp.take at e ⊢
            split
            · rename_i q; rw [if_pos q] at e; simp at e
            · rfl
          have h1 : (S.take (max sz m)).1.1 = nextBase S.last := by rw [e]
          obtain ⟨rest, hp⟩ := h.perm
          refine ⟨⟨rest, ?_⟩, by have := h.few; simp; omega, ht'.last⟩
          simp only
          rw [hreg, h1]
          have e2 : tells (S.regs ++ [⟨nextBase S.last, List.replicate (max sz m).toNat (0, 0)⟩]) = tells S.regs ++ [(nextBase S.last, max sz m)] := by
            simp [tells]; omega
          rw [e2]
          refine (hp.append_right _).trans ?_
          refine List.perm_append_comm.trans ?_
          rw [List.append_assoc, List.append_assoc, List.append_assoc]
          exact List.perm_append_comm_assoc _ _ _
      · exact h.take (max sz m)
theorem getLast_split {l : List (Int × Int)} {r : Int × Int} (h : l.getLast? = some r) : l = l.dropLast ++ [r] := by
  have hn : l ≠ [] := by rintro rfl; simp at h
  rw [List.getLast?_eq_some_getLast hn] at h
  simp only [Option.some.injEq] at h
  subst h
  exact (List.dropLast_concat_getLast hn).symm
theorem PInv.pop (h : PInv S L k) (ok : Spok S) (ca : Int) : PInv (popL S L ca).2.1 (popL S L ca).2.2 (k + 1) ∧ popQ S L ca = popL S L ca := by
  unfold popL popQ
  cases hg : L.live.getLast? with
  | none => exact ⟨h.step, rfl⟩
  | some r =>
    have hd := getLast_split hg
    obtain ⟨rest, hp⟩ := h.perm
    have hpr : (tells S.regs).Perm (r :: (L.live.dropLast ++ L.kept ++ rest)) := by
      rw [hd, List.append_assoc, List.append_assoc] at hp
      refine hp.trans ?_
      rw [List.append_assoc]
      exact List.perm_middle
    have hlen : L.live.length = L.live.dropLast.length + 1 := by rw [hd]; simp
    have hf := h.few
    have hl := h.last
    simp only
    split
    · refine ⟨⟨⟨rest, ?_⟩, by simp; omega, by simp only [drop_last]; omega⟩, rfl⟩
      simp only
      rw [drop_tells ok (hpr.symm.subset (List.Mem.head _))]
      refine hpr.trans ?_
      rw [List.append_assoc, List.append_assoc, List.append_assoc]
      refine List.perm_middle.symm.trans ?_
      exact List.Perm.append_left _ List.perm_middle.symm
    · obtain ⟨q1, q2, q3, q4⟩ := let_perm ok hpr
      refine ⟨⟨⟨rest, ?_⟩, by simp; omega, by simp only [let_last]; omega⟩, by rw [q4]⟩
      exact q1
theorem free_perm : ∀ (ks : List (Int × Int)) {S : Sp} {r : List (Int × Int)}, Spok S → (tells S.regs).Perm (ks ++ r) → (tells (freeS S ks).regs).Perm r ∧ Spok (freeS S ks) ∧ (freeS S ks).last = S.last
  | [], _, _, ok, hp => ⟨hp, ok, rfl⟩
  | x :: ks, S, r, ok, hp => by
    obtain ⟨q1, q2, -, -⟩ := let_perm ok (x := x) (r := ks ++ r) hp
    obtain ⟨r1, r2, r3⟩ := free_perm ks q2 q1
    exact ⟨r1, r2, by show (freeS (S.let_ x.1).2 ks).last = _; rw [r3, let_last]⟩
theorem PInv.free (h : PInv S L k) (ok : Spok S) : PInv (freeS S L.kept) ⟨L.live, []⟩ (k + 1) := by
  obtain ⟨rest, hp⟩ := h.perm
  have hp' : (tells S.regs).Perm (L.kept ++ (L.live ++ rest)) := by
    refine hp.trans ?_
    rw [← List.append_assoc]
    exact List.perm_append_comm.append_right _
  obtain ⟨q1, q2, q3⟩ := free_perm L.kept ok hp'
  exact ⟨⟨rest, by simpa using q1⟩, by have := h.few; simp; omega, by rw [q3]; have := h.last; omega⟩
theorem PInv.put (h : PInv S L k) (ok : Spok S) (a : Int) (v : Int × Int) : PInv (S.put a v).2 L (k + 1) := by
  refine ⟨?_, h.step.few, by rw [put_last]; exact h.step.last⟩
  rw [put_tells S a v ok]
  exact h.perm
end
end Go.Proofs.Ytkooogllajmkeaa
