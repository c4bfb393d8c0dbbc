/- Parts Xf Xg Xa Xb Xh Xe Hb Hc Hd He, put together. -/
import Derived.Test.YtpfnnmcokbolhaaMe4
import Derived.Test.YtpfnnmcokbolhaaMe7
import Derived.Laws.AppendOwnNone
import Derived.Deep.RegionHeld3
import Derived.Deep.DrawnRows
import Derived.Deep.AppendLies
/- The contracts of layout.within, and of what layouts tell. -/
namespace Go.Proofs.Ytpfnnmcokbolhaa
open Go.RowKit
set_option pp.deepTerms true
theorem flatN_get {α : Type} (n : Nat) (f : α → List Value) (hf : ∀ a, (f a).length = n) : ∀ (l : List α) (i j : Nat), j < n → (l.flatMap f)[i * n + j]? = (l[i]?).bind (fun a => (f a)[j]?)
  | [], i, j, _ => by simp
  | a :: l, 0, j, hj => by
    rw [List.flatMap_cons, List.getElem?_append_left (by rw [hf]; omega)]; simp
  | a :: l, i + 1, j, hj => by
    rw [List.flatMap_cons, List.getElem?_append_right (by rw [hf, Nat.succ_mul]; omega), hf, show (i + 1) * n + j - n = i * n + j by rw [Nat.succ_mul]; omega, flatN_get n f hf l i j hj]; simp
theorem flatN_len {α : Type} (n : Nat) (f : α → List Value) (hf : ∀ a, (f a).length = n) (l : List α) : (l.flatMap f).length = l.length * n := by
  induction l with
  | nil => simp
  | cons a l ih => rw [List.flatMap_cons, List.length_append, ih, hf, List.length_cons, Nat.succ_mul]; omega
def scells (l : List (Int × Int × Int)) : List Value := l.flatMap scell
theorem scells_len (l : List (Int × Int × Int)) : (scells l).length = l.length * 3 := flatN_len 3 _ (fun _ => rfl) l
theorem scells_get (l : List (Int × Int × Int)) (i j : Nat) (hj : j < 3) (hi : i < l.length) : (scells l)[i * 3 + j]? = (scell l[i])[j]? := by
  unfold scells
  rw [flatN_get 3 _ (fun _ => rfl) l i j hj]
  simp [hi]
theorem Rds.news {w : World} {b c n : Nat} {ss : List (Int × Int × Int)} (h : Rds w (.slice (some ⟨b, 0, none⟩) n c) ss) : ∀ j u, (scells ss)[j]? = some u → w.cell? ((⟨b, 0, none⟩ : Addr).add j) = some u := by
  obtain ⟨b', c', e, -, hc⟩ := h
  simp only [Value.slice.injEq, Option.some.injEq, Addr.mk.injEq, and_true] at e
  obtain ⟨rfl, -, -⟩ := e
  intro j u hu
  have hl := (List.getElem?_eq_some_iff.1 hu).1
  rw [scells_len] at hl
  have hi : j / 3 < ss.length := by omega
  have hj : j % 3 < 3 := Nat.mod_lt _ (by omega)
  have e3 : j / 3 * 3 + j % 3 = j := by omega
  rw [← e3, scells_get ss _ _ hj hi] at hu
  have hadd : ((⟨b, 0, none⟩ : Addr).add j) = ⟨b, j / 3 * 3 + j % 3, none⟩ := by rw [e3]; cases j <;> simp [Addr.add]
  rw [hadd]
  obtain ⟨h0, h1, h2⟩ := hc _ hi
  have hj' : j % 3 = 0 ∨ j % 3 = 1 ∨ j % 3 = 2 := by omega
  rcases hj' with q | q | q <;> rw [q] at hu ⊢
  · rw [Nat.add_zero, h0]; simpa [scell] using hu
  · rw [h1]; simpa [scell] using hu
  · rw [h2]; simpa [scell] using hu
theorem Rds.of_row {w : World} {base T : Nat} {v : Value} {ss : List (Int × Int × Int)} (h : w.ownsRow base T 3 v ss.length (scells ss)) (h0 : 0 < ss.length) : Rds w v ss := by
  obtain ⟨g, cap, rfl⟩ := row_shape h h0
  refine ⟨g, cap, rfl, (h.lt g rfl).2, fun k hk => ⟨?_, ?_, ?_⟩⟩
  · exact row_cell h (by have := scells_get ss k 0 (by omega) hk; simpa [scell] using this)
  · exact row_cell h (by have := scells_get ss k 1 (by omega) hk; simpa [scell] using this)
  · exact row_cell h (by have := scells_get ss k 2 (by omega) hk; simpa [scell] using this)
theorem infoSp : (Try.prog.info? 151).map (fun i => (i.zero, i.size, i.bytes)) = some (some (.agg #[.int .i64 0, .int .i64 0, .int .i64 0]), 3, 24) := by kernel_rfl
structure Lay where
  slots : List Int
  args : Int
  res : Int
  height : Int
def layOk (l : Lay) : Bool := l.slots.all knownB && rangeB l.slots.length 0 64 && rangeB l.args 0 l.slots.length && rangeB l.res 0 (l.slots.length - l.args) && rangeB l.height 0 64
/-- a layout as an argument -/
def layV (v : Value) (l : Lay) : Value := .agg #[v, .int .i64 l.args, .int .i64 l.res, .int .i64 l.height]
def laySpans (l : Lay) : List (Int × Int × Int) := [((l.slots.length : Int), 0, 64), (l.args, 0, (l.slots.length : Int)), (l.res, 0, wrap64 ((l.slots.length : Int) - l.args)), (l.height, 0, 64)]
theorem laySpans_ok (l : Lay) (hn : l.slots.length ≤ 4194304) : (l.slots.all knownB && (laySpans l).all spanB) = layOk l := by
  by_cases q : 0 ≤ l.args ∧ l.args ≤ l.slots.length
  · have hw : wrap64 ((l.slots.length : Int) - l.args) = (l.slots.length : Int) - l.args := IntWalk.wrap64_in _ (by omega)
    simp only [laySpans, hw, List.all_cons, List.all_nil, Bool.and_true, spanB, layOk, Bool.and_assoc]
  · have h0 : rangeB l.args 0 l.slots.length = false := by unfold rangeB; simp; omega
    simp [laySpans, spanB, layOk, h0]
set_option maxRecDepth 100000 in
set_option maxHeartbeats 2000000 in
theorem lwithin_nil {sv : Value} {l : Lay} {w : World} (hs : Rdi w sv l.slots) (hn : l.slots.length ≤ 4194304) : Calls Try.prog 85 #[layV sv l, .slice none 0 0] w fun e w' => Below w.heap.size w w' ∧ e = .returned (.bool (layOk l)) := by
  obtain ⟨i0, hi, hz0, hz1, hz2⟩ := info_parts infoSp
  rw [← laySpans_ok l hn]
  have hc := fun w1 (h : Below w.heap.size w w1) => containsT_any (hs.below h) hn
  obtain ⟨ts, a, r, h⟩ := l
  unfold layV laySpans
  simp only at hs hn hc ⊢
  obtain ⟨ao, c, rfl⟩ := hs.shape
  obtain ⟨n, hn'⟩ : ∃ n, ts.length = n := ⟨_, rfl⟩
  rw [hn'] at hn hc ⊢
  have HC := Hid.mk hc
  clear hc hs hn'
  go_enter Try.func85, Try.ntmps85
  go_wp2_with fail
  refine (HC.out _ (((Below.refl _ _).alloc (Nat.le_refl _) _).alloc (by simp) _)).mono ?_
  rintro e w3 ⟨rfl, rfl⟩
  have HB : Hid (Below w.heap.size w ((w.alloc (.cells #[.slice ao n c, .int .i64 a, .int .i64 r, .int .i64 h] 31)).alloc (.cells #[.int .i64 (n : Int), .int .i64 0, .int .i64 64, .int .i64 a, .int .i64 0, .int .i64 (n : Int), .int .i64 r, .int .i64 0, .int .i64 (wrap64 ((n : Int) - a)), .int .i64 h, .int .i64 0, .int .i64 64] 151))) := ((Below.refl _ _).alloc (Nat.le_refl _) _).alloc (by simp) _
  have HR : Hid (Rds ((w.alloc (.cells #[.slice ao n c, .int .i64 a, .int .i64 r, .int .i64 h] 31)).alloc (.cells #[.int .i64 (n : Int), .int .i64 0, .int .i64 64, .int .i64 a, .int .i64 0, .int .i64 (n : Int), .int .i64 r, .int .i64 0, .int .i64 (wrap64 ((n : Int) - a)), .int .i64 h, .int .i64 0, .int .i64 64] 151)) (.slice (some ⟨w.heap.size + 1, 0, none⟩) 4 4) [((n : Int), 0, 64), (a, 0, (n : Int)), (r, 0, wrap64 ((n : Int) - a)), (h, 0, 64)]) := by
    have := World.ownsRow_lit (w.alloc (.cells #[.slice ao n c, .int .i64 a, .int .i64 r, .int .i64 h] 31)) (base := 0) (e := 151) (size := 3) #[.int .i64 (n : Int), .int .i64 0, .int .i64 64, .int .i64 a, .int .i64 0, .int .i64 (n : Int), .int .i64 r, .int .i64 0, .int .i64 (wrap64 ((n : Int) - a)), .int .i64 h, .int .i64 0, .int .i64 64] 4 (Nat.zero_le _) (by decide) rfl
    simp only [World.size_alloc] at this
    exact Rds.of_row this (by simp)
  clear HC
  cases hk : ts.all knownB
  · have HK := Hid.mk hk
    clear hk
    go_wp2_with fail
    go_ret
    exact ⟨HB.out, by rw [HK.out]; rfl⟩
  · have HK := Hid.mk hk
    clear hk
    go_wp2_with fail
    refine (containsS_any HR.out (by simp)).mono ?_
    rintro e w4 ⟨hb4, rfl⟩
    cases hk2 : [((n : Int), (0 : Int), (64 : Int)), (a, 0, (n : Int)), (r, 0, wrap64 ((n : Int) - a)), (h, 0, 64)].all spanB
    all_goals
      have HK2 := Hid.mk hk2
      clear hk2
      go_wp2_with fail
      go_ret
      exact ⟨HB.out.trans (hb4.mono HB.out.size), by rw [HK.out, HK2.out]; rfl⟩
set_option maxRecDepth 100000 in
set_option maxHeartbeats 2000000 in
theorem lwithin_some {sv : Value} {l : Lay} {b m : Nat} {ms : List (Int × Int × Int)} {w : World} (hs : Rdi w sv l.slots) (hn : l.slots.length ≤ 4194304) (hm : Rds w (.slice (some ⟨b, 0, none⟩) m m) ms) (hml : ms.length = m) (hm2 : m ≤ 1000) : Calls Try.prog 85 #[layV sv l, .slice (some ⟨b, 0, none⟩) m m] w fun e w' => Below w.heap.size w w' ∧ e = .returned (.bool (layOk l && ms.all spanB)) := by
  obtain ⟨i0, hi, hz0, hz1, hz2⟩ := info_parts infoSp
  rw [← laySpans_ok l hn]
  have hc := fun w1 (h : Below w.heap.size w w1) => containsT_any (hs.below h) hn
  obtain ⟨ts, a, r, h⟩ := l
  unfold layV laySpans
  simp only at hs hn hc ⊢
  obtain ⟨ao, c, rfl⟩ := hs.shape
  obtain ⟨n, hn'⟩ : ∃ n, ts.length = n := ⟨_, rfl⟩
  rw [hn'] at hn hc ⊢
  have HC := Hid.mk hc
  have HN := Hid.mk (fun w1 (k : Below w.heap.size w w1) => (hm.below k).news)
  have HL : Hid ((scells ms).length = m * 3) := by unfold Hid; rw [scells_len, hml]
  have HM := Hid.mk hml
  have HB1 : Hid (Below w.heap.size w ((w.alloc (.cells #[.slice ao n c, .int .i64 a, .int .i64 r, .int .i64 h] 31)).alloc (.cells #[.int .i64 (n : Int), .int .i64 0, .int .i64 64, .int .i64 a, .int .i64 0, .int .i64 (n : Int), .int .i64 r, .int .i64 0, .int .i64 (wrap64 ((n : Int) - a)), .int .i64 h, .int .i64 0, .int .i64 64] 151))) := ((Below.refl _ _).alloc (Nat.le_refl _) _).alloc (by simp) _
  have HO : Hid (((w.alloc (.cells #[.slice ao n c, .int .i64 a, .int .i64 r, .int .i64 h] 31)).alloc (.cells #[.int .i64 (n : Int), .int .i64 0, .int .i64 64, .int .i64 a, .int .i64 0, .int .i64 (n : Int), .int .i64 r, .int .i64 0, .int .i64 (wrap64 ((n : Int) - a)), .int .i64 h, .int .i64 0, .int .i64 64] 151)).ownsRow w.heap.size 151 3 (.slice (some ⟨w.heap.size + 1, 0, none⟩) 4 4) 4 [.int .i64 (n : Int), .int .i64 0, .int .i64 64, .int .i64 a, .int .i64 0, .int .i64 (n : Int), .int .i64 r, .int .i64 0, .int .i64 (wrap64 ((n : Int) - a)), .int .i64 h, .int .i64 0, .int .i64 64]) := by
    have := World.ownsRow_lit (w.alloc (.cells #[.slice ao n c, .int .i64 a, .int .i64 r, .int .i64 h] 31)) (base := w.heap.size) (e := 151) (size := 3) #[.int .i64 (n : Int), .int .i64 0, .int .i64 64, .int .i64 a, .int .i64 0, .int .i64 (n : Int), .int .i64 r, .int .i64 0, .int .i64 (wrap64 ((n : Int) - a)), .int .i64 h, .int .i64 0, .int .i64 64] 4 (by simp) (by decide) rfl
    simp only [World.size_alloc] at this
    exact this
  clear hc hs hn' hm hml
  go_enter Try.func85, Try.ntmps85
  go_wp2_with (at_builtin; refine wpList_append_own _ rfl (.tmp 29) (.tmp 30) 161 rfl w.heap.size 151 i0 (.agg #[.int .i64 0, .int .i64 0, .int .i64 0]) 3 24 Try.underlying161 hi hz0 hz1 hz2 rfl (by decide) _ 4 _ rfl HO.out ⟨b, 0, none⟩ m m (scells ms) rfl ?c1 ?c2 ?c3 ?c4 ?c5 ?c6 ?_)
  case c1 => exact HL.out
  case c2 => exact HN.out _ HB1.out
  case c3 =>
    intro u hu
    obtain ⟨x, -, hx⟩ := List.mem_flatMap.1 hu
    simp only [scell, List.mem_cons, List.not_mem_nil, or_false] at hx
    rcases hx with rfl | rfl | rfl <;> rfl
  case c4 => unfold maxLen; omega
  case c5 => omega
  case c6 => simp; omega
  intro v' w' hown hgrow hnn
  have HW : Hid (Below w.heap.size w w') := HB1.out.grown hgrow HB1.out.size (by intro k hk; simp [Value.ownBlock] at hk; omega)
  have HR : Hid (Rds w' v' ([((n : Int), 0, 64), (a, 0, (n : Int)), (r, 0, wrap64 ((n : Int) - a)), (h, 0, 64)] ++ ms)) := by
    refine Rds.of_row (base := w.heap.size) (T := 151) ?_ (by simp)
    have e : ([((n : Int), (0 : Int), (64 : Int)), (a, 0, (n : Int)), (r, 0, wrap64 ((n : Int) - a)), (h, 0, 64)] ++ ms).length = 4 + m := by simp [HM.out]; omega
    rw [e]
    have e2 : scells ([((n : Int), (0 : Int), (64 : Int)), (a, 0, (n : Int)), (r, 0, wrap64 ((n : Int) - a)), (h, 0, 64)] ++ ms) = [.int .i64 (n : Int), .int .i64 0, .int .i64 64, .int .i64 a, .int .i64 0, .int .i64 (n : Int), .int .i64 r, .int .i64 0, .int .i64 (wrap64 ((n : Int) - a)), .int .i64 h, .int .i64 0, .int .i64 64] ++ scells ms := by simp [scells, scell]
    rw [e2]
    exact hown
  obtain ⟨ao2, c2, rfl⟩ := own_shape hown
  have hk : Kp [w.heap.size + 1] _ w' := (Kp.refl _ _).grown hgrow (by intro q hq; simp [Value.ownBlock] at hq; exact .inl (by simp [hq]))
  have hb0 := hk.at (b := w.heap.size) ((Below.heap_alloc _ _ _ (by simp)).trans (heap_alloc_new w _)) (by simp)
  have c0 : w'.cell? ⟨w.heap.size, 0, none⟩ = some (.slice ao n c) := by rw [cell_of_row w' w.heap.size 0 _ _ _ hb0]; rfl
  clear hown hgrow hnn HN HL HB1 HO hk hb0
  go_wp2_with fail
  refine (HC.out _ HW.out).mono ?_
  rintro e w3 ⟨rfl, rfl⟩
  have HS : Hid (([((n : Int), (0 : Int), (64 : Int)), (a, 0, (n : Int)), (r, 0, wrap64 ((n : Int) - a)), (h, 0, 64)] ++ ms).length ≤ 4194304) := by unfold Hid; simp [HM.out]; omega
  clear HC
  cases hk : ts.all knownB
  · have HK := Hid.mk hk
    clear hk
    go_wp2_with fail
    go_ret
    exact ⟨HW.out, by rw [HK.out]; rfl⟩
  · have HK := Hid.mk hk
    clear hk
    go_wp2_with fail
    refine (containsS_any HR.out HS.out).mono ?_
    rintro e w4 ⟨hb4, rfl⟩
    rw [List.all_append]
    cases hk2 : [((n : Int), (0 : Int), (64 : Int)), (a, 0, (n : Int)), (r, 0, wrap64 ((n : Int) - a)), (h, 0, 64)].all spanB <;> cases hk3 : ms.all spanB
    all_goals
      have HK2 := Hid.mk hk2
      have HK3 := Hid.mk hk3
      clear hk2 hk3
      go_wp2_with fail
      go_ret
      exact ⟨HW.out.trans (hb4.mono HW.out.size), by rw [HK.out, HK2.out, HK3.out]; rfl⟩
end Go.Proofs.Ytpfnnmcokbolhaa
/- The contracts of layout.Check, Words, Link, Begin, Slot. -/
namespace Go.Proofs.Ytpfnnmcokbolhaa
open Go.RowKit
set_option pp.deepTerms true
def Lay.words (l : Lay) : Int := l.slots.length + l.height + 1
theorem layOk_iff (l : Lay) : layOk l = true ↔ (l.slots.all knownB = true ∧ l.slots.length ≤ 64 ∧ 0 ≤ l.args ∧ l.args ≤ l.slots.length ∧ 0 ≤ l.res ∧ l.res ≤ l.slots.length - l.args ∧ 0 ≤ l.height ∧ l.height ≤ 64) := by
  simp only [layOk, rangeB, Bool.and_eq_true, decide_eq_true_eq]
  constructor
  · rintro ⟨⟨⟨⟨h1, h2, h3⟩, h4, h5⟩, h6, h7⟩, h8, h9⟩
    exact ⟨h1, by omega, h4, h5, h6, h7, h8, h9⟩
  · rintro ⟨h1, h2, h3, h4, h5, h6, h7, h8⟩
    exact ⟨⟨⟨⟨h1, by omega, by omega⟩, h3, h4⟩, h5, h6⟩, h7, h8⟩
section
variable {sv : Value} {l : Lay} {w : World}
theorem lCheck_any (hs : Rdi w sv l.slots) (hn : l.slots.length ≤ 4194304) : Calls Try.prog 63 #[layV sv l] w fun e w' => Below w.heap.size w w' ∧ e = .returned (.int .i64 (if layOk l then 0 else 220)) := by
  have HC := Hid.mk (lwithin_nil (hs.below ((Below.refl _ _).alloc (Nat.le_refl _) (.cells #[sv, .int .i64 l.args, .int .i64 l.res, .int .i64 l.height] 31))) hn)
  have HB : Hid (Below w.heap.size w (w.alloc (.cells #[sv, .int .i64 l.args, .int .i64 l.res, .int .i64 l.height] 31))) := (Below.refl _ _).alloc (Nat.le_refl _) _
  obtain ⟨ts, a, r, h⟩ := l
  obtain ⟨ao, c, rfl⟩ := hs.shape
  simp only at HC HB hn ⊢
  unfold layV at HC ⊢
  simp only at HC ⊢
  obtain ⟨n, hn'⟩ : ∃ n, ts.length = n := ⟨_, rfl⟩
  rw [hn'] at HC HB ⊢
  clear hs hn hn'
  cases hk : layOk ⟨ts, a, r, h⟩
  all_goals
    have HK := Hid.mk hk
    rw [hk] at HC
    clear hk
    go_enter Try.func63, Try.ntmps63
    go_wp2_with fail
    refine HC.out.mono ?_
    rintro e w1 ⟨hb1, rfl⟩
    go_wp2_with fail
    go_ret
    exact ⟨HB.out.trans (hb1.mono HB.out.size), rfl⟩
theorem lWords_any (hs : Rdi w sv l.slots) (hk : layOk l = true) : Calls Try.prog 66 #[layV sv l] w fun e w' => Below w.heap.size w w' ∧ e = .returned (.int .i64 l.words) := by
  obtain ⟨-, hn, h1, h2, h3, h4, h5, h6⟩ := (layOk_iff l).1 hk
  have HC := Hid.mk (lwithin_nil (hs.below ((Below.refl _ _).alloc (Nat.le_refl _) (.cells #[sv, .int .i64 l.args, .int .i64 l.res, .int .i64 l.height] 31))) (by omega))
  have HB : Hid (Below w.heap.size w (w.alloc (.cells #[sv, .int .i64 l.args, .int .i64 l.res, .int .i64 l.height] 31))) := (Below.refl _ _).alloc (Nat.le_refl _) _
  have c0 : (w.alloc (.cells #[sv, .int .i64 l.args, .int .i64 l.res, .int .i64 l.height] 31)).cell? ⟨w.heap.size, 0, none⟩ = some sv := by simp
  have c3 : (w.alloc (.cells #[sv, .int .i64 l.args, .int .i64 l.res, .int .i64 l.height] 31)).cell? ⟨w.heap.size, 3, none⟩ = some (.int .i64 l.height) := by simp
  rw [hk] at HC
  unfold Lay.words
  obtain ⟨ts, a, r, h⟩ := l
  obtain ⟨ao, c, rfl⟩ := hs.shape
  simp only at HC HB hn h1 h2 h3 h4 h5 h6 c0 c3 ⊢
  unfold layV at HC ⊢
  simp only at HC ⊢
  obtain ⟨n, hn'⟩ : ∃ n, ts.length = n := ⟨_, rfl⟩
  rw [hn'] at HC HB hn h2 h4 c0 c3 ⊢
  clear hs hn' hk
  go_enter Try.func66, Try.ntmps66
  go_wp2_with fail
  refine HC.out.mono ?_
  rintro e w1 ⟨hb1, rfl⟩
  have d0 := keep_be hb1 c0
  have d3 := keep_be hb1 c3
  have HW := Hid.mk (HB.out.trans (hb1.mono HB.out.size))
  clear HC HB hb1
  go_wp2_with fail
  go_ret
  exact ⟨HW.out, rfl⟩
theorem lLink_any (hs : Rdi w sv l.slots) (hk : layOk l = true) : Calls Try.prog 75 #[layV sv l] w fun e w' => Below w.heap.size w w' ∧ e = .returned (.tuple #[.int .i64 l.slots.length, .int .i64 0]) := by
  obtain ⟨-, hn, h1, h2, h3, h4, h5, h6⟩ := (layOk_iff l).1 hk
  have HC := Hid.mk (lwithin_nil (hs.below ((Below.refl _ _).alloc (Nat.le_refl _) (.cells #[sv, .int .i64 l.args, .int .i64 l.res, .int .i64 l.height] 31))) (by omega))
  have HB : Hid (Below w.heap.size w (w.alloc (.cells #[sv, .int .i64 l.args, .int .i64 l.res, .int .i64 l.height] 31))) := (Below.refl _ _).alloc (Nat.le_refl _) _
  have c0 : (w.alloc (.cells #[sv, .int .i64 l.args, .int .i64 l.res, .int .i64 l.height] 31)).cell? ⟨w.heap.size, 0, none⟩ = some sv := by simp
  rw [hk] at HC
  obtain ⟨ts, a, r, h⟩ := l
  obtain ⟨ao, c, rfl⟩ := hs.shape
  simp only at HC HB hn h1 h2 h3 h4 h5 h6 c0 ⊢
  unfold layV at HC ⊢
  simp only at HC ⊢
  obtain ⟨n, hn'⟩ : ∃ n, ts.length = n := ⟨_, rfl⟩
  rw [hn'] at HC HB hn h2 h4 c0 ⊢
  clear hs hn' hk
  go_enter Try.func75, Try.ntmps75
  go_wp2_with fail
  refine HC.out.mono ?_
  rintro e w1 ⟨hb1, rfl⟩
  have d0 := keep_be hb1 c0
  have HW := Hid.mk (HB.out.trans (hb1.mono HB.out.size))
  clear HC HB hb1
  go_wp2_with fail
  go_ret2
  exact ⟨HW.out, rfl⟩
set_option maxRecDepth 100000 in
theorem lBegin_any (hs : Rdi w sv l.slots) (hk : layOk l = true) {o k : Int} (h0 : 0 ≤ o) (ho : o ≤ l.height) (hk0 : 0 ≤ k) (hk1 : k ≤ o) : Calls Try.prog 65 #[layV sv l, .int .i64 o, .int .i64 k] w fun e w' => Below w.heap.size w w' ∧ e = .returned (.tuple #[.int .i64 (l.slots.length + 1 + o - k), .int .i64 0]) := by
  obtain ⟨-, hn, h1, h2, h3, h4, h5, h6⟩ := (layOk_iff l).1 hk
  have hB : Below w.heap.size w ((w.alloc (.cells #[sv, .int .i64 l.args, .int .i64 l.res, .int .i64 l.height] 31)).alloc (.cells #[.int .i64 o, .int .i64 0, .int .i64 l.height, .int .i64 k, .int .i64 0, .int .i64 o] 151)) := ((Below.refl _ _).alloc (Nat.le_refl _) _).alloc (by simp) _
  have hR : Rds ((w.alloc (.cells #[sv, .int .i64 l.args, .int .i64 l.res, .int .i64 l.height] 31)).alloc (.cells #[.int .i64 o, .int .i64 0, .int .i64 l.height, .int .i64 k, .int .i64 0, .int .i64 o] 151)) (.slice (some ⟨w.heap.size + 1, 0, none⟩) 2 2) [(o, 0, l.height), (k, 0, o)] := by
    have := World.ownsRow_lit (w.alloc (.cells #[sv, .int .i64 l.args, .int .i64 l.res, .int .i64 l.height] 31)) (base := 0) (e := 151) (size := 3) #[.int .i64 o, .int .i64 0, .int .i64 l.height, .int .i64 k, .int .i64 0, .int .i64 o] 2 (Nat.zero_le _) (by decide) rfl
    simp only [World.size_alloc] at this
    exact Rds.of_row this (by simp)
  have HC := Hid.mk (lwithin_some (hs.below hB) (by omega) hR rfl (by omega))
  have e1 : [(o, (0 : Int), l.height), (k, 0, o)].all spanB = true := by simp [spanB, rangeB]; omega
  have c0 : ((w.alloc (.cells #[sv, .int .i64 l.args, .int .i64 l.res, .int .i64 l.height] 31)).alloc (.cells #[.int .i64 o, .int .i64 0, .int .i64 l.height, .int .i64 k, .int .i64 0, .int .i64 o] 151)).cell? ⟨w.heap.size, 0, none⟩ = some sv := alloc_cell (by simp)
  rw [hk, e1] at HC
  have HB := Hid.mk hB
  obtain ⟨ts, a, r, h⟩ := l
  obtain ⟨ao, c, rfl⟩ := hs.shape
  simp only at HC HB hn h1 h2 h3 h4 h5 h6 c0 ho ⊢
  unfold layV at HC ⊢
  simp only at HC ⊢
  obtain ⟨n, hn'⟩ : ∃ n, ts.length = n := ⟨_, rfl⟩
  rw [hn'] at HC HB hn h2 h4 c0 ⊢
  clear hs hn' hk hR hB e1
  go_enter Try.func65, Try.ntmps65
  go_wp2_with fail
  refine HC.out.mono ?_
  rintro e w1 ⟨hb1, rfl⟩
  have d0 := keep_be hb1 c0
  have HW := Hid.mk (HB.out.trans (hb1.mono HB.out.size))
  clear HC HB hb1
  go_wp2_with fail
  go_ret2
  exact ⟨HW.out, rfl⟩
set_option maxRecDepth 100000 in
theorem lSlot_any (hs : Rdi w sv l.slots) (hk : layOk l = true) (i : Int) : Calls Try.prog 68 #[layV sv l, .int .i64 i] w fun e w' => Below w.heap.size w w' ∧ e = .returned (if rangeB i 0 (l.slots.length - 1) then .tuple #[.int .i64 i, .int .i64 (l.slots[i.toNat]?.getD 0), .int .i64 0] else .tuple #[.int .i64 0, .int .i64 0, .int .i64 220]) := by
  obtain ⟨-, hn, h1, h2, h3, h4, h5, h6⟩ := (layOk_iff l).1 hk
  have hB : Below w.heap.size w ((w.alloc (.cells #[sv, .int .i64 l.args, .int .i64 l.res, .int .i64 l.height] 31)).alloc (.cells #[.int .i64 i, .int .i64 0, .int .i64 ((l.slots.length : Int) - 1)] 151)) := ((Below.refl _ _).alloc (Nat.le_refl _) _).alloc (by simp) _
  have hR : Rds ((w.alloc (.cells #[sv, .int .i64 l.args, .int .i64 l.res, .int .i64 l.height] 31)).alloc (.cells #[.int .i64 i, .int .i64 0, .int .i64 ((l.slots.length : Int) - 1)] 151)) (.slice (some ⟨w.heap.size + 1, 0, none⟩) 1 1) [(i, 0, (l.slots.length : Int) - 1)] := by
    have := World.ownsRow_lit (w.alloc (.cells #[sv, .int .i64 l.args, .int .i64 l.res, .int .i64 l.height] 31)) (base := 0) (e := 151) (size := 3) #[.int .i64 i, .int .i64 0, .int .i64 ((l.slots.length : Int) - 1)] 1 (Nat.zero_le _) (by decide) rfl
    simp only [World.size_alloc] at this
    exact Rds.of_row this (by simp)
  have HC := Hid.mk (lwithin_some (hs.below hB) (by omega) hR rfl (by omega))
  have e1 : [(i, (0 : Int), (l.slots.length : Int) - 1)].all spanB = rangeB i 0 (l.slots.length - 1) := by simp [spanB]
  have c0 : ((w.alloc (.cells #[sv, .int .i64 l.args, .int .i64 l.res, .int .i64 l.height] 31)).alloc (.cells #[.int .i64 i, .int .i64 0, .int .i64 ((l.slots.length : Int) - 1)] 151)).cell? ⟨w.heap.size, 0, none⟩ = some sv := alloc_cell (by simp)
  rw [hk, e1, Bool.true_and] at HC
  have HB := Hid.mk hB
  cases hr : rangeB i 0 (l.slots.length - 1)
  · rw [hr] at HC
    obtain ⟨ts, a, r, h⟩ := l
    obtain ⟨ao, c, rfl⟩ := hs.shape
    simp only at HC HB hn h1 h2 h3 h4 h5 h6 c0 ⊢
    unfold layV at HC ⊢
    simp only at HC ⊢
    obtain ⟨n, hn'⟩ : ∃ n, ts.length = n := ⟨_, rfl⟩
    rw [hn'] at HC HB hn h2 h4 c0 ⊢
    clear hs hn' hk hR hB e1 hr
    go_enter Try.func68, Try.ntmps68
    go_wp2_with fail
    refine HC.out.mono ?_
    rintro e w1 ⟨hb1, rfl⟩
    have HW := Hid.mk (HB.out.trans (hb1.mono HB.out.size))
    clear HC HB hb1
    go_wp2_with fail
    refine bodyPost_ret (v := .tuple #[.int .i64 0, .int .i64 0, .int .i64 220]) (by simp [results, Try.results68, go_sem]) rfl ⟨HW.out, rfl⟩
  · rw [hr] at HC
    have hr' : 0 ≤ i ∧ i ≤ (l.slots.length : Int) - 1 := by simpa [rangeB] using hr
    obtain ⟨j, rfl⟩ := Int.eq_ofNat_of_zero_le hr'.1
    have hj : j < l.slots.length := by omega
    obtain ⟨b, o, c, rfl, hbl, hc⟩ := hs.some (by omega)
    have cj := (hB.cell (p := ⟨b, o + j, none⟩) hbl).trans (hc j hj)
    obtain ⟨ts, a, r, h⟩ := l
    simp only at HC HB hn h1 h2 h3 h4 h5 h6 c0 hj cj hr' ⊢
    unfold layV at HC ⊢
    simp only [Int.toNat_natCast, List.getElem?_eq_getElem hj, Option.getD_some] at HC ⊢
    obtain ⟨t, ht⟩ : ∃ t, ts[j] = t := ⟨_, rfl⟩
    rw [ht] at cj ⊢
    clear ht hc hs e1 hr hk hR hB
    obtain ⟨n, hn'⟩ : ∃ n, ts.length = n := ⟨_, rfl⟩
    rw [hn'] at HC HB hn h2 h4 c0 hj hr' cj ⊢
    clear hn'
    go_enter Try.func68, Try.ntmps68
    go_wp2_with fail
    refine HC.out.mono ?_
    rintro e w1 ⟨hb1, rfl⟩
    have d0 := keep_be hb1 c0
    have dj := keep_be hb1 cj
    have HW := Hid.mk (HB.out.trans (hb1.mono HB.out.size))
    clear HC HB hb1
    go_wp2_with fail
    go_quiet (fail)
    go_wp2_with fail
    refine bodyPost_ret (v := .tuple #[.int .i64 j, .int .i64 t, .int .i64 0]) (by simp [results, Try.results68, go_sem]) rfl ⟨below_drewN HW.out _, rfl⟩
end
end Go.Proofs.Ytpfnnmcokbolhaa
/- A chain of frames as plain data: what each call answers and leaves. -/
namespace Go.Proofs.Ytpfnnmcokbolhaa
open Go.RowKit
/-- a frame -/
structure Fr where
  lay : Lay
  base : Int
  ops : Int
  own : Bool
def Fr.free (f : Fr) (k : Int) : Int := f.base + (f.lay.slots.length + 1 + f.ops - k)
def Fr.link (f : Fr) : Int := f.base + f.lay.slots.length
/-- a chain: its space, its segments, its frames, the top one first -/
structure Ch where
  S : Sp
  L : Lk
  F : List Fr
def Lay.can (l : Lay) (place : Int) : Bool := layOk l && (decide (0 ≤ place) && decide (place < 512))
/-- slots' first values -/
def fillV : List Int → List (Int × Int) → List (Int × Int)
  | [], _ => []
  | t :: ts, [] => (t, 0) :: fillV ts []
  | _ :: ts, a :: l => a :: fillV ts l
def putAll (S : Sp) (b : Int) : List (Int × Int) → Sp
  | [] => S
  | v :: vs => putAll (S.put b v).2 (b + 1) vs
/-- a frame is laid at a word -/
def layIn (C : Ch) (l : Lay) (b : Int) (own : Bool) (link : Int) (args : List (Int × Int)) : Ch :=
  ⟨((putAll C.S b (fillV l.slots args)).put (b + l.slots.length) (1, link)).2, C.L, ⟨l, b, 0, own⟩ :: C.F⟩
def beginC (sz : Int) (C : Ch) (l : Lay) (at_ link : Int) (args : List (Int × Int)) (first : Ch → Ch) : Int × Ch :=
  if (topOf C.L.live).1.1 + (topOf C.L.live).1.2 < at_ + l.words then
    if (pushL C.S C.L sz l.words).1.2 = 0 then
      (0, layIn (first ⟨(pushL C.S C.L sz l.words).2.1, (pushL C.S C.L sz l.words).2.2, C.F⟩) l (pushL C.S C.L sz l.words).1.1.1 true link args)
    else ((pushL C.S C.L sz l.words).1.2, ⟨(pushL C.S C.L sz l.words).2.1, (pushL C.S C.L sz l.words).2.2, C.F⟩)
  else (0, layIn (first C) l at_ false link args)
/-- what Call does ahead of what is written -/
def callF (l : Lay) (at_ : Int) (C : Ch) : Ch := match C.F with
  | [] => C
  | f :: fs => ⟨(C.S.drop at_ l.args).2, C.L, { f with ops := f.ops - l.args } :: fs⟩
def callC (sz : Int) (C : Ch) (l : Lay) (place : Int) : Int × Ch :=
  if l.can place then match C.F with
    | [] => (250, C)
    | f :: _ =>
      if f.ops < l.args then (250, C) else
      if (C.S.run (f.free l.args) l.args).2 = 0 ∧ fitsB (l.slots.take l.args.toNat) ((C.S.run (f.free l.args) l.args).1.getD []) = true then
        beginC sz C l (f.free l.args) (place * 128 + f.ops) ((C.S.run (f.free l.args) l.args).1.getD []) (callF l (f.free l.args))
      else (250, C)
  else (250, C)
def runC (sz : Int) (C : Ch) (l : Lay) (args : List (Int × Int)) (place : Int) : Int × Ch :=
  if l.can place then
    if fitsB (l.slots.take l.args.toNat) args then match C.F with
      | [] => beginC sz C l (topOf C.L.live).1.1 (place * 128 + 0) args id
      | f :: _ => beginC sz C l (f.free 0) (place * 128 + f.ops) args id
    else (250, C)
  else (250, C)
def goesC (ca : Int) (C : Ch) : Ch := match C.F with
  | [] => C
  | f :: fs =>
    if f.own then ⟨(popL (C.S.drop f.base f.lay.words).2 C.L ca).2.1, (popL (C.S.drop f.base f.lay.words).2 C.L ca).2.2, fs⟩
    else ⟨(C.S.drop f.base f.lay.words).2, C.L, fs⟩
def resC (C : Ch) : Option (List (Int × Int)) × Int := match C.F with
  | [] => (none, 250)
  | f :: _ => if (C.S.run (f.base + f.lay.args) f.lay.res).2 = 0 then ((C.S.run (f.base + f.lay.args) f.lay.res).1, 0) else (none, 250)
def pushC (C : Ch) (v : Int × Int) : Int × Ch := match C.F with
  | [] => (250, C)
  | f :: fs => if okV v.1 v.2 = true ∧ f.ops ≠ f.lay.height then (0, ⟨(C.S.put (f.free 0) v).2, C.L, { f with ops := f.ops + 1 } :: fs⟩) else (250, C)
def pushAll (C : Ch) : List (Int × Int) → Ch
  | [] => C
  | v :: vs => pushAll (pushC C v).2 vs
def retC (ca : Int) (C : Ch) : Int × Ch :=
  if (resC C).2 = 0 then match C.F with
    | _ :: g :: _ => if g.lay.height < g.ops + (((resC C).1.getD []).length : Int) then (250, C) else (0, pushAll (goesC ca C) ((resC C).1.getD []))
    | _ => (250, C)
  else ((resC C).2, C)
def dropC (ca : Int) (C : Ch) : Int × Ch := match C.F with
  | [] => (250, C)
  | _ :: _ => (0, goesC ca C)
def goesN (ca : Int) (C : Ch) : Nat → Ch
  | 0 => C
  | n + 1 => goesN ca (goesC ca C) n
def cutC (ca : Int) (C : Ch) (depth : Int) : Int × Ch :=
  if depth < 0 ∨ C.F.length < depth then (250, C) else (0, goesN ca C (C.F.length - depth.toNat))
def popC (C : Ch) : ((Int × Int) × Int) × Ch := match C.F with
  | [] => (((0, 0), 250), C)
  | f :: fs => if f.ops = 0 then (((0, 0), 250), C) else (((C.S.get (f.free 1)).1, 0), ⟨(C.S.drop (f.free 1) 1).2, C.L, { f with ops := f.ops - 1 } :: fs⟩)
/-- a slot's word, type, and the error -/
def slotC (C : Ch) (i : Int) : (Int × Int) × Int := match C.F with
  | [] => ((0, 0), 250)
  | f :: _ => if rangeB i 0 (f.lay.slots.length - 1) then ((f.base + i, f.lay.slots[i.toNat]?.getD 0), 0) else ((0, 0), 250)
def loadC (C : Ch) (i : Int) : (Int × Int) × Int := if (slotC C i).2 = 0 then ((C.S.get (slotC C i).1.1).1, 0) else ((0, 0), (slotC C i).2)
def storeC (C : Ch) (i : Int) (v : Int × Int) : Int × Ch :=
  if (slotC C i).2 = 0 then
    if v.1 = (slotC C i).1.2 ∧ okV v.1 v.2 = true then ((C.S.put (slotC C i).1.1 v).1, ⟨(C.S.put (slotC C i).1.1 v).2, C.L, C.F⟩) else (250, C)
  else ((slotC C i).2, C)
def addrC (C : Ch) (i : Int) : (Int × Int) × Int :=
  if (slotC C i).2 = 0 then if (slotC C i).1.2 = 1 then ((4, (slotC C i).1.1), 0) else ((0, 0), 250) else ((0, 0), (slotC C i).2)
def inL (l : List (Int × Int)) (a : Int) : Bool := l.any fun r => decide (r.1 ≤ a) && decide (a < r.1 + r.2)
def getC (C : Ch) (p : Int × Int) : (Int × Int) × Int := match C.F with
  | [] => ((0, 0), 250)
  | _ :: _ => if p.1 = 4 ∧ inL C.L.live p.2 = true ∧ (C.S.get p.2).2 = 0 ∧ (C.S.get p.2).1.1 = 1 then ((C.S.get p.2).1, 0) else ((0, 0), 250)
def putC (C : Ch) (p v : Int × Int) : Int × Ch :=
  if (getC C p).2 = 0 then if v.1 = 1 then ((C.S.put p.2 v).1, ⟨(C.S.put p.2 v).2, C.L, C.F⟩) else (250, C) else ((getC C p).2, C)
def placeC (C : Ch) : (Int × Int) × Int := match C.F with
  | [] => ((0, 0), 250)
  | f :: _ => ((Int.tdiv (C.S.get f.link).1.2 128, Int.tmod (C.S.get f.link).1.2 128), 0)
def heightC (C : Ch) : Int := match C.F with
  | [] => 0
  | f :: _ => f.ops
/-- all words of live segments -/
def wordsR (S : Sp) (r : Int × Int) : List (Int × Int) := (List.range r.2.toNat).map fun (j : Nat) => (S.get (r.1 + (j : Int))).1
def wordsC (C : Ch) : List (Int × Int) := C.L.live.flatMap (wordsR C.S)
/-- a chain without frames -/
def newC (sz : Int) : Int × Ch := ((pushL ⟨[], 0⟩ ⟨[], []⟩ sz 1).1.2, ⟨(pushL ⟨[], 0⟩ ⟨[], []⟩ sz 1).2.1, (pushL ⟨[], 0⟩ ⟨[], []⟩ sz 1).2.2, []⟩)
end Go.Proofs.Ytpfnnmcokbolhaa
/- A chain in memory: its box, its row of frames, each frame's row of slots. -/
namespace Go.Proofs.Ytpfnnmcokbolhaa
open Go.RowKit
set_option pp.deepTerms true
/-- a frame's cells -/
def fcell (v : Value) (f : Fr) : List Value := [v, .int .i64 f.lay.args, .int .i64 f.lay.res, .int .i64 f.lay.height, .int .i64 f.base, .int .i64 f.ops, .bool f.own]
def fcells (l : List (Value × Fr)) : List Value := l.reverse.flatMap fun x => fcell x.1 x.2
theorem fcells_len (l : List (Value × Fr)) : (fcells l).length = l.length * 7 := by
  unfold fcells
  rw [flatN_len 7 _ (fun _ => rfl), List.length_reverse]
theorem fcells_cons (x : Value × Fr) (l : List (Value × Fr)) : fcells (x :: l) = fcells l ++ fcell x.1 x.2 := by simp [fcells]
theorem fcells_top (x : Value × Fr) (l : List (Value × Fr)) (i : Nat) : (fcells (x :: l))[l.length * 7 + i]? = (fcell x.1 x.2)[i]? := by
  rw [fcells_cons, List.getElem?_append_right (by rw [fcells_len]; omega), fcells_len]
  congr 1
  omega
theorem fcells_below (x y : Value × Fr) (l : List (Value × Fr)) (i : Nat) (hi : i < 7) : (fcells (x :: y :: l))[l.length * 7 + i]? = (fcell y.1 y.2)[i]? := by
  rw [fcells_cons, List.getElem?_append_left (by rw [fcells_len, List.length_cons]; omega), fcells_top]
/-- the slots' rows of frames -/
def rowsA : List (Value × Fr) → Asr
  | [] => pf True
  | x :: l => Asr.sep (rw_ 0 3 1 x.1 x.2.lay.slots.length (icells x.2.lay.slots)) (rowsA l)
def chA (b p k : Nat) (fs : List Fr) : Asr :=
  Asr.ex fun lv => Asr.ex fun l => Asr.sep (pf (l.map Prod.snd = fs)) (Asr.sep (bx b (.cells #[.pointer (some ⟨p, 0, none⟩), .pointer (some ⟨k, 0, none⟩), lv] 78 (0, 0)))
    (Asr.sep (rw_ 0 99 7 lv l.length (fcells l)) (rowsA l)))
section
variable {w W : World} {F : List Asr} {b p k : Nat} {fs : List Fr} {l : List (Value × Fr)} {lv : Value} {x : Value × Fr}
theorem Sep.pfE {P : Prop} (h : Sep w (pf P :: F) W) : P ∧ Sep w F W := by
  obtain ⟨_, q, -⟩ := h.mem (A := pf P) (by simp)
  exact ⟨q.2, h.tl⟩
theorem Sep.pfI {P : Prop} (hp : P) (h : Sep w F W) : Sep w (pf P :: F) W := h.new (Below.refl _ _) (fs := []) ⟨rfl, hp⟩ (by simp)
theorem ch_open (h : Sep w (chA b p k fs :: F) W) : ∃ lv l, l.map Prod.snd = fs ∧ Sep w (bx b (.cells #[.pointer (some ⟨p, 0, none⟩), .pointer (some ⟨k, 0, none⟩), lv] 78 (0, 0)) :: rw_ 0 99 7 lv l.length (fcells l) :: rowsA l :: F) W := by
  obtain ⟨lv, h⟩ := h.exE
  obtain ⟨l, h⟩ := h.exE
  obtain ⟨h1, h2⟩ := h.sepE.pfE
  have h3 := h2.sepE
  have h4 := (h3.perm (List.Perm.swap _ _ _)).sepE
  exact ⟨lv, l, h1, h4.perm (List.Perm.trans (List.Perm.cons _ (List.Perm.swap _ _ _)) (List.Perm.swap _ _ _))⟩
theorem ch_close (h : Sep w (bx b (.cells #[.pointer (some ⟨p, 0, none⟩), .pointer (some ⟨k, 0, none⟩), lv] 78 (0, 0)) :: rw_ 0 99 7 lv l.length (fcells l) :: rowsA l :: F) W) (hl : l.map Prod.snd = fs) : Sep w (chA b p k fs :: F) W := by
  refine Sep.exI lv (Sep.exI l (Sep.sepI (Sep.pfI hl (Sep.sepI ?_))))
  refine Sep.perm ?_ (List.Perm.swap _ _ _)
  refine Sep.sepI ?_
  exact h.perm (List.Perm.trans (List.Perm.swap _ _ _) (List.Perm.cons _ (List.Perm.swap _ _ _)))
/-- a frame as it is read -/
structure FrAt (W : World) (g o : Nat) (v : Value) (f : Fr) : Prop where
  cells : ∀ i u, (fcell v f)[i]? = some u → W.cell? ⟨g, o + i, none⟩ = some u
  slots : Rdi W v f.lay.slots
theorem FrAt.below {W W' : World} {g o : Nat} {v : Value} {f : Fr} (h : FrAt W g o v f) (k : Below W.heap.size W W') : FrAt W' g o v f :=
  ⟨fun i u hi => (k.cell (cell_lt (h.cells i u hi))).trans (h.cells i u hi), h.slots.below k⟩
theorem rowsA_top (h : Sep w (rowsA (x :: l) :: F) W) : Rdi W x.1 x.2.lay.slots := by
  have := h.sepE.owns (base := 0) (T := 3) (n := 1) (v := x.1) (m := x.2.lay.slots.length) (xs := icells x.2.lay.slots) (by simp)
  exact Rdi.of_row this rfl
theorem rowsA_next {y : Value × Fr} (h : Sep w (rowsA (x :: y :: l) :: F) W) : Rdi W y.1 y.2.lay.slots := rowsA_top h.sepE.tl
/-- the top frame, and its pointer -/
theorem ch_top (h : Sep w (rw_ 0 99 7 lv (l.length + 1) (fcells (x :: l)) :: rowsA (x :: l) :: F) W) : ∃ g c, lv = .slice (some ⟨g, 0, none⟩) (l.length + 1) c ∧ FrAt W g (l.length * 7) x.1 x.2 ∧ ∀ i, W.frozen? ⟨g, i, none⟩ = false := by
  have ho := h.owns (base := 0) (T := 99) (n := 7) (v := lv) (m := l.length + 1) (xs := fcells (x :: l)) (by simp)
  obtain ⟨g, c, rfl⟩ := row_shape ho (by omega)
  refine ⟨g, c, rfl, ⟨fun i u hi => ?_, rowsA_top h.tl⟩, fun i => ho.frozenAt i⟩
  have hlt := (List.getElem?_eq_some_iff.1 hi).1
  rw [ho.cellAt _ (by have : (fcell x.1 x.2).length = 7 := rfl; omega), fcells_top]
  exact hi
end
end Go.Proofs.Ytpfnnmcokbolhaa
/- A chain in memory, opened at its top frame; the contracts of none, top, free, link. -/
namespace Go.Proofs.Ytpfnnmcokbolhaa
open Go.RowKit
set_option pp.deepTerms true
section
variable {W : World} {g o : Nat} {v : Value} {f : Fr}
theorem FrAt.c0 (h : FrAt W g o v f) : W.cell? ⟨g, o, none⟩ = some v := h.cells 0 v rfl
theorem FrAt.c1 (h : FrAt W g o v f) : W.cell? ⟨g, o + 1, none⟩ = some (.int .i64 f.lay.args) := h.cells 1 _ rfl
theorem FrAt.c2 (h : FrAt W g o v f) : W.cell? ⟨g, o + 2, none⟩ = some (.int .i64 f.lay.res) := h.cells 2 _ rfl
theorem FrAt.c3 (h : FrAt W g o v f) : W.cell? ⟨g, o + 3, none⟩ = some (.int .i64 f.lay.height) := h.cells 3 _ rfl
theorem FrAt.c4 (h : FrAt W g o v f) : W.cell? ⟨g, o + 4, none⟩ = some (.int .i64 f.base) := h.cells 4 _ rfl
theorem FrAt.c5 (h : FrAt W g o v f) : W.cell? ⟨g, o + 5, none⟩ = some (.int .i64 f.ops) := h.cells 5 _ rfl
theorem FrAt.c6 (h : FrAt W g o v f) : W.cell? ⟨g, o + 6, none⟩ = some (.bool f.own) := h.cells 6 _ rfl
end
theorem Rdi.drewN {w : World} {v : Value} {xs : List Int} (h : Rdi w v xs) (n : Nat) : Rdi (w.drewN n) v xs := h.below (below_drewN (Below.refl _ _) n)
theorem FrAt.drew {W : World} {g o : Nat} {v : Value} {f : Fr} (h : FrAt W g o v f) : FrAt W.drew g o v f := h.below (Below.refl _ _).drew
theorem FrAt.drewN {W : World} {g o : Nat} {v : Value} {f : Fr} (h : FrAt W g o v f) (n : Nat) : FrAt (W.drewN n) g o v f := h.below (below_drewN (Below.refl _ _) n)
/-- what a frame may be -/
structure FrOk (f : Fr) : Prop where
  lay : layOk f.lay = true
  n0 : 0 ≤ f.ops
  n1 : f.ops ≤ f.lay.height
  b0 : 0 ≤ f.base
  b1 : f.base ≤ 2305843009213693952
section
variable {w W : World} {F : List Asr} {b p k g c : Nat} {x : Value × Fr} {l : List (Value × Fr)}
/-- a chain in memory, opened -/
def ChT (w W : World) (b p k g c : Nat) (x : Value × Fr) (l : List (Value × Fr)) (F : List Asr) : Prop :=
  Sep w (bx b (.cells #[.pointer (some ⟨p, 0, none⟩), .pointer (some ⟨k, 0, none⟩), .slice (some ⟨g, 0, none⟩) (l.length + 1 : Nat) c] 78 (0, 0)) :: rw_ 0 99 7 (.slice (some ⟨g, 0, none⟩) (l.length + 1 : Nat) c) (l.length + 1) (fcells (x :: l)) :: rowsA (x :: l) :: F) W
theorem ch_cons {f : Fr} {fs : List Fr} (h : Sep w (chA b p k (f :: fs) :: F) W) : ∃ g c x l, x.2 = f ∧ l.map Prod.snd = fs ∧ ChT w W b p k g c x l F := by
  obtain ⟨lv, l, hl, h⟩ := ch_open h
  match l, hl with
  | x :: l, hl =>
    simp only [List.map_cons, List.cons.injEq] at hl
    obtain ⟨g, c, rfl, -⟩ := ch_top h.tl
    exact ⟨g, c, x, l, hl.1, hl.2, h⟩
theorem ChT.close (h : ChT w W b p k g c x l F) : Sep w (chA b p k (x.2 :: l.map Prod.snd) :: F) W := ch_close h (by simp)
theorem ChT.fr (h : ChT w W b p k g c x l F) : FrAt W g (l.length * 7) x.1 x.2 := by
  obtain ⟨g', c', e, q, -⟩ := ch_top (Sep.tl h)
  simp only [Value.slice.injEq, Option.some.injEq, Addr.mk.injEq, and_true, true_and] at e
  obtain ⟨rfl, -⟩ := e
  exact q
theorem ChT.fr2 {y : Value × Fr} {l' : List (Value × Fr)} (h : ChT w W b p k g c x (y :: l') F) : FrAt W g (l'.length * 7) y.1 y.2 := by
  have ho := Sep.owns (base := 0) (T := 99) (n := 7) (v := .slice (some ⟨g, 0, none⟩) ((y :: l').length + 1 : Nat) c) (m := (y :: l').length + 1) (xs := fcells (x :: y :: l')) h (by simp)
  refine ⟨fun i u hi => ?_, rowsA_next (Sep.tl (Sep.tl h))⟩
  have hlt := (List.getElem?_eq_some_iff.1 hi).1
  have h7 : (fcell y.1 y.2).length = 7 := rfl
  rw [ho.cellAt _ (by simp only [List.length_cons]; omega), fcells_below _ _ _ _ (by omega)]
  exact hi
theorem ChT.fz (h : ChT w W b p k g c x l F) (i : Nat) : W.frozen? ⟨g, i, none⟩ = false := by
  obtain ⟨g', c', e, -, q⟩ := ch_top (Sep.tl h)
  simp only [Value.slice.injEq, Option.some.injEq, Addr.mk.injEq, and_true, true_and] at e
  obtain ⟨rfl, -⟩ := e
  exact q i
theorem ChT.k0 (h : ChT w W b p k g c x l F) : W.cell? ⟨b, 0, none⟩ = some (.pointer (some ⟨p, 0, none⟩)) := Sep.cell h (List.Mem.head _) rfl
theorem ChT.k1 (h : ChT w W b p k g c x l F) : W.cell? ⟨b, 1, none⟩ = some (.pointer (some ⟨k, 0, none⟩)) := Sep.cell h (List.Mem.head _) rfl
theorem ChT.k2 (h : ChT w W b p k g c x l F) : W.cell? ⟨b, 2, none⟩ = some (.slice (some ⟨g, 0, none⟩) (l.length + 1 : Nat) c) := Sep.cell h (List.Mem.head _) rfl
theorem ChT.cap (h : ChT w W b p k g c x l F) : l.length + 1 ≤ c := by
  have ho := Sep.owns (base := 0) (T := 99) (n := 7) (v := .slice (some ⟨g, 0, none⟩) (l.length + 1 : Nat) c) (m := l.length + 1) (xs := fcells (x :: l)) h (by simp)
  rcases ho.2 with ⟨q, _⟩ | ⟨_, _, _, q, _, _, hc, _⟩
  · simp at q
  · simp at q; omega
theorem ChT.keep {W' : World} (h : ChT w W b p k g c x l F) (q : Below W.heap.size W W') : ChT w W' b p k g c x l F := Sep.keep h q
theorem ChT.drewN (h : ChT w W b p k g c x l F) (n : Nat) : ChT w (W.drewN n) b p k g c x l F := h.keep (below_drewN (Below.refl _ _) n)
/-- the other parts, with the chain's behind them -/
theorem ChT.out (h : ChT w W b p k g c x l F) : Sep w (F ++ [bx b (.cells #[.pointer (some ⟨p, 0, none⟩), .pointer (some ⟨k, 0, none⟩), .slice (some ⟨g, 0, none⟩) (l.length + 1 : Nat) c] 78 (0, 0)), rw_ 0 99 7 (.slice (some ⟨g, 0, none⟩) (l.length + 1 : Nat) c) (l.length + 1) (fcells (x :: l)), rowsA (x :: l)]) W :=
  Sep.perm h (List.perm_append_comm (l₁ := [_, _, _]) (l₂ := F))
theorem ChT.back (h : Sep w (F ++ [bx b (.cells #[.pointer (some ⟨p, 0, none⟩), .pointer (some ⟨k, 0, none⟩), .slice (some ⟨g, 0, none⟩) (l.length + 1 : Nat) c] 78 (0, 0)), rw_ 0 99 7 (.slice (some ⟨g, 0, none⟩) (l.length + 1 : Nat) c) (l.length + 1) (fcells (x :: l)), rowsA (x :: l)]) W) : ChT w W b p k g c x l F :=
  Sep.perm h (List.perm_append_comm (l₁ := F) (l₂ := [_, _, _]))
theorem fcells_set (x : Value × Fr) (l : List (Value × Fr)) (n : Int) : (fcells (x :: l)).set (l.length * 7 + 5) (.int .i64 n) = fcells ((x.1, { x.2 with ops := n }) :: l) := by
  rw [fcells_cons, fcells_cons, List.set_append_right _ _ (by rw [fcells_len]; omega), fcells_len]
  congr 1
  rw [show l.length * 7 + 5 - l.length * 7 = 5 by omega]
  rfl
/-- the top frame's operands' number is stored -/
theorem ChT.ops (h : ChT w W b p k g c x l F) (n : Int) : ChT w (W.setCell ⟨g, l.length * 7 + 5, none⟩ (.int .i64 n)) b p k g c (x.1, { x.2 with ops := n }) l F := by
  have h1 : Sep w (rw_ 0 99 7 (.slice (some ⟨g, 0, none⟩) (l.length + 1 : Nat) c) (l.length + 1) (fcells (x :: l)) :: bx b (.cells #[.pointer (some ⟨p, 0, none⟩), .pointer (some ⟨k, 0, none⟩), .slice (some ⟨g, 0, none⟩) (l.length + 1 : Nat) c] 78 (0, 0)) :: rowsA (x :: l) :: F) W := Sep.perm h (List.Perm.swap _ _ _)
  have h2 : Sep w (rw_ 0 99 7 (.slice (some ⟨g, 0, none⟩) (l.length + 1 : Nat) c) (l.length + 1) (fcells ((x.1, { x.2 with ops := n }) :: l)) :: bx b (.cells #[.pointer (some ⟨p, 0, none⟩), .pointer (some ⟨k, 0, none⟩), .slice (some ⟨g, 0, none⟩) (l.length + 1 : Nat) c] 78 (0, 0)) :: rowsA (x :: l) :: F) (W.setCell ⟨g, l.length * 7 + 5, none⟩ (.int .i64 n)) := h1.turn (fun fs hf _ => by
    obtain ⟨rfl, hr⟩ := hf
    have hs := hr.stored (l.length * 7 + 5) (.int .i64 n)
    rw [fcells_set] at hs
    exact ⟨_, ⟨rfl, hs.1⟩, (Kp.refl _ _).setCell (.inl (by simp [Value.ownBlock])) _, fun y hy => .inl hy⟩)
  exact Sep.perm h2 (List.Perm.swap _ _ _)
/-- the top frame is taken off -/
theorem ChT.shrink (h : ChT w W b p k g c x l F) : Sep w (chA b p k (l.map Prod.snd) :: F) (W.setCell ⟨b, 2, none⟩ (.slice (some ⟨g, 0, none⟩) (l.length : Nat) c)) := by
  have h1 := Sep.store h 2 (.slice (some ⟨g, 0, none⟩) (l.length : Nat) c)
  have h2 := h1.perm (List.Perm.swap _ _ _)
  have ho := h2.owns (base := 0) (T := 99) (n := 7) (v := .slice (some ⟨g, 0, none⟩) (l.length + 1 : Nat) c) (m := l.length + 1) (xs := fcells (x :: l)) (List.Mem.head _)
  have hc := row_cut ho (m := l.length) (by omega)
  rw [fcells_cons, List.take_append_of_le_length (by rw [fcells_len]; omega), List.take_of_length_le (by rw [fcells_len]; omega)] at hc
  have h3 := (h2.rerow (v' := .slice (some ⟨g, 0, none⟩) (l.length : Nat) c) (fun _ q => by simpa [Value.ownBlock] using q) hc).perm (List.Perm.swap _ _ _)
  have h4 : Sep w (rowsA (x :: l) :: _ :: _ :: F) _ := h3.perm ((List.Perm.cons _ (List.Perm.swap _ _ _)).trans (List.Perm.swap _ _ _))
  have h5 := h4.sepE.tl
  exact ch_close (h5.perm ((List.Perm.swap _ _ _).trans (List.Perm.cons _ (List.Perm.swap _ _ _)))) rfl
theorem cnone_any (h : W.cell? ⟨b, 0, none⟩ = some (.pointer (some ⟨p, 0, none⟩))) : Calls Try.prog 35 #[.pointer (some ⟨b, 0, none⟩)] W fun e w' => e = .returned (.bool false) ∧ w' = W := by
  go_enter Try.func35, Try.ntmps35
  go_wp2_with fail
  go_ret
  exact ⟨rfl, rfl⟩
theorem ctop_some (h : ChT w W b p k g c x l F) (hl : l.length ≤ 1000) : Calls Try.prog 41 #[.pointer (some ⟨b, 0, none⟩)] W fun e w' => ChT w w' b p k g c x l F ∧ Below W.heap.size W w' ∧ e = .returned (.tuple #[.pointer (some ⟨g, l.length * 7, none⟩), .int .i64 0]) := by
  have HH := Hid.mk h
  have HN := Hid.mk (cnone_any h.k0)
  have c2 := h.k2
  obtain ⟨m, hm⟩ : ∃ m, l.length = m := ⟨_, rfl⟩
  rw [hm] at hl c2 ⊢
  have w1 : IntKind.i64.wrap (((m + 1 : Nat) : Int) - 1) = (m : Int) := by rw [IntKind.wrap_i64]; omega
  have w2 : IntKind.i64.wrap ((m : Int) + 1 - 1) = (m : Int) := by rw [IntKind.wrap_i64]; omega
  have w3 : IntKind.i64.wrap (m : Int) = (m : Int) := by rw [IntKind.wrap_i64]; omega
  have z : (((m + 1 : Nat) : Int) == 0) = false := by simp; omega
  have z2 : ((m : Int) + 1 == 0) = false := by simp; omega
  have hk3 : m < m + 1 := by omega
  have hk4 : (m : Int) < (m : Int) + 1 := by omega
  clear h hm
  go_enter Try.func41, Try.ntmps41
  go_wp2_with fail
  refine HN.out.mono ?_
  rintro e w1 ⟨rfl, rfl⟩
  go_wp2_with fail
  go_quiet (fail)
  go_wp2_with fail
  go_ret2
  exact ⟨HH.out.drewN _, below_drewN (Below.refl _ _) _, rfl⟩
theorem ctop_none (h : Sep w (chA b p k [] :: F) W) : Calls Try.prog 41 #[.pointer (some ⟨b, 0, none⟩)] W fun e w' => w' = W ∧ e = .returned (.tuple #[.pointer none, .int .i64 250]) := by
  obtain ⟨lv, l, hl, h⟩ := ch_open h
  obtain rfl : l = [] := List.map_eq_nil_iff.1 hl
  obtain ⟨ao, c, rfl⟩ := own_shape (h.owns (base := 0) (T := 99) (n := 7) (v := lv) (m := ([] : List (Value × Fr)).length) (xs := fcells []) (by simp))
  have HN := Hid.mk (cnone_any (b := b) (p := p) (W := W) (h.cell (List.Mem.head _) rfl))
  have c2 : W.cell? ⟨b, 2, none⟩ = some (.slice ao 0 c) := h.cell (List.Mem.head _) rfl
  clear h hl
  go_enter Try.func41, Try.ntmps41
  go_wp2_with fail
  refine HN.out.mono ?_
  rintro e w1 ⟨rfl, rfl⟩
  go_wp2_with fail
  go_ret2
  exact ⟨rfl, rfl⟩
theorem ch_k0 {fs : List Fr} (h : Sep w (chA b p k fs :: F) W) : W.cell? ⟨b, 0, none⟩ = some (.pointer (some ⟨p, 0, none⟩)) ∧ W.cell? ⟨b, 1, none⟩ = some (.pointer (some ⟨k, 0, none⟩)) ∧ ∃ ao c, W.cell? ⟨b, 2, none⟩ = some (.slice ao fs.length c) := by
  obtain ⟨lv, l, hl, h⟩ := ch_open h
  obtain ⟨ao, c, rfl⟩ := own_shape (h.owns (base := 0) (T := 99) (n := 7) (v := lv) (m := l.length) (xs := fcells l) (by simp))
  have e : fs.length = l.length := by rw [← hl]; simp
  rw [e]
  exact ⟨h.cell (List.Mem.head _) rfl, h.cell (List.Mem.head _) rfl, ao, c, h.cell (List.Mem.head _) rfl⟩
theorem ffree_any {o : Nat} {v : Value} {f : Fr} (h : FrAt W g o v f) (ok : FrOk f) {k : Int} (k0 : 0 ≤ k) (k1 : k ≤ f.ops) : Calls Try.prog 42 #[.pointer (some ⟨g, o, none⟩), .int .i64 k] W fun e w' => Below W.heap.size W w' ∧ e = .returned (.int .i64 (f.free k)) := by
  obtain ⟨-, hn, -, -, -, -, h5, h6⟩ := (layOk_iff f.lay).1 ok.lay
  have HC := Hid.mk (lBegin_any (h.drew.slots) ok.lay ok.n0 ok.n1 k0 k1)
  have e0 := h.c0
  have e1 := h.c1
  have e2 := h.c2
  have e3 := h.c3
  have e4 := h.c4
  have e5 := h.c5
  have b0 := ok.b0
  have b1 := ok.b1
  have n0 := ok.n0
  have n1 := ok.n1
  unfold layV at HC
  unfold Fr.free
  clear h ok
  go_enter Try.func42, Try.ntmps42
  go_wp2_with fail
  go_region_held3 (fun X => X.cell? ⟨g, o, none⟩ = some v ∧ X.cell? ⟨g, o + 1, none⟩ = some (.int .i64 f.lay.args) ∧ X.cell? ⟨g, o + 2, none⟩ = some (.int .i64 f.lay.res) ∧ X.cell? ⟨g, o + 3, none⟩ = some (.int .i64 f.lay.height) ∧ X.cell? ⟨g, o + 4, none⟩ = some (.int .i64 f.base) ∧ X.cell? ⟨g, o + 5, none⟩ = some (.int .i64 f.ops)) (first | exact s9 | exact ⟨e0, e1, e2, e3, e4, e5⟩) (first | (go_at_call 65; refine HC.out.mono ?_; rintro e w2 ⟨hb2, rfl⟩; have s9 := And.intro (keep_dr hb2 e0) (And.intro (keep_dr hb2 e1) (And.intro (keep_dr hb2 e2) (And.intro (keep_dr hb2 e3) (And.intro (keep_dr hb2 e4) (keep_dr hb2 e5)))))))
  have d4 := s9.2.2.2.2.1
  have HW := Hid.mk (undrew hb2)
  clear HC hb2
  go_wp2_with fail
  go_ret
  exact ⟨HW.out, rfl⟩
theorem flink_any {o : Nat} {v : Value} {f : Fr} (h : FrAt W g o v f) (ok : FrOk f) : Calls Try.prog 54 #[.pointer (some ⟨g, o, none⟩)] W fun e w' => Below W.heap.size W w' ∧ e = .returned (.int .i64 f.link) := by
  obtain ⟨-, hn, -, -, -, -, h5, h6⟩ := (layOk_iff f.lay).1 ok.lay
  have HC := Hid.mk (lLink_any h.slots ok.lay)
  have e0 := h.c0
  have e1 := h.c1
  have e2 := h.c2
  have e3 := h.c3
  have e4 := h.c4
  have b0 := ok.b0
  have b1 := ok.b1
  unfold layV at HC
  unfold Fr.link
  clear h ok
  go_enter Try.func54, Try.ntmps54
  go_wp2_with fail
  refine HC.out.mono ?_
  rintro e w2 ⟨hb2, rfl⟩
  have d4 := keep_be hb2 e4
  have HW := Hid.mk hb2
  clear HC hb2
  go_wp2_with fail
  go_ret
  exact ⟨HW.out, rfl⟩
end
end Go.Proofs.Ytpfnnmcokbolhaa
/- The contract of value.Fits. -/
namespace Go.Proofs.Ytpfnnmcokbolhaa
open Go.RowKit
set_option pp.deepTerms true
theorem fitsB_ne {ts : List Int} {vs : List (Int × Int)} {k : Nat} (hl : ts.length = vs.length) (h1 : k < ts.length) (h2 : k < vs.length) (h : ¬ (vs[k].1 = ts[k] ∧ okV vs[k].1 vs[k].2 = true)) : fitsB ts vs = false := by
  cases e : fitsB ts vs with
  | false => rfl
  | true => exact absurd ((fitsB_iff hl).1 e k h1 h2) h
set_option maxRecDepth 100000 in
set_option maxHeartbeats 2000000 in
theorem fits_any {tv vv : Value} {ts : List Int} {vs : List (Int × Int)} {w : World} (ht : Rdi w tv ts) (hv : Rd w vv vs) (hn : vs.length ≤ 4194304) : Calls Try.prog 39 #[tv, vv] w fun e w' => Below w.heap.size w w' ∧ e = .returned (.bool (fitsB ts vs)) := by
  by_cases hl : ts.length = vs.length
  · rcases Nat.eq_zero_or_pos vs.length with h0 | h0
    · obtain ⟨ao, c, rfl⟩ := ht.shape
      obtain ⟨bo, d, rfl⟩ := hv.shape
      rw [hl, h0]
      obtain rfl := List.eq_nil_of_length_eq_zero h0
      obtain rfl := List.eq_nil_of_length_eq_zero (hl.trans rfl)
      clear ht hv hl h0
      go_enter Try.func39, Try.ntmps39
      go_wp2
      refine wp_loop_rounds 1 ?_; rw [rounds_succ]
      go_wp2
      go_ret
      exact ⟨Below.refl _ _, rfl⟩
    · obtain ⟨b, o, c, rfl, hbl, hc⟩ := ht.some (by omega)
      obtain ⟨b', o', c', rfl, hbl', hc'⟩ := hv.some h0
      obtain ⟨n, hn'⟩ : ∃ n, vs.length = n := ⟨_, rfl⟩
      have HL := Hid.mk hl
      have HN := Hid.mk hn'
      rw [hl, hn']
      rw [hn'] at hn
      clear hl hn' ht hv h0
      go_enter Try.func39, Try.ntmps39
      go_wp2
      go_loopw [5, 6, 14] (fun _ _ i wr => ∃ k : Nat, i = .int .i64 k ∧ k ≤ n ∧ Hid (∀ j (h1 : j < ts.length) (h2 : j < vs.length), j < k → vs[j].1 = ts[j] ∧ okV vs[j].1 vs[j].2 = true) ∧ Below w.heap.size w wr) (fun _ _ i _ => n - (intOf i).toNat)
      case atStart => exact ⟨0, rfl, by omega, fun _ _ _ q => absurd q (by omega), Below.refl _ _⟩
      case round =>
        obtain ⟨k, rfl, hk, hno, hbb⟩ := hrel
        by_cases hlt : k < n
        · have hk1 : k < ts.length := by have := HN.out; have := HL.out; omega
          have hk2 : k < vs.length := by have := HN.out; omega
          obtain ⟨t, ht⟩ : ∃ t, ts[k] = t := ⟨_, rfl⟩
          obtain ⟨a, ha⟩ : ∃ a, vs[k].1 = a := ⟨_, rfl⟩
          obtain ⟨m, hm⟩ : ∃ m, vs[k].2 = m := ⟨_, rfl⟩
          have c0 := (hbb.cell (p := ⟨b, o + k, none⟩) hbl).trans (hc k hk1)
          have d0 := (hbb.cell (p := ⟨b', o' + k * 2, none⟩) hbl').trans (hc' k hk2).1
          have d1 := (hbb.cell (p := ⟨b', o' + k * 2 + 1, none⟩) hbl').trans (hc' k hk2).2
          rw [ht] at c0
          rw [ha] at d0
          rw [hm] at d1
          have HB := Hid.mk hbb
          have HBA : Hid (Below w.heap.size w (wr.alloc (.cells #[.int .i64 a, .int .i64 m] 34))) := hbb.alloc hbb.size _
          have HF : Hid ((¬ (a = t ∧ okV a m = true) → fitsB ts vs = false) ∧ ((a = t ∧ okV a m = true) → ∀ j (h1 : j < ts.length) (h2 : j < vs.length), j < k + 1 → vs[j].1 = ts[j] ∧ okV vs[j].1 vs[j].2 = true)) := by
            refine ⟨fun q => fitsB_ne HL.out hk1 hk2 (by rw [ha, hm, ht]; exact q), fun q j h1 h2 hj => ?_⟩
            rcases Nat.lt_or_ge j k with r | r
            · exact hno.out j h1 h2 r
            · obtain rfl : j = k := by omega
              rw [ha, hm, ht]
              exact q
          have e0 : (wr.alloc (.cells #[.int .i64 a, .int .i64 m] 34)).cell? ⟨wr.heap.size, 0, none⟩ = some (.int .i64 a) := by simp
          have e1 : (wr.alloc (.cells #[.int .i64 a, .int .i64 m] 34)).cell? ⟨wr.heap.size, 1, none⟩ = some (.int .i64 m) := by simp
          have e2 := alloc_cell (o := .cells #[.int .i64 a, .int .i64 m] 34) c0
          have HC := Hid.mk (check_any a m (wr.alloc (.cells #[.int .i64 a, .int .i64 m] 34)).drew)
          clear ht ha hm hbb hno hc hc' hbl hbl'
          by_cases q : a = t
          · subst q
            have f1 : (a != a) = false := by simp
            cases hk : okV a m
            · have HX := Hid.mk (HF.out.1 (fun x => by rw [hk] at x; cases x.2))
              have hq : chk a m = 21 := by unfold chk; rw [hk]; rfl
              rw [hq] at HC
              clear hk hq
              go_wp2_with fail
              go_region_held3 (fun W => W.cell? ⟨wr.heap.size, 0, none⟩ = some (.int .i64 a) ∧ W.cell? ⟨wr.heap.size, 1, none⟩ = some (.int .i64 m) ∧ W.cell? ⟨b, o + k, none⟩ = some (.int .i64 a)) (first | exact s9 | exact ⟨e0, e1, e2⟩) (first | (go_at_call 46; refine HC.out.mono ?_; rintro e w2 ⟨rfl, hb2⟩; have s9 := And.intro (keep_dr hb2 e0) (And.intro (keep_dr hb2 e1) (keep_dr hb2 e2)); have hbw := HBA.out.trans ((undrew hb2).mono HBA.out.size)))
              go_wp2_with fail
              go_ret
              exact ⟨hbw, by rw [HX.out]; rfl⟩
            · have HX := Hid.mk (HF.out.2 ⟨rfl, hk⟩)
              have hq : chk a m = 0 := by unfold chk; rw [hk]; rfl
              rw [hq] at HC
              clear hk hq
              go_wp2_with fail
              go_region_held3 (fun W => W.cell? ⟨wr.heap.size, 0, none⟩ = some (.int .i64 a) ∧ W.cell? ⟨wr.heap.size, 1, none⟩ = some (.int .i64 m) ∧ W.cell? ⟨b, o + k, none⟩ = some (.int .i64 a)) (first | exact s9 | exact ⟨e0, e1, e2⟩) (first | (go_at_call 46; refine HC.out.mono ?_; rintro e w2 ⟨rfl, hb2⟩; have s9 := And.intro (keep_dr hb2 e0) (And.intro (keep_dr hb2 e1) (keep_dr hb2 e2)); have hbw := HBA.out.trans ((undrew hb2).mono HBA.out.size)))
              go_wp2_with fail
              exact ⟨⟨k + 1, by go_num, by omega, HX.out, hbw⟩, by simp [intOf]; omega⟩
          · have f1 : (a != t) = true := by simpa using q
            have HX := Hid.mk (HF.out.1 (fun x => q x.1))
            clear q
            go_wp2_with fail
            go_quiet (fail)
            go_wp2_with fail
            go_ret
            exact ⟨below_drewN HBA.out _, by rw [HX.out]; rfl⟩
        · obtain rfl : k = n := by omega
          go_wp2
          go_ret
          refine ⟨hbb, ?_⟩
          rw [(fitsB_iff HL.out).2 (fun j h1 h2 => hno.out j h1 h2 (by have := HN.out; omega))]
          rfl
  · have hf : fitsB ts vs = false := by
      cases e : fitsB ts vs with
      | false => rfl
      | true => exact absurd (fitsB_len e) hl
    rw [hf]
    obtain ⟨ao, c, rfl⟩ := ht.shape
    obtain ⟨bo, d, rfl⟩ := hv.shape
    have z : (((ts.length : Nat) : Int) != vs.length) = true := by simp; omega
    clear ht hv hl hf
    go_enter Try.func39, Try.ntmps39
    go_wp2
    go_ret
    exact ⟨Below.refl _ _, rfl⟩
end Go.Proofs.Ytpfnnmcokbolhaa
/- The document's Push (24). -/
namespace Go.Proofs.Ytpfnnmcokbolhaa
open Go.RowKit
set_option pp.deepTerms true
attribute [local go_sem ↓] Go.wp_at_zero Go.wp_at_succ
section
variable {w W : World} {F : List Asr} {q pr : Nat} {S : Sp} {L : Lk} {sz ca : Int}
end
section
variable {w W : World} {F : List Asr} {q pr : Nat} {S R : Sp} {L : Lk} {sz ca : Int}
end
end Go.Proofs.Ytpfnnmcokbolhaa
/- The document's Pop, Free, Words, Copy (24). -/
namespace Go.Proofs.Ytpfnnmcokbolhaa
open Go.RowKit
set_option pp.deepTerms true
attribute [local go_sem ↓] Go.wp_at_zero Go.wp_at_succ
section
variable {w W : World} {F : List Asr} {q pr : Nat} {S R : Sp} {L : Lk} {sz ca : Int}
end
end Go.Proofs.Ytpfnnmcokbolhaa
/- The document's Free and Words (24). -/
namespace Go.Proofs.Ytpfnnmcokbolhaa
open Go.RowKit
set_option pp.deepTerms true
attribute [local go_sem ↓] Go.wp_at_zero Go.wp_at_succ
section
variable {w W : World} {F : List Asr} {q pr : Nat} {S R : Sp} {L : Lk} {sz ca : Int}
end
end Go.Proofs.Ytpfnnmcokbolhaa
/- A link laid open; Kept, Live, Top, Words beside other parts; the document's Words (24). -/
namespace Go.Proofs.Ytpfnnmcokbolhaa
open Go.RowKit
set_option pp.deepTerms true
attribute [local go_sem ↓] Go.wp_at_zero Go.wp_at_succ
section
variable {w W : World} {F : List Asr} {p b : Nat} {S : Sp} {L : Lk} {sz ca : Int}
theorem Sep.seg0 (h : Sep w (spA p S :: lkA b p sz ca L :: F) W) : Seg w p b sz ca S L [] W := by
  obtain ⟨hb, us, fs, gs0, rfl, h1, ⟨hs, ks, rfl, h2, hF, h23, hge2⟩, h13, hge1⟩ := h
  exact ⟨fs, hs, h1, h2, fun x hx q => h13 x hx (List.mem_append.2 (.inl q)), hge1, hge2, hb, by simp⟩
theorem kept_sep (h : Sep w (spA p S :: lkA b p sz ca L :: F) W) (hn : L.kept.length ≤ 1000000) : Calls Try.prog 52 #[.pointer (some ⟨b, 0, none⟩)] W fun e w' =>
    ∃ ao c, e = .returned (.slice ao L.kept.length c) ∧ Sep w (rw_ 0 88 2 (.slice ao L.kept.length c) L.kept.length (wcells L.kept) :: spA p S :: lkA b p sz ca L :: F) w' ∧ Below W.heap.size W w' := by
  refine (kept24_seg h.seg0 hn).mono ?_
  rintro e w' ⟨-, hb, v, rfl, hr⟩
  obtain ⟨ao, c, rfl⟩ := own_shape hr
  exact ⟨ao, c, rfl, h.row hb hr, hb⟩
theorem live_sep (h : Sep w (spA p S :: lkA b p sz ca L :: F) W) (hn : L.live.length ≤ 1000000) : Calls Try.prog 51 #[.pointer (some ⟨b, 0, none⟩)] W fun e w' =>
    ∃ ao c, e = .returned (.slice ao L.live.length c) ∧ Sep w (rw_ 0 88 2 (.slice ao L.live.length c) L.live.length (wcells L.live) :: spA p S :: lkA b p sz ca L :: F) w' ∧ Below W.heap.size W w' := by
  refine (live24_seg h.seg0 hn).mono ?_
  rintro e w' ⟨-, hb, v, rfl, hr⟩
  obtain ⟨ao, c, rfl⟩ := own_shape hr
  exact ⟨ao, c, rfl, h.row hb hr, hb⟩
theorem top_sep (h : Sep w (spA p S :: lkA b p sz ca L :: F) W) (hn : L.live.length ≤ 1000000) : Calls Try.prog 40 #[.pointer (some ⟨b, 0, none⟩)] W fun e w' =>
    Sep w (spA p S :: lkA b p sz ca L :: F) w' ∧ Below W.heap.size W w' ∧ e = .returned (.tuple #[.agg #[.int .i64 (topOf L.live).1.1, .int .i64 (topOf L.live).1.2], .bool (topOf L.live).2]) := by
  refine (top24_seg h.seg0 hn).mono ?_
  rintro e w' ⟨-, hb, he⟩
  exact ⟨h.keep hb, hb, he⟩
end
end Go.Proofs.Ytpfnnmcokbolhaa
