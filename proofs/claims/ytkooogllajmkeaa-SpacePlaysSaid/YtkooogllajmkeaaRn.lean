/- The contract of Run: the values of words. -/
import Derived.Test.YtkooogllajmkeaaCl
namespace Go.Proofs.Ytkooogllajmkeaa
open Go.RowKit

/-- k words from the j-th on -/
def seg (l : List (Int × Int)) (j k : Nat) : List (Int × Int) := (l.drop j).take k
theorem seg_len {l : List (Int × Int)} {j k : Nat} (h : j + k ≤ l.length) : (seg l j k).length = k := by simp [seg]; omega
theorem seg_get {l : List (Int × Int)} {j k i : Nat} (h : j + k ≤ l.length) (hi : i < (seg l j k).length) : (seg l j k)[i] = l[j + i]'(by rw [seg_len h] at hi; omega) := by simp [seg]

theorem row_base {w : World} {b b' : Nat} {e : TypeId} {size : Nat} {v : Value} {n : Nat} {xs : List Value} (h : w.ownsRow b' e size v n xs) (hb : b ≤ b') : w.ownsRow b e size v n xs := by
  refine ⟨h.1, ?_⟩
  rcases h.2 with q | ⟨g, cap, cur, rfl, q, r⟩
  · exact .inl q
  · exact .inr ⟨g, cap, cur, rfl, by omega, r⟩

def RunPost (ls : List LReg) (a m : Int) (w : World) (e : Ending) (w' : World) : Prop :=
  Below w.heap.size w w' ∧
  ((m = 0 ∧ e = .returned (.tuple #[.slice none 0 0, .int .i64 0])) ∨
   (∃ (i j k : Nat) (hi : i < ls.length), a = ls[i].base + j ∧ m = k ∧ 1 ≤ k ∧ j + k ≤ ls[i].words.length ∧
      (((0, 0) ∈ seg ls[i].words j k ∧ e = .returned (.tuple #[.slice none 0 0, .int .i64 212])) ∨
       ((0, 0) ∉ seg ls[i].words j k ∧ ∃ g c, w'.ownsRow w.heap.size 29 2 (.slice (some ⟨g, 0, none⟩) k c) k (wcells (seg ls[i].words j k)) ∧ e = .returned (.tuple #[.slice (some ⟨g, 0, none⟩) k c, .int .i64 0])))) ∨
   (m ≠ 0 ∧ (∀ (i : Nat) (hi : i < ls.length), 0 ≤ m → hasB ls[i].base ls[i].words.length a m = false) ∧ e = .returned (.tuple #[.slice none 0 0, .int .i64 210])))

theorem mem_one (xs : List (Int × Int)) : ∀ u ∈ wcells xs, u.oneCell' = true := by
  intro u hu
  simp only [wcells, List.mem_flatMap, wcell, List.mem_cons, List.not_mem_nil, or_false] at hu
  obtain ⟨v, _, rfl | rfl⟩ := hu <;> rfl

/-- the cells of a piece -/
theorem seg_cells {w : World} {p : Nat} {last : Int} {sl : Value} {ls : List LReg} (h : SpAt w p last sl ls) {i j k : Nat} (hi : i < ls.length) (hjk : j + k ≤ ls[i].words.length) :
    ∀ q u, (wcells (seg ls[i].words j k))[q]? = some u → w.cell? ((⟨ls[i].wb, j * 2, none⟩ : Addr).add q) = some u := by
  intro q u hu
  have hq : q < k * 2 := by have := (List.getElem?_eq_some_iff.1 hu).1; rw [wcells_len, seg_len hjk] at this; exact this
  have hadd : (⟨ls[i].wb, j * 2, none⟩ : Addr).add q = ⟨ls[i].wb, j * 2 + q, none⟩ := by unfold Addr.add; split <;> simp_all
  rw [hadd]
  have hqk : q / 2 < (seg ls[i].words j k).length := by rw [seg_len hjk]; omega
  rcases Nat.mod_two_eq_zero_or_one q with e | e
  · obtain ⟨r, rfl⟩ : ∃ r, q = r * 2 := ⟨q / 2, by omega⟩
    have hr : r < (seg ls[i].words j k).length := by rw [seg_len hjk]; omega
    rw [wcells_fst hr, seg_get hjk hr] at hu
    rw [show j * 2 + r * 2 = (j + r) * 2 by omega, h.type hi (k := j + r) (by rw [seg_len hjk] at hr; omega)]; exact hu
  · obtain ⟨r, rfl⟩ : ∃ r, q = r * 2 + 1 := ⟨q / 2, by omega⟩
    have hr : r < (seg ls[i].words j k).length := by rw [seg_len hjk]; omega
    rw [wcells_snd hr, seg_get hjk hr] at hu
    rw [show j * 2 + (r * 2 + 1) = (j + r) * 2 + 1 by omega, h.num hi (k := j + r) (by rw [seg_len hjk] at hr; omega)]; exact hu

theorem run_any {w : World} {p : Nat} {last : Int} {sl : Value} {ls : List LReg} (h : SpAt w p last sl ls) (ok : RegsOk last ls) (a m : Int) :
    Calls Try.prog 24 #[.pointer (some ⟨p, 0, none⟩), .int .i64 a, .int .i64 m] w (RunPost ls a m w) := by
  have HF := Hid.mk (some_any h ok a m)
  go_enter Try.func24, Try.ntmps24
  go_wp2_with fail
  refine HF.out.mono ?_
  clear HF
  rintro e w1 ⟨hb, ⟨rfl, rfl⟩ | ⟨i, j, k, hi, rfl, rfl, hk, hjk, rfl⟩ | ⟨hm, hno, rfl⟩⟩
  · go_wp2_with fail
    refine (empty_any _).mono ?_
    rintro e w2 ⟨rfl, hb2⟩
    go_wp2_with fail
    refine (containsV_of _ [] 0 0 _ (fun w3 _ => indexV_nil 0 0 w3)).mono ?_
    rintro e w3 ⟨hb3, rfl⟩
    have hd : decide (((0 : Int), (0 : Int)) ∈ ([] : List (Int × Int))) = false := by simp
    rw [hd]
    go_wp2_with fail
    refine (cloneV_nil _).mono ?_
    rintro e w4 ⟨rfl, rfl⟩
    go_wp2
    go_ret2
    exact ⟨(hb.trans (hb2.mono hb.size)).trans (hb3.mono (Nat.le_trans hb.size hb2.size)), .inl ⟨rfl, rfl⟩⟩
  · have hwb : ls[i].wb < w1.heap.size := (h.below hb).lt _ (by simp only [foot, List.mem_cons, List.mem_append, List.mem_map]; exact .inr (.inr ⟨_, List.getElem_mem hi, rfl⟩))
    have hlen := seg_len hjk
    have hlo := ok.lo _ (List.getElem_mem hi)
    go_wp2_with fail
    refine (empty_any _).mono ?_
    rintro e w2 ⟨rfl, hb2⟩
    have hw2 := (h.below hb).below hb2
    go_wp2_with fail
    refine (containsV_of _ (seg ls[i].words j k) 0 0 _ (fun w3 hb3 => ?_)).mono ?_
    · have h3 := hw2.below hb3
      refine indexV_any _ _ _ _ _ _ _ _ (Nat.lt_of_lt_of_le (Nat.lt_of_lt_of_le hwb hb2.size) hb3.size) hlen (by omega) ?_ ?_
      · intro q hq
        rw [hlen] at hq
        rw [show j * 2 + q * 2 = (j + q) * 2 by omega, h3.type hi (k := j + q) (by omega), seg_get hjk]
      · intro q hq
        rw [hlen] at hq
        rw [show j * 2 + q * 2 + 1 = (j + q) * 2 + 1 by omega, h3.num hi (k := j + q) (by omega), seg_get hjk]
    rintro e w3 ⟨hb3, rfl⟩
    have h3 := hw2.below hb3
    have hbb : Below w.heap.size w w3 := (hb.trans (hb2.mono hb.size)).trans (hb3.mono (Nat.le_trans hb.size hb2.size))
    by_cases hz : (0, 0) ∈ seg ls[i].words j k
    · have hd : decide ((0, 0) ∈ seg ls[i].words j k) = true := by simp [hz]
      rw [hd]
      clear hd
      have Z := Hid.mk hz
      clear hz
      go_wp2
      go_ret2
      exact ⟨hbb, .inr (.inl ⟨i, j, k, hi, rfl, rfl, hk, hjk, .inl ⟨Z.out, rfl⟩⟩)⟩
    · have hd : decide ((0, 0) ∈ seg ls[i].words j k) = false := by simp [hz]
      rw [hd]
      clear hd
      have Z := Hid.mk hz
      clear hz
      have hwb3 := Nat.lt_of_lt_of_le (Nat.lt_of_lt_of_le hwb hb2.size) hb3.size
      have HC := Hid.mk (cloneV_any ls[i].wb (j * 2) k (ls[i].cap - j) (wcells (seg ls[i].words j k)) w3 hwb3 (by rw [wcells_len, hlen]) hk (by omega) (seg_cells h3 hi hjk) (mem_one _))
      go_wp2_with fail
      refine HC.out.mono ?_
      rintro e w4 ⟨hb4, g, c, hrow, rfl⟩
      go_wp2
      go_ret2
      refine ⟨hbb.trans (hb4.mono hbb.size), .inr (.inl ⟨i, j, k, hi, rfl, rfl, hk, hjk, .inr ⟨Z.out, g, c, ?_, rfl⟩⟩)⟩
      exact row_base hrow hbb.size
  · go_wp2
    go_ret2
    exact ⟨hb, .inr (.inr ⟨hm, hno, rfl⟩)⟩
end Go.Proofs.Ytkooogllajmkeaa
