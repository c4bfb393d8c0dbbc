/- The contracts of a space's methods, over spaces as plain data. Condition of Take: the last address is no greater than 2^60. -/
import Derived.Test.YtkooogllajmkeaaSp
namespace Go.Proofs.Ytkooogllajmkeaa
open Go.RowKit

section
variable {w : World} {p : Nat} {S : Sp} {fs : List Nat}

theorem live_spc (h : Spc w p S fs) : Calls Try.prog 16 #[.pointer (some ⟨p, 0, none⟩)] w fun e w' => e = .returned (.int .i64 (total S.regs)) ∧ Below w.heap.size w w' := by
  obtain ⟨sl, ls, h1, ok, hr, rfl⟩ := h
  rw [hr, total_map]
  exact live_any h1 ok

theorem spc_reg (h : Spc w p S fs) : ∃ ls, S.regs = ls.map LReg.reg ∧ RegsOk S.last ls := let ⟨_, ls, _, ok, hr, _⟩ := h; ⟨ls, hr, ok⟩

theorem find_of (h : Spc w p S fs) (a : Int) : Calls Try.prog 15 #[.pointer (some ⟨p, 0, none⟩), .int .i64 a] w fun e w' =>
    Below w.heap.size w w' ∧ e = .returned (.tuple #[.agg #[.int .i64 (S.of a).1.1, .int .i64 (S.of a).1.2], .bool (S.of a).2]) := by
  obtain ⟨sl, ls, h1, ok, hr, rfl⟩ := h
  refine (of_any h1 ok a).mono ?_
  rintro e w' ⟨hb, ⟨i, hi, hh, rfl⟩ | ⟨hno, rfl⟩⟩
  · refine ⟨hb, ?_⟩
    have : S.of a = ((ls[i].base, (ls[i].words.length : Int)), true) := by
      unfold Sp.of
      rw [hr, loc_some ok hi hh]
      simp [wordsAt_map hi, hi, LReg.reg]
    rw [this]
  · refine ⟨hb, ?_⟩
    have : S.of a = ((0, 0), false) := by unfold Sp.of; rw [hr, loc_none hno]
    rw [this]

theorem get_spc (h : Spc w p S fs) (a : Int) : Calls Try.prog 19 #[.pointer (some ⟨p, 0, none⟩), .int .i64 a] w fun e w' =>
    Below w.heap.size w w' ∧ e = .returned (.tuple #[.agg #[.int .i64 (S.get a).1.1, .int .i64 (S.get a).1.2], .int .i64 (S.get a).2]) := by
  obtain ⟨sl, ls, h1, ok, hr, rfl⟩ := h
  refine (get_any h1 ok a).mono ?_
  rintro e w' ⟨hb, ⟨i, j, hi, hj, rfl, ⟨hz, rfl⟩ | ⟨hz, rfl⟩⟩ | ⟨hno, rfl⟩⟩
  · refine ⟨hb, ?_⟩
    have : S.get (ls[i].base + j) = ((0, 0), 212) := by
      unfold Sp.get
      rw [hr, loc_at ok hi hj (by omega)]
      simp [wordAt_map hi hj, hz]
    rw [this]
  · refine ⟨hb, ?_⟩
    have : S.get (ls[i].base + j) = (ls[i].words[j], 0) := by
      unfold Sp.get
      rw [hr, loc_at ok hi hj (by omega)]
      simp only [wordAt_map hi hj]
      rw [if_neg hz]
    rw [this]
  · refine ⟨hb, ?_⟩
    have : S.get a = ((0, 0), 210) := by unfold Sp.get; rw [hr, loc_none hno]
    rw [this]

theorem put_spc (h : Spc w p S fs) (a t n : Int) : Calls Try.prog 17 #[.pointer (some ⟨p, 0, none⟩), .int .i64 a, .agg #[.int .i64 t, .int .i64 n]] w fun e w' =>
    Stp w p fs (S.put a (t, n)).2 w' ∧ e = .returned (.int .i64 (S.put a (t, n)).1) := by
  have h0 := h
  obtain ⟨sl, ls, h1, ok, hr, rfl⟩ := h
  refine (put_any h1 ok a t n).mono ?_
  rintro e w' (⟨i, j, hi, hj, rfl, ⟨hz, hb, rfl⟩ | ⟨hz, hk, hs, rfl⟩⟩ | ⟨hno, hb, rfl⟩)
  · have : S.put (ls[i].base + j) (t, n) = (21, S) := by
      unfold Sp.put
      rw [hr, loc_at ok hi hj (by omega)]
      simp [hz]
    rw [this]
    exact ⟨Stp.of_below h0 hb, rfl⟩
  · have : S.put (ls[i].base + j) (t, n) = (0, { S with regs := (setWords ls i (ls[i].words.set j (t, n))).map LReg.reg }) := by
      unfold Sp.put
      rw [hr, loc_at ok hi hj (by omega)]
      simp [hz, setAt_map, wordsAt_map hi]
    rw [this]
    exact ⟨⟨_, ⟨sl, _, hs, ok.replace hi _ (by simp), rfl, rfl⟩, hk.mono (by simp [foot]; exact .inr (.inr ⟨_, List.getElem_mem hi, rfl⟩)), by rw [foot_setWords]; exact fun _ hb => .inl hb⟩, rfl⟩
  · have : S.put a (t, n) = (210, S) := by unfold Sp.put; rw [hr, loc_none hno]
    rw [this]
    exact ⟨Stp.of_below h0 hb, rfl⟩

theorem drop_spc (h : Spc w p S fs) (a m : Int) : Calls Try.prog 18 #[.pointer (some ⟨p, 0, none⟩), .int .i64 a, .int .i64 m] w fun e w' =>
    Stp w p fs (S.drop a m).2 w' ∧ e = .returned (.int .i64 (S.drop a m).1) := by
  have h0 := h
  obtain ⟨sl, ls, h1, ok, hr, rfl⟩ := h
  refine (drop_any h1 ok a m).mono ?_
  rintro e w' (⟨rfl, hb, rfl⟩ | ⟨i, j, k, hi, rfl, rfl, hk, hjk, hkp, hs, rfl⟩ | ⟨hm, hno, hb, rfl⟩)
  · have : S.drop a 0 = (0, S) := by simp [Sp.drop]
    rw [this]
    exact ⟨Stp.of_below h0 hb, rfl⟩
  · have : S.drop (ls[i].base + j) k = (0, { S with regs := (setWords ls i (over ls[i].words j (List.replicate k (0, 0)))).map LReg.reg }) := by
      unfold Sp.drop
      rw [if_neg (by omega), if_neg (by omega), hr, loc_at ok hi (by omega) (by omega)]
      simp [setAt_map, wordsAt_map hi]
    rw [this]
    exact ⟨⟨_, ⟨sl, _, hs, ok.replace hi _ (over_len (by simp; omega)), rfl, rfl⟩, hkp.mono (by simp [foot]; exact .inr (.inr ⟨_, List.getElem_mem hi, rfl⟩)), by rw [foot_setWords]; exact fun _ hb => .inl hb⟩, rfl⟩
  · have : S.drop a m = (210, S) := by
      unfold Sp.drop
      rw [if_neg hm]
      by_cases hm0 : m < 0
      · rw [if_pos hm0]
      · rw [if_neg hm0, hr, loc_none (fun i hi => hno i hi (by omega))]
    rw [this]
    exact ⟨Stp.of_below h0 hb, rfl⟩

theorem move_spc (h : Spc w p S fs) (b a m : Int) : Calls Try.prog 23 #[.pointer (some ⟨p, 0, none⟩), .int .i64 b, .int .i64 a, .int .i64 m] w fun e w' =>
    Stp w p fs (S.move b a m).2 w' ∧ e = .returned (.int .i64 (S.move b a m).1) := by
  have h0 := h
  obtain ⟨sl, ls, h1, ok, hr, rfl⟩ := h
  refine (move_any h1 ok b a m).mono ?_
  rintro e w' (⟨rfl, hb, rfl⟩ | ⟨i, j, i2, j2, k, hi, hi2, rfl, rfl, rfl, hk, hjk, hjk2, hkp, hs, rfl⟩ | ⟨hm, hno, hb, rfl⟩)
  · have : S.move b a 0 = (0, S) := by simp [Sp.move]
    rw [this]
    exact ⟨Stp.of_below h0 hb, rfl⟩
  · have : S.move (ls[i].base + j) (ls[i2].base + j2) k = (0, { S with regs := (setWords ls i (over ls[i].words j (seg ls[i2].words j2 k))).map LReg.reg }) := by
      unfold Sp.move
      rw [if_neg (by omega), if_neg (by omega), hr, loc_at ok hi (by omega) (by omega), loc_at ok hi2 (by omega) (by omega)]
      simp [setAt_map, wordsAt_map hi, wordsAt_map hi2]
    rw [this]
    exact ⟨⟨_, ⟨sl, _, hs, ok.replace hi _ (over_len (by rw [seg_len hjk2]; omega)), rfl, rfl⟩, hkp.mono (by simp [foot]; exact .inr (.inr ⟨_, List.getElem_mem hi, rfl⟩)), by rw [foot_setWords]; exact fun _ hb => .inl hb⟩, rfl⟩
  · have : S.move b a m = (210, S) := by
      unfold Sp.move
      rw [if_neg hm]
      by_cases hm0 : m < 0
      · rw [if_pos hm0]
      · rw [if_neg hm0, hr]
        rcases hno with hno | hno
        · rw [loc_none (fun i hi => hno i hi (by omega))]
        · rw [loc_none (a := a) (fun i hi => hno i hi (by omega))]
          cases locate (ls.map LReg.reg) b m <;> rfl
    rw [this]
    exact ⟨Stp.of_below h0 hb, rfl⟩

/-- what Run hands back: no row, or a row of its own, of capacity c -/
def RunOut (w : World) (r : Option (List (Int × Int)) × Int) (e : Ending) (w' : World) : Prop :=
  match r.1 with
  | none => e = .returned (.tuple #[.slice none 0 0, .int .i64 r.2])
  | some l => ∃ g c, w'.ownsRow w.heap.size 29 2 (.slice (some ⟨g, 0, none⟩) l.length c) l.length (wcells l) ∧ e = .returned (.tuple #[.slice (some ⟨g, 0, none⟩) l.length c, .int .i64 r.2])
theorem run_spc (h : Spc w p S fs) (a m : Int) : Calls Try.prog 24 #[.pointer (some ⟨p, 0, none⟩), .int .i64 a, .int .i64 m] w fun e w' =>
    Below w.heap.size w w' ∧ RunOut w (S.run a m) e w' := by
  obtain ⟨sl, ls, h1, ok, hr, rfl⟩ := h
  refine (run_any h1 ok a m).mono ?_
  rintro e w' ⟨hb, ⟨rfl, rfl⟩ | ⟨i, j, k, hi, rfl, rfl, hk, hjk, ⟨hz, rfl⟩ | ⟨hz, g, c, hrow, rfl⟩⟩ | ⟨hm, hno, rfl⟩⟩
  · have : S.run a 0 = (none, 0) := by simp [Sp.run]
    rw [this]; exact ⟨hb, rfl⟩
  · have : S.run (ls[i].base + j) k = (none, 212) := by
      unfold Sp.run
      rw [if_neg (by omega), if_neg (by omega), hr, loc_at ok hi (by omega) (by omega)]
      simp [wordsAt_map hi, hz]
    rw [this]; exact ⟨hb, rfl⟩
  · have : S.run (ls[i].base + j) k = (some (seg ls[i].words j k), 0) := by
      unfold Sp.run
      rw [if_neg (by omega), if_neg (by omega), hr, loc_at ok hi (by omega) (by omega)]
      simp [wordsAt_map hi, hz]
    rw [this]; exact ⟨hb, g, c, by rw [seg_len hjk]; exact hrow, by rw [seg_len hjk]⟩
  · have : S.run a m = (none, 210) := by
      unfold Sp.run
      rw [if_neg hm]
      by_cases hm0 : m < 0
      · rw [if_pos hm0]
      · rw [if_neg hm0, hr, loc_none (fun i hi => hno i hi (by omega))]
    rw [this]; exact ⟨hb, rfl⟩

theorem map_erase {α β : Type} (f : α → β) : ∀ (l : List α) (i : Nat), (l.map f).eraseIdx i = (l.eraseIdx i).map f
  | [], _ => by simp
  | _ :: _, 0 => by simp
  | _ :: l, i + 1 => by simp [map_erase f l i]
theorem findIdx_map (ls : List LReg) (a : Int) (i : Nat) (hi : i < ls.length) (h : ls[i].base = a) (hno : ∀ j (hj : j < ls.length), j < i → ls[j].base ≠ a) : (ls.map LReg.reg).findIdx? (fun r => r.base == a) = some i := by
  rw [List.findIdx?_eq_some_iff_getElem]
  refine ⟨by simpa using hi, by simpa [LReg.reg] using h, fun j hj => ?_⟩
  simpa [LReg.reg] using hno j (by omega) hj

theorem let_spc (h : Spc w p S fs) (a : Int) : Calls Try.prog 13 #[.pointer (some ⟨p, 0, none⟩), .int .i64 a] w fun e w' =>
    Stp w p fs (S.let_ a).2 w' ∧ e = .returned (.int .i64 (S.let_ a).1) := by
  have h0 := h
  obtain ⟨sl, ls, h1, ok, hr, rfl⟩ := h
  refine (let_any h1 ok a).mono ?_
  rintro e w' (⟨i, hi, sl', rfl, hs, hkp, hft, rfl⟩ | ⟨hno, hb, rfl⟩)
  · have : S.let_ ls[i].base = (0, { S with regs := (ls.eraseIdx i).map LReg.reg }) := by
      unfold Sp.let_
      rw [hr, findIdx_map ls _ i hi rfl (fun j hj hji => by have := ok.mono j i hji hi; have := ok.lo _ (List.getElem_mem hj); omega)]
      simp [map_erase]
    rw [this]
    exact ⟨⟨_, ⟨sl', _, hs, ok.erase i, rfl, rfl⟩, hkp, fun b hb => .inl (hft b hb)⟩, rfl⟩
  · have : S.let_ a = (211, S) := by
      unfold Sp.let_
      have : S.regs.findIdx? (fun r => r.base == a) = none := by
        rw [hr, List.findIdx?_eq_none_iff]
        intro r hr
        obtain ⟨x, hx, rfl⟩ := List.mem_map.1 hr
        obtain ⟨i, hi, rfl⟩ := List.getElem_of_mem hx
        simpa [LReg.reg] using hno i hi
      rw [this]
    rw [this]
    exact ⟨Stp.of_below h0 hb, rfl⟩

theorem regs_snoc {last : Int} {ls : List LReg} (ok : RegsOk last ls) (k Wn : Nat) (h1 : 1 ≤ k) (h2 : k ≤ 1048576) (h3 : tot ls + k ≤ 4194304) (hl : last ≤ 1152921504606846976) :
    RegsOk (nextBase last + k - 1) (ls ++ [⟨nextBase last, Wn, k, List.replicate k (0, 0)⟩]) := by
  have l0 := ok.last0
  have hnb : last + 1 ≤ nextBase last ∧ nextBase last ≤ last + 2 ∧ (ls ≠ [] → last + 2 ≤ nextBase last) := by
    unfold nextBase
    split
    · rename_i q
      refine ⟨by omega, by omega, fun hne => ?_⟩
      obtain ⟨a, l, rfl⟩ := List.exists_cons_of_ne_nil hne
      have := ok.lo a (by simp); omega
    · omega
  refine ⟨?_, ?_, by omega, by omega, ?_⟩
  · intro r hr
    rcases List.mem_append.1 hr with hr | hr
    · have := ok.lo r hr; omega
    · obtain rfl : r = _ := by simpa using hr
      simp only [List.length_replicate]; omega
  · refine List.pairwise_append.2 ⟨ok.sep, by simp, ?_⟩
    intro a ha b hb
    obtain rfl : b = _ := by simpa using hb
    have := ok.lo a ha
    have := hnb.2.2 (List.ne_nil_of_mem ha)
    simp only; omega
  · simp only [List.map_append, List.map_cons, List.map_nil, List.sum_append, List.length_replicate, List.sum_cons, List.sum_nil]
    unfold tot at h3; omega

theorem take_spc (h : Spc w p S fs) (m : Int) (hl : S.last ≤ 1152921504606846976) : Calls Try.prog 12 #[.pointer (some ⟨p, 0, none⟩), .int .i64 m] w fun e w' =>
    Stp w p fs (S.take m).2 w' ∧ e = .returned (.tuple #[.int .i64 (S.take m).1.1, .int .i64 (S.take m).1.2]) := by
  have h0 := h
  obtain ⟨sl, ls, h1, ok, hr, rfl⟩ := h
  by_cases hm : m < 1 ∨ 1048576 < m ∨ 4194304 < total S.regs + m
  · have : S.take m = ((0, 211), S) := by unfold Sp.take; rw [if_pos hm]
    rw [this]
    rw [hr, total_map] at hm
    refine (take_err h1 ok m hm).mono ?_
    rintro e w' ⟨rfl, hb⟩
    exact ⟨Stp.of_below h0 hb, rfl⟩
  · have he : S.take m = ((nextBase S.last, 0), ⟨S.regs ++ [⟨nextBase S.last, List.replicate m.toNat (0, 0)⟩], nextBase S.last + m - 1⟩) := by unfold Sp.take; rw [if_neg hm]
    rw [he]
    rw [hr, total_map] at hm
    obtain ⟨k, rfl⟩ := Int.eq_ofNat_of_zero_le (show 0 ≤ m by omega)
    refine (take_ok h1 ok k (by omega) (by omega) (by omega) hl).mono ?_
    rintro e w' ⟨sl', Wn, hs, hkp, hft, rfl⟩
    refine ⟨⟨_, ⟨sl', _, hs, regs_snoc ok k Wn (by omega) (by omega) (by omega) hl, ?_, rfl⟩, hkp, hft⟩, rfl⟩
    simp [hr, LReg.reg]

/-- regions, told as bases and how many words -/
def tells (rs : List Reg) : List (Int × Int) := rs.map fun r => (r.base, (r.words.length : Int))
theorem gcells_tells (ls : List LReg) : gcells ls = wcells (tells (ls.map LReg.reg)) := by
  simp only [gcells, wcells, tells, List.map_map, flatMap_map']
  rfl
theorem regions_spc (h : Spc w p S fs) : Calls Try.prog 14 #[.pointer (some ⟨p, 0, none⟩)] w fun e w' => Below w.heap.size w w' ∧
    ∃ v, e = .returned v ∧ w'.ownsRow w.heap.size 39 2 v S.regs.length (wcells (tells S.regs)) ∧ (v = .slice none 0 0 ↔ S.regs = []) := by
  obtain ⟨sl, ls, h1, ok, hr, rfl⟩ := h
  refine (regions_any h1 ok).mono ?_
  rintro e w' ⟨hb, v, rfl, hrow, hnil⟩
  refine ⟨hb, v, rfl, ?_, ?_⟩
  · rw [hr, ← gcells_tells]; simpa using hrow
  · rw [hr, hnil]; simp
end
end Go.Proofs.Ytkooogllajmkeaa
