/- As many keys as there are full words. -/
import Derived.Test.YtkooogllajmkeaaKm
namespace Go.Proofs.Ytkooogllajmkeaa
open Go.RowKit Go.Maps

def cnt (ws : List (Int × Int)) : Nat := ws.countP (fun v => decide (v ≠ (0, 0)))
def cntAll (rs : List Reg) : Nat := (rs.map fun r => cnt r.words).sum
def fullIdx (ws : List (Int × Int)) : List Nat := (List.range ws.length).filter fun j => decide (∃ h : j < ws.length, ws[j] ≠ (0, 0))
def fulls (rs : List Reg) : List Int := rs.flatMap fun r => (fullIdx r.words).map fun (j : Nat) => r.base + (j : Int)
theorem cnt_take {ws : List (Int × Int)} {j : Nat} (hj : j < ws.length) : cnt (ws.take (j + 1)) = cnt (ws.take j) + if ws[j] = (0, 0) then 0 else 1 := by
  unfold cnt
  rw [List.take_succ_eq_append_getElem hj, List.countP_append]
  by_cases h : ws[j] = (0, 0) <;> simp [h]
theorem fullIdx_to (ws : List (Int × Int)) : ∀ n : Nat, n ≤ ws.length → ((List.range n).filter fun j => decide (∃ h : j < ws.length, ws[j] ≠ (0, 0))).length = cnt (ws.take n) := by
  intro n
  induction n with
  | zero => intro _; rfl
  | succ n ih =>
    intro hn
    rw [List.range_succ, List.filter_append, List.length_append, ih (by omega), cnt_take (by omega)]
    congr 1
    have hn' : n < ws.length := by omega
    by_cases h : ws[n] = (0, 0)
    · rw [if_pos h, List.filter_cons_of_neg (by simp [h])]; rfl
    · rw [if_neg h, List.filter_cons_of_pos (by simp [h, hn'])]; rfl
theorem fullIdx_len (ws : List (Int × Int)) : (fullIdx ws).length = cnt ws := by
  unfold fullIdx
  rw [fullIdx_to ws _ (Nat.le_refl _), List.take_length]
theorem fulls_len (rs : List Reg) : (fulls rs).length = cntAll rs := by
  simp [fulls, cntAll, List.length_flatMap, fullIdx_len]
theorem fulls_mem {S : Sp} (ok : Spok S) (a : Int) : a ∈ fulls S.regs ↔ (full S a).isSome = true := by
  rw [Option.isSome_iff_exists]
  simp only [full_iff ok, fulls, List.mem_flatMap, List.mem_map, fullIdx, List.mem_filter, List.mem_range, decide_eq_true_eq]
  constructor
  · rintro ⟨r, hr, j, ⟨hj, _, hz⟩, rfl⟩
    obtain ⟨i, hi, rfl⟩ := List.mem_iff_getElem.1 hr
    exact ⟨_, hz, i, j, hi, hj, rfl, rfl⟩
  · rintro ⟨v, hv, i, j, hi, hj, rfl, rfl⟩
    exact ⟨_, List.getElem_mem hi, j, ⟨hj, hj, hv⟩, rfl⟩
theorem fulls_sorted {S : Sp} (ok : Spok S) : (fulls S.regs).Pairwise (· < ·) := by
  unfold fulls
  rw [List.pairwise_flatMap]
  constructor
  · intro r _
    rw [List.pairwise_map]
    exact (List.Pairwise.filter _ List.pairwise_lt_range).imp (fun h => by omega)
  · rw [List.pairwise_iff_getElem]
    intro i k hi hk hik x hx y hy
    have hs := reg_sep ok hik hk
    simp only [List.mem_map, fullIdx, List.mem_filter, List.mem_range] at hx hy
    obtain ⟨j, ⟨hj, _⟩, rfl⟩ := hx
    obtain ⟨l, _, rfl⟩ := hy
    omega
def keyZ : Lit → Int
  | .int _ a => a
  | _ => 0
theorem same_len {α : Type} [DecidableEq α] {l l' : List α} (h : l.Nodup) (h' : l'.Nodup) (e : ∀ a, a ∈ l ↔ a ∈ l') : l.length = l'.length := ((List.perm_ext_iff_of_nodup h h').2 e).length_eq
theorem map_count {S : Sp} (ok : Spok S) {D : DataW Unit} (ht : Tidy D) (h : MapIs D (full S)) : Maps.size D = cntAll S.regs := by
  obtain ⟨es, rfl, hk⟩ := h.1
  obtain ⟨es', e, hp⟩ := ht
  cases e
  have hkey : ∀ p ∈ es, p.1 = .int .i64 (keyZ p.1) := by
    intro p hp
    have := List.any_eq_false.1 hk p hp
    cases hq : p.1 <;> simp [hq, keyB] at this
    rename_i k a
    cases k <;> simp at this
    rfl
  have hn : (es.map fun p => keyZ p.1).Nodup := by
    rw [List.nodup_iff_pairwise_ne, List.pairwise_map]
    refine List.Pairwise.imp_of_mem ?_ hp
    intro p q hp hq hne e
    exact hne (by rw [hkey p hp, hkey q hq, e])
  have hf : (fulls S.regs).Nodup := (fulls_sorted ok).imp (fun h => Int.ne_of_lt h)
  rw [← fulls_len, Maps.size_eq]
  have el : es.length = (es.map fun p => keyZ p.1).length := by simp
  rw [el]
  refine same_len hn hf fun a => ?_
  rw [fulls_mem ok, ← (h.2 a).1, has_eq, List.any_eq_true]
  simp only [List.mem_map]
  constructor
  · rintro ⟨p, hp, rfl⟩
    exact ⟨p, hp, by rw [← hkey p hp]; rw [hkey p hp]; exact WideAt.sameKey_self (isKey64 _)⟩
  · rintro ⟨p, hp, hs⟩
    have := WideAt.sameKey_eq hs
    exact ⟨p, hp, by rw [this]; rfl⟩
def cntTo (rs : List Reg) (i : Nat) : Nat := cntAll (rs.take i)
theorem cntTo_zero (rs : List Reg) : cntTo rs 0 = 0 := by simp [cntTo, cntAll]
theorem cntTo_succ {rs : List Reg} {i : Nat} (hi : i < rs.length) : cntTo rs (i + 1) = cntTo rs i + cnt rs[i].words := by
  unfold cntTo cntAll
  rw [List.take_succ_eq_append_getElem hi, List.map_append, List.sum_append]
  simp
theorem cntTo_all (rs : List Reg) : cntTo rs rs.length = cntAll rs := by simp [cntTo]
theorem cnt_le (ws : List (Int × Int)) : cnt ws ≤ ws.length := List.countP_le_length
theorem full_at {S : Sp} (ok : Spok S) {i j : Nat} (hi : i < S.regs.length) (hj : j < S.regs[i].words.length) : full S (S.regs[i].base + j) = if S.regs[i].words[j] = (0, 0) then none else some S.regs[i].words[j] := by
  unfold full
  rw [at_locate ok hi hj (by omega)]
  simp only [wordAt_get hi hj]
end Go.Proofs.Ytkooogllajmkeaa
