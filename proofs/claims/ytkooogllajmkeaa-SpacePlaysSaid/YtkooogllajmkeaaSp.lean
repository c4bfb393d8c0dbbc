/- Spaces as plain data: regions with their words, and the last address; what each method answers and leaves; and the methods' contracts over these. -/
import Derived.Test.YtkooogllajmkeaaLt
import Derived.Test.YtkooogllajmkeaaMv
namespace Go.Proofs.Ytkooogllajmkeaa
open Go.RowKit

structure Sp where
  regs : List Reg
  last : Int

/-- the region that has m addresses from a on, and the place in it -/
def locate : List Reg → Int → Int → Option (Nat × Nat)
  | [], _, _ => none
  | r :: rs, a, m => if hasB r.base r.words.length a m then some (0, (a - r.base).toNat) else (locate rs a m).map fun x => (x.1 + 1, x.2)

theorem locate_none {a m : Int} : ∀ {rs : List Reg}, (∀ r ∈ rs, hasB r.base r.words.length a m = false) → locate rs a m = none
  | [], _ => rfl
  | r :: rs, h => by simp [locate, h r (by simp), locate_none (rs := rs) (fun x hx => h x (by simp [hx]))]
theorem locate_some {a m : Int} : ∀ {rs : List Reg} {i : Nat} (hi : i < rs.length), hasB rs[i].base rs[i].words.length a m = true → (∀ j (hj : j < rs.length), j < i → hasB rs[j].base rs[j].words.length a m = false) → locate rs a m = some (i, (a - rs[i].base).toNat)
  | r :: rs, 0, _, h, _ => by simp at h; simp [locate, h]
  | r :: rs, i + 1, hi, h, hno => by
    have h0 : hasB r.base r.words.length a m = false := hno 0 (by simp) (by omega)
    have ih := locate_some (rs := rs) (i := i) (by simpa using hi) (by simpa using h) (fun j hj hji => hno (j + 1) (by simpa using hj) (by omega))
    simp [locate, h0, ih]

def wordAt (rs : List Reg) (i j : Nat) : Int × Int := ((rs[i]?).bind (fun r => r.words[j]?)).getD (0, 0)
def wordsAt (rs : List Reg) (i : Nat) : List (Int × Int) := ((rs[i]?).map (fun r => r.words)).getD []
def setAt (rs : List Reg) (i : Nat) (ws : List (Int × Int)) : List Reg := rs.modify i (fun r => { r with words := ws })
def total (rs : List Reg) : Nat := (rs.map (fun r => r.words.length)).sum

namespace Sp
def take (S : Sp) (m : Int) : (Int × Int) × Sp :=
  if m < 1 ∨ 1048576 < m ∨ 4194304 < total S.regs + m then ((0, 211), S)
  else ((nextBase S.last, 0), ⟨S.regs ++ [⟨nextBase S.last, List.replicate m.toNat (0, 0)⟩], nextBase S.last + m - 1⟩)
def let_ (S : Sp) (a : Int) : Int × Sp :=
  match S.regs.findIdx? (fun r => r.base == a) with
  | some i => (0, { S with regs := S.regs.eraseIdx i })
  | none => (211, S)
def of (S : Sp) (a : Int) : (Int × Int) × Bool :=
  match locate S.regs a 1 with
  | some (i, _) => ((((S.regs[i]?).map (fun r => r.base)).getD 0, (wordsAt S.regs i).length), true)
  | none => ((0, 0), false)
def get (S : Sp) (a : Int) : (Int × Int) × Int :=
  match locate S.regs a 1 with
  | some (i, j) => if wordAt S.regs i j = (0, 0) then ((0, 0), 212) else (wordAt S.regs i j, 0)
  | none => ((0, 0), 210)
def put (S : Sp) (a : Int) (v : Int × Int) : Int × Sp :=
  match locate S.regs a 1 with
  | some (i, j) => if okV v.1 v.2 then (0, { S with regs := setAt S.regs i ((wordsAt S.regs i).set j v) }) else (21, S)
  | none => (210, S)
def drop (S : Sp) (a m : Int) : Int × Sp :=
  if m = 0 then (0, S) else if m < 0 then (210, S) else
  match locate S.regs a m with
  | some (i, j) => (0, { S with regs := setAt S.regs i (over (wordsAt S.regs i) j (List.replicate m.toNat (0, 0))) })
  | none => (210, S)
def move (S : Sp) (b a m : Int) : Int × Sp :=
  if m = 0 then (0, S) else if m < 0 then (210, S) else
  match locate S.regs b m, locate S.regs a m with
  | some (i, j), some (i2, j2) => (0, { S with regs := setAt S.regs i (over (wordsAt S.regs i) j (seg (wordsAt S.regs i2) j2 m.toNat)) })
  | _, _ => (210, S)
/-- the values, or none, and the error -/
def run (S : Sp) (a m : Int) : Option (List (Int × Int)) × Int :=
  if m = 0 then (none, 0) else if m < 0 then (none, 210) else
  match locate S.regs a m with
  | some (i, j) => if (0, 0) ∈ seg (wordsAt S.regs i) j m.toNat then (none, 212) else (some (seg (wordsAt S.regs i) j m.toNat), 0)
  | none => (none, 210)
end Sp

/-- block p holds the space S; fs are the blocks that it owns -/
def Spc (w : World) (p : Nat) (S : Sp) (fs : List Nat) : Prop :=
  ∃ sl ls, SpAt w p S.last sl ls ∧ RegsOk S.last ls ∧ S.regs = ls.map LReg.reg ∧ fs = foot p sl ls
/-- what a call that writes leaves: another space in the same block; nothing else has turned; what it owns is its own or new -/
def Stp (w : World) (p : Nat) (fs : List Nat) (S : Sp) (w' : World) : Prop := ∃ fs', Spc w' p S fs' ∧ Kp fs w w' ∧ ∀ b ∈ fs', b ∈ fs ∨ w.heap.size ≤ b

theorem Spc.kp {w w' : World} {p : Nat} {S : Sp} {fs gs : List Nat} (h : Spc w p S fs) (k : Kp gs w w') (hd : ∀ b ∈ fs, b ∉ gs) : Spc w' p S fs := by
  obtain ⟨sl, ls, h1, h2, h3, rfl⟩ := h
  exact ⟨sl, ls, h1.kp k hd, h2, h3, rfl⟩
theorem Spc.below {w w' : World} {p : Nat} {S : Sp} {fs : List Nat} (h : Spc w p S fs) (k : Below w.heap.size w w') : Spc w' p S fs := h.kp (Kp.of_below k []) (by simp)
theorem Spc.lt {w : World} {p : Nat} {S : Sp} {fs : List Nat} (h : Spc w p S fs) : ∀ b ∈ fs, b < w.heap.size := by
  obtain ⟨sl, ls, h1, _, _, rfl⟩ := h
  exact h1.lt
theorem Spc.mem {w : World} {p : Nat} {S : Sp} {fs : List Nat} (h : Spc w p S fs) : p ∈ fs := by
  obtain ⟨sl, ls, _, _, _, rfl⟩ := h
  simp [foot]
theorem Stp.of_below {w w' : World} {p : Nat} {S : Sp} {fs : List Nat} (h : Spc w p S fs) (k : Below w.heap.size w w') : Stp w p fs S w' := ⟨fs, h.below k, Kp.of_below k _, fun _ hb => .inl hb⟩

section
variable {ls : List LReg}
theorem reg_get {i : Nat} (hi : i < ls.length) : (ls.map LReg.reg)[i]? = some ls[i].reg := by simp [hi]
theorem wordsAt_map {i : Nat} (hi : i < ls.length) : wordsAt (ls.map LReg.reg) i = ls[i].words := by simp [wordsAt, hi, LReg.reg]
theorem wordAt_map {i j : Nat} (hi : i < ls.length) (hj : j < ls[i].words.length) : wordAt (ls.map LReg.reg) i j = ls[i].words[j] := by simp [wordAt, hi, LReg.reg, hj]
theorem setAt_map {i : Nat} {ws : List (Int × Int)} : setAt (ls.map LReg.reg) i ws = (setWords ls i ws).map LReg.reg := by
  apply List.ext_getElem?
  intro k
  simp only [setAt, setWords, List.getElem?_map, List.getElem?_modify]
  rcases Nat.lt_or_ge k ls.length with q | q
  · simp only [q, List.getElem?_eq_getElem, Option.map_some]
    by_cases e : i = k <;> simp [e, LReg.reg]
  · simp [List.getElem?_eq_none q]
theorem total_map : total (ls.map LReg.reg) = tot ls := by simp [total, tot, LReg.reg, Function.comp_def]
theorem loc_some {last : Int} (ok : RegsOk last ls) {i : Nat} (hi : i < ls.length) {a m : Int} (h : hasB ls[i].base ls[i].words.length a m = true) : locate (ls.map LReg.reg) a m = some (i, (a - ls[i].base).toNat) := by
  have := locate_some (rs := ls.map LReg.reg) (i := i) (a := a) (m := m) (by simpa using hi) (by simpa [LReg.reg] using h) (fun j hj hji => by
    have hj' : j < ls.length := by simpa using hj
    cases e : hasB ls[j].base ls[j].words.length a m with
    | false => simpa [LReg.reg] using e
    | true => have := hasB_uniq ok hj' hi e h; omega)
  simpa [LReg.reg] using this
theorem loc_none {a m : Int} (h : ∀ (i : Nat) (hi : i < ls.length), hasB ls[i].base ls[i].words.length a m = false) : locate (ls.map LReg.reg) a m = none := by
  refine locate_none fun r hr => ?_
  obtain ⟨x, hx, rfl⟩ := List.mem_map.1 hr
  obtain ⟨i, hi, rfl⟩ := List.getElem_of_mem hx
  exact h i hi
theorem loc_at {last : Int} (ok : RegsOk last ls) {i j : Nat} (hi : i < ls.length) {m : Int} (hj : j < ls[i].words.length) (hm : m ≤ ls[i].words.length - j) : locate (ls.map LReg.reg) (ls[i].base + j) m = some (i, j) := by
  rw [loc_some ok hi (hasB_iff.2 ⟨by omega, by omega, by omega⟩)]
  simp; omega
end
end Go.Proofs.Ytkooogllajmkeaa
