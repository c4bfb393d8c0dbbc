/- Contracts of Get and Of: a word's value, the region of an address. -/
import Derived.Test.YtkooogllajmkeaaRn
import Derived.StillTailTactics
namespace Go.Proofs.Ytkooogllajmkeaa
open Go.RowKit

/-- what is known of a block of two cells that was laid ahead of a call -/
theorem box2 {w w1 : World} {u v : Value} {T : TypeId} (hb : Below (w.alloc (.cells #[u, v] T)).heap.size (w.alloc (.cells #[u, v] T)) w1) :
    w1.cell? ⟨w.heap.size, 0, none⟩ = some u ∧ w1.cell? ⟨w.heap.size, 1, none⟩ = some v ∧ (∀ o, w1.frozen? ⟨w.heap.size, o, none⟩ = false) ∧ w.heap.size < w1.heap.size := by
  refine ⟨?_, ?_, fun o => ?_, ?_⟩
  · rw [hb.cell (p := ⟨w.heap.size, 0, none⟩) (by simp)]; simp
  · rw [hb.cell (p := ⟨w.heap.size, 1, none⟩) (by simp)]; simp
  · rw [hb.frozen (p := ⟨w.heap.size, o, none⟩) (by simp)]; simp
  · have := hb.size; simp at this; omega

def GetPost (ls : List LReg) (a : Int) (w : World) (e : Ending) (w' : World) : Prop :=
  Below w.heap.size w w' ∧
  ((∃ (i j : Nat) (hi : i < ls.length) (hj : j < ls[i].words.length), a = ls[i].base + j ∧
      ((ls[i].words[j] = (0, 0) ∧ e = .returned (.tuple #[.agg #[.int .i64 0, .int .i64 0], .int .i64 212])) ∨
       (ls[i].words[j] ≠ (0, 0) ∧ e = .returned (.tuple #[.agg #[.int .i64 ls[i].words[j].1, .int .i64 ls[i].words[j].2], .int .i64 0])))) ∨
   ((∀ (i : Nat) (hi : i < ls.length), hasB ls[i].base ls[i].words.length a 1 = false) ∧ e = .returned (.tuple #[.agg #[.int .i64 0, .int .i64 0], .int .i64 210])))
theorem seg_one {l : List (Int × Int)} {j : Nat} (h : j < l.length) : seg l j 1 = [l[j]] := by
  unfold seg; rw [List.drop_eq_getElem_cons h]; rfl

set_option maxRecDepth 100000 in
theorem get_any {w : World} {p : Nat} {last : Int} {sl : Value} {ls : List LReg} (h : SpAt w p last sl ls) (ok : RegsOk last ls) (a : Int) :
    Calls Try.prog 19 #[.pointer (some ⟨p, 0, none⟩), .int .i64 a] w (GetPost ls a w) := by
  have hb0 : Below w.heap.size w (w.alloc (.cells #[.int .i64 0, .int .i64 0] 29)) := (Below.refl _ _).alloc (Nat.le_refl _) _
  have HF := Hid.mk (run_any (h.below hb0) ok a 1)
  go_enter Try.func19, Try.ntmps19
  go_wp2_with fail
  refine HF.out.mono ?_
  clear HF
  rintro e w1 ⟨hb, ⟨q, _⟩ | ⟨i, j, k, hi, rfl, hk1, hk, hjk, ⟨hz, rfl⟩ | ⟨hz, g, c, hrow, rfl⟩⟩ | ⟨hm, hno, rfl⟩⟩
  · exact absurd q (by omega)
  all_goals
    obtain ⟨c0, c1, f0, hsz⟩ := box2 hb
    have hbb := hb0.trans (hb.mono hb0.size)
  · obtain rfl : k = 1 := by omega
    have hj : j < ls[i].words.length := by omega
    rw [seg_one hj] at hz
    have Z := Hid.mk hz
    clear hz hk1
    go_wp2
    refine bodyPost_ret (v := .tuple #[.agg #[.int .i64 0, .int .i64 0], .int .i64 212]) (by simp [results, Try.results19, go_sem, c0, c1]) rfl ⟨?_, .inl ⟨i, j, hi, hj, rfl, .inl ⟨?_, rfl⟩⟩⟩
    · exact (hbb.setCell (Nat.le_refl _) _).setCell (Nat.le_refl _) _
    · have := Z.out; simp at this; exact this.symm
  · obtain rfl : k = 1 := by omega
    have hj : j < ls[i].words.length := by omega
    rw [seg_one hj] at hz hrow
    have Z := Hid.mk hz
    clear hz hk1
    have r0 : w1.cell? ⟨g, 0, none⟩ = some (.int .i64 ls[i].words[j].1) := row_cell hrow (j := 0) rfl
    have r1 : w1.cell? ⟨g, 1, none⟩ = some (.int .i64 ls[i].words[j].2) := row_cell hrow (j := 1) rfl
    go_wp2
    refine bodyPost_ret (v := .tuple #[.agg #[.int .i64 ls[i].words[j].1, .int .i64 ls[i].words[j].2], .int .i64 0]) (by simp [results, Try.results19, go_sem, c0, c1]) rfl ⟨?_, .inl ⟨i, j, hi, hj, rfl, .inr ⟨?_, rfl⟩⟩⟩
    · exact (hbb.setCell (Nat.le_refl _) _).setCell (Nat.le_refl _) _
    · have := Z.out; simp at this; exact fun e => this e.symm
  · go_wp2
    refine bodyPost_ret (v := .tuple #[.agg #[.int .i64 0, .int .i64 0], .int .i64 210]) (by simp [results, Try.results19, go_sem, c0, c1]) rfl ⟨?_, .inr ⟨fun i hi => hno i hi (by omega), rfl⟩⟩
    exact (hbb.setCell (Nat.le_refl _) _).setCell (Nat.le_refl _) _

def OfPost (ls : List LReg) (a : Int) (w : World) (e : Ending) (w' : World) : Prop :=
  Below w.heap.size w w' ∧
  ((∃ (i : Nat) (hi : i < ls.length), hasB ls[i].base ls[i].words.length a 1 = true ∧ e = .returned (.tuple #[.agg #[.int .i64 ls[i].base, .int .i64 ls[i].words.length], .bool true])) ∨
   ((∀ (i : Nat) (hi : i < ls.length), hasB ls[i].base ls[i].words.length a 1 = false) ∧ e = .returned (.tuple #[.agg #[.int .i64 0, .int .i64 0], .bool false])))
set_option maxRecDepth 100000 in
theorem of_any {w : World} {p : Nat} {last : Int} {sl : Value} {ls : List LReg} (h : SpAt w p last sl ls) (ok : RegsOk last ls) (a : Int) :
    Calls Try.prog 15 #[.pointer (some ⟨p, 0, none⟩), .int .i64 a] w (OfPost ls a w) := by
  have hb0 : Below w.heap.size w (w.alloc (.cells #[.int .i64 0, .int .i64 0] 39)) := (Below.refl _ _).alloc (Nat.le_refl _) _
  have HF := Hid.mk (find_any (h.below hb0) ok a 1)
  go_enter Try.func15, Try.ntmps15
  go_wp2_with fail
  refine HF.out.mono ?_
  clear HF
  rintro e w1 ⟨hb, ⟨i, hi, hh, _, rfl⟩ | ⟨hno, rfl⟩⟩
  all_goals
    obtain ⟨c0, c1, f0, hsz⟩ := box2 hb
    have hbb := hb0.trans (hb.mono hb0.size)
    have h1 := (h.below hb0).below hb
  · rcases h1.shape with ⟨rfl, rfl⟩ | ⟨B, cap, rfl, hcap⟩
    · exact absurd hi (by simp)
    have hx := h1.base hi
    have hy := h1.wslice hi
    have hz := h1.cell0
    have hn := ok.count
    have HH := Hid.mk hh
    clear hh
    go_wp2
    go_still_tail 18, (by kernel_rfl)
    go_wp2
    refine bodyPost_ret (v := .tuple #[.agg #[.int .i64 ls[i].base, .int .i64 ls[i].words.length], .bool true]) (by simp [results, Try.results15, go_sem, c0, c1]) rfl ⟨?_, .inl ⟨i, hi, HH.out, rfl⟩⟩
    exact ((hbb.drew).setCell (Nat.le_refl _) _).setCell (Nat.le_refl _) _
  · go_wp2
    refine bodyPost_ret (v := .tuple #[.agg #[.int .i64 0, .int .i64 0], .bool false]) (by simp [results, Try.results15, go_sem, c0, c1]) rfl ⟨?_, .inr ⟨fun i hi => hno i hi (by omega), rfl⟩⟩
    exact (hbb.setCell (Nat.le_refl _) _).setCell (Nat.le_refl _) _
end Go.Proofs.Ytkooogllajmkeaa
