/- The contract of Move: words go over. -/
import Derived.Test.YtkooogllajmkeaaDp
namespace Go.Proofs.Ytkooogllajmkeaa
open Go.RowKit
theorem wpList_copy_nil {P : Program} {w : World} {e : TypeId} {i : TypeInfo} {ops : Array Oper} {rest : List Oper} {o : Oper} {a : Act} {Q : Exit → Act → World → Prop} (hgd : o.guard = none) (d s : Operand) (dT sT : TypeId)
    (ho : o.op = .call { callee := .builtin .copy, args := #[d, s], argTypes := #[dT, sT] }) (hu : P.underlying dT = some (.slice e)) (hi : P.info? e = some i)
    (dp : Option Addr) (dLen dCap : Nat) (hd : a.eval d = .slice dp dLen dCap) (hs : a.eval s = .slice none 0 0)
    (h : wpList P ops Q rest (a.put o.dst (goInt 0)) w) : wpList P ops Q (o :: rest) a w := by
  refine wpList_plain hgd fun K hK => ?_
  have hrun : (Builtin.copy_ #[dT, sT] o.type #[.slice dp dLen dCap, .slice none 0 0]).run P w = .ok (goInt 0) w := by
    cases dp <;> simp [Builtin.copy_, run_underlying hu, Builtin.lenOf, sizeOf, typeInfo, hi, Builtin.firstCells, storeCells]
  unfold Oper.wp
  simp [execOp, ho, resolve, invoke, builtin, hd, hs, hrun, Result.andThen]
  exact hK _ _ h

def MovePost (p : Nat) (last : Int) (sl : Value) (ls : List LReg) (b a m : Int) (w : World) (e : Ending) (w' : World) : Prop :=
  (m = 0 ∧ Below w.heap.size w w' ∧ e = .returned (.int .i64 0)) ∨
  (∃ (i j i2 j2 k : Nat) (hi : i < ls.length) (hi2 : i2 < ls.length), b = ls[i].base + j ∧ a = ls[i2].base + j2 ∧ m = k ∧ 1 ≤ k ∧ j + k ≤ ls[i].words.length ∧ j2 + k ≤ ls[i2].words.length ∧
      Kp [ls[i].wb] w w' ∧ SpAt w' p last sl (setWords ls i (over ls[i].words j (seg ls[i2].words j2 k))) ∧ e = .returned (.int .i64 0)) ∨
  (m ≠ 0 ∧ ((∀ (i : Nat) (hi : i < ls.length), 0 ≤ m → hasB ls[i].base ls[i].words.length b m = false) ∨ (∀ (i : Nat) (hi : i < ls.length), 0 ≤ m → hasB ls[i].base ls[i].words.length a m = false)) ∧
      Below w.heap.size w w' ∧ e = .returned (.int .i64 210))

set_option maxRecDepth 100000 in
theorem move_any {w : World} {p : Nat} {last : Int} {sl : Value} {ls : List LReg} (h : SpAt w p last sl ls) (ok : RegsOk last ls) (b a m : Int) :
    Calls Try.prog 23 #[.pointer (some ⟨p, 0, none⟩), .int .i64 b, .int .i64 a, .int .i64 m] w (MovePost p last sl ls b a m w) := by
  obtain ⟨i0, hi0, hz0, hz1, hz2⟩ := info_parts infoV
  have HF := Hid.mk (some_any h ok b m)
  go_enter Try.func23, Try.ntmps23
  go_wp2_with fail
  refine HF.out.mono ?_
  clear HF
  rintro e w1 ⟨hb, ⟨rfl, rfl⟩ | ⟨i, j, k, hi, rfl, rfl, hk, hjk, rfl⟩ | ⟨hm, hno, rfl⟩⟩
  · have HF := Hid.mk (some_any (h.below hb) ok a 0)
    go_wp2_with fail
    refine HF.out.mono ?_
    clear HF
    rintro e w2 ⟨hb2, ⟨_, rfl⟩ | ⟨_, _, k, _, _, q, hk, _⟩ | ⟨hm, _⟩⟩
    · go_wp2_with (with_reducible refine wpList_copy_nil rfl (.tmp 32) (.tmp 33) 62 62 rfl Try.underlying62 hi0 none 0 0 rfl rfl ?_)
      go_ret
      exact .inl ⟨rfl, hb.trans (hb2.mono hb.size), rfl⟩
    · omega
    · exact absurd rfl hm
  · have h1 := h.below hb
    have HF := Hid.mk (some_any h1 ok a k)
    go_wp2_with fail
    refine HF.out.mono ?_
    clear HF
    rintro e w2 ⟨hb2, ⟨q, _⟩ | ⟨i2, j2, k2, hi2, rfl, hkk, hk2, hjk2, rfl⟩ | ⟨hm, hno, rfl⟩⟩
    · omega
    · obtain rfl : k = k2 := by omega
      clear hkk hk2
      have hbb := hb.trans (hb2.mono hb.size)
      have h2 := h1.below hb2
      have hr := h2.wrow hi
      have hC := Hid.mk (seg_cells h2 hi2 hjk2)
      go_wp2_with (with_reducible refine wpList_copy_row rfl (.tmp 32) (.tmp 33) 62 62 rfl Try.underlying62 ?c9 (j * 2) k (ls[i].cap - j) ⟨ls[i2].wb, j2 * 2, none⟩ k (ls[i2].cap - j2) rfl rfl hr (wcells (seg ls[i2].words j2 k)) ?c0 hC.out ?c1 (mem_one _) ?_)
      case c9 => rw [hi0]; simp [hz1]
      case c0 => rw [wcells_len, seg_len hjk2]; simp
      case c1 => rw [wcells_len, seg_len hjk2]; omega
      intro w3 hr3 hg3
      go_wp2
      go_ret
      refine .inr (.inl ⟨i, j, i2, j2, k, hi, hi2, rfl, rfl, rfl, hk, hjk, hjk2, ?_, ?_, rfl⟩)
      · exact (Kp.of_below hbb _).grown hg3 (by intro q hq; simp at hq; exact .inl (by simp [hq]))
      · refine h2.replace hi ((Kp.refl _ _).grown hg3 (by intro q hq; simp at hq; exact .inl (by simp [hq]))) _ (over_len (by rw [seg_len hjk2]; omega)) ?_
        rw [wcells_over]; exact hr3
    · go_wp2_with (with_reducible refine wpList_copy_nil rfl (.tmp 32) (.tmp 33) 62 62 rfl Try.underlying62 hi0 _ _ _ rfl rfl ?_)
      go_ret
      exact .inr (.inr ⟨hm, .inr hno, hb.trans (hb2.mono hb.size), rfl⟩)
  · go_wp2
    go_ret
    exact .inr (.inr ⟨hm, .inl hno, hb, rfl⟩)
end Go.Proofs.Ytkooogllajmkeaa
