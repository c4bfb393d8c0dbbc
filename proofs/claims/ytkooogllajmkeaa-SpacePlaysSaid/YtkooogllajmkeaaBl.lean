/- Laws of clear and copy at a row of elements of whatever size. -/
import Derived.Test.YtkooogllajmkeaaMem
import Derived.Laws.CopyOwn
namespace Go.Proofs.Ytkooogllajmkeaa
open Go.RowKit

section
variable {P : Program} {w : World} {base : Nat} {e : TypeId} {size g n cap : Nat} {xs : List Value}

theorem length_splice' {α : Type} (L : List α) (off : Nat) (cs : List α) (h : off + cs.length ≤ L.length) : (splice L off cs).length = L.length := by simp [splice]; omega

theorem row_store (h : w.ownsRow base e size (.slice (some ⟨g, 0, none⟩) n cap) n xs) (o : Nat) (vs : List Value) (hfit : o + vs.length ≤ n * size) (h1 : ∀ v ∈ vs, v.oneCell' = true) :
    ∃ w', (storeCells ⟨g, o, none⟩ vs 0).run P w = .ok () w' ∧ w'.ownsRow base e size (.slice (some ⟨g, 0, none⟩) n cap) n (splice xs o vs) ∧ w.grownBy w' (some g) := by
  obtain ⟨hl, q | ⟨g', cap', cur, hv, hb, hg, hn, hm, hs, ht⟩⟩ := h
  · simp at q
  · simp only [Value.slice.injEq, Option.some.injEq, Addr.mk.injEq, and_true, true_and] at hv
    obtain ⟨rfl, rfl⟩ := hv
    have hnc : n * size ≤ cap * size := Nat.mul_le_mul_right _ hn
    have hst := run_storeCells_at P g o e vs 0 cur w hg (by rw [hs]; simp; omega) h1
    simp only [Nat.add_zero] at hst
    refine ⟨_, hst, ⟨by rw [length_splice' _ _ _ (by omega)]; exact hl, .inr ⟨g, cap, _, rfl, hb, setRow_heap w g _ _ e _ hg, hn, hm, ?_, ?_⟩⟩, ⟨rfl, rfl, rfl, by simp [World.setRow], fun k _ hk => setRow_other w g k _ (fun q => hk (by rw [q]))⟩⟩
    · simp only [List.size_toArray, List.length_append, List.length_take, List.length_drop, Array.length_toList]; omega
    · subst ht
      simp only [splice, List.take_append, List.take_take, List.length_take, List.length_append, Array.length_toList, List.drop_take, hs]
      have hc : cur.toList.length = cap * size := by simp [hs]
      rw [Nat.min_eq_right (by omega), Nat.min_eq_left (by omega), Nat.min_eq_left (by omega), List.take_of_length_le (l := vs) (by omega), List.append_assoc]

theorem wpList_clear_row {ops : Array Oper} {rest : List Oper} {o : Oper} {a : Act} {Q : Exit → Act → World → Prop} (hgd : o.guard = none) (s : Operand) (t : TypeId)
    (ho : o.op = .call { callee := .builtin .clear, args := #[s], argTypes := #[t] }) (ht : P.underlying t = some (.slice e)) (z : Value) (hv : ∀ w, (zeroValue e).run P w = .ok z w)
    (off k c : Nat) (hs : a.eval s = .slice (some ⟨g, off, none⟩) k c) (h1 : 1 ≤ k) (hown : w.ownsRow base e size (.slice (some ⟨g, 0, none⟩) n cap) n xs)
    (zs : List Value) (hzs : (Builtin.zeroCells z.cells k).toList = zs) (hfit : off + zs.length ≤ n * size) (hone : ∀ v ∈ zs, v.oneCell' = true)
    (h : ∀ w', w'.ownsRow base e size (.slice (some ⟨g, 0, none⟩) n cap) n (splice xs off zs) → w.grownBy w' (some g) → wpList P ops Q rest (a.put o.dst (.tuple #[])) w') : wpList P ops Q (o :: rest) a w := by
  refine wpList_plain hgd fun K hK => ?_
  obtain ⟨w', hst, hr, hg⟩ := row_store (P := P) hown off zs hfit hone
  obtain ⟨k, rfl⟩ : ∃ m, k = m + 1 := ⟨k - 1, by omega⟩
  have hrun : (Builtin.clear_ #[t] o.type #[.slice (some ⟨g, off, none⟩) (k + 1) c]).run P w = .ok (.tuple #[]) w' := by
    simp [Builtin.clear_, run_underlying ht, hv, hzs, hst]
  unfold Oper.wp
  simp [execOp, ho, resolve, invoke, builtin, hs, hrun, Result.andThen]
  exact hK _ _ (h w' hr hg)

theorem wpList_copy_row {ops : Array Oper} {rest : List Oper} {o : Oper} {a : Act} {Q : Exit → Act → World → Prop} (hgd : o.guard = none) (d s : Operand) (dT sT : TypeId)
    (ho : o.op = .call { callee := .builtin .copy, args := #[d, s], argTypes := #[dT, sT] }) (hu : P.underlying dT = some (.slice e)) (hsz : (P.info? e).map (·.size) = some size)
    (off dLen dCap : Nat) (ad : Addr) (sLen sCap : Nat) (hd : a.eval d = .slice (some ⟨g, off, none⟩) dLen dCap) (hs : a.eval s = .slice (some ad) sLen sCap)
    (hown : w.ownsRow base e size (.slice (some ⟨g, 0, none⟩) n cap) n xs) (cs : List Value) (hn : cs.length = Nat.min sLen dLen * size)
    (hsrc : ∀ j v, cs[j]? = some v → w.cell? (ad.add j) = some v) (hfit : off + cs.length ≤ n * size) (h1 : ∀ v ∈ cs, v.oneCell' = true)
    (h : ∀ w', w'.ownsRow base e size (.slice (some ⟨g, 0, none⟩) n cap) n (splice xs off cs) → w.grownBy w' (some g) → wpList P ops Q rest (a.put o.dst (goInt (Nat.min sLen dLen))) w') : wpList P ops Q (o :: rest) a w := by
  refine wpList_plain hgd fun K hK => ?_
  obtain ⟨w', hst, hr, hg⟩ := row_store (P := P) hown off cs hfit h1
  have hf := run_firstCells_some (P := P) w size (Nat.min sLen dLen) ad sLen sCap cs hn hsrc
  have hrun : (Builtin.copy_ #[dT, sT] o.type #[.slice (some ⟨g, off, none⟩) dLen dCap, .slice (some ad) sLen sCap]).run P w = .ok (goInt (Nat.min sLen dLen)) w' := by
    cases hq : P.info? e with
    | none => simp [hq] at hsz
    | some i =>
      have hi : i.size = size := by simpa [hq] using hsz
      simp [Builtin.copy_, run_underlying hu, Builtin.lenOf, sizeOf, typeInfo, hq, hi, hf, hst]
  unfold Oper.wp
  simp [execOp, ho, resolve, invoke, builtin, hd, hs, hrun, Result.andThen]
  exact hK _ _ (h w' hr hg)
end
end Go.Proofs.Ytkooogllajmkeaa
