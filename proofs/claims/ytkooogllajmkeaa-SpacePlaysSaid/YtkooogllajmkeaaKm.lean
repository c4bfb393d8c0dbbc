/- A map of pairs that a law makes, beside a space of its own; and what it holds, in plain words. -/
import Derived.Test.YtkooogllajmkeaaFu
import Derived.Test.YtkooogllajmkeaaNv
import Derived.Maps.OwnSet
namespace Go.Proofs.Ytkooogllajmkeaa
open Go.RowKit Go.Maps Go.MapKept Go.ChangeShapes Go.WideShapes Go.WideElems

def pd (v : Int × Int) : DataW Unit := .agg [.lit (.int .i64 v.1), .lit (.int .i64 v.2)]
theorem pd_inj {u v : Int × Int} (h : pd u = pd v) : u = v := by
  simp only [pd, DataW.agg.injEq, List.cons.injEq, DataW.lit.injEq, Lit.int.injEq, true_and, and_true] at h
  exact Prod.ext h.1 h.2
/-- how a pair in the map reads -/
def pairElem : Value → Option (DataW Unit × List MemPlace)
  | .agg cs => match cs.toList with
    | [.int .i64 t, .int .i64 n] => some (pd (t, n), [])
    | _ => none
  | _ => none
theorem pairElem_mk (t n : Int) : pairElem (.agg #[.int .i64 t, .int .i64 n]) = some (pd (t, n), []) := rfl
theorem pairElem_inv {x : Value} {v : Int × Int} {ps : List MemPlace} (h : pairElem x = some (pd v, ps)) : x = .agg #[.int .i64 v.1, .int .i64 v.2] := by
  unfold pairElem at h
  split at h
  · rename_i cs
    split at h
    · rename_i t n e
      simp only [Option.some.injEq, Prod.mk.injEq] at h
      have := pd_inj h.1
      subst this
      congr 1
      exact Array.toList_inj.1 e
    · cases h
  · cases h
theorem law64 : Keyed Try.prog 2 := int_keyed Try.underlying2
set_option maxRecDepth 100000 in
theorem zeroV29 (w : World) : (zeroValue 29).run Try.prog w = .ok (.agg #[.int .i64 0, .int .i64 0]) w := by kernel_rfl
theorem wf64 {a : Int} (h : In64 a) : (Lit.int .i64 a).wf = true := by
  unfold In64 at h
  simp [Lit.wf, IntKind.min, IntKind.max, IntKind.signed, IntKind.bits]
  omega
theorem key64 {a : Int} (h : In64 a) : keyOf Try.prog 2 (.int .i64 a) = some (.int .i64 a) := keyOf_int_mk Try.underlying2 (wf64 h)

/-- the datum holds f: at each key in range what f says; all keys are numbers -/
def keyB : Lit → Bool
  | .int .i64 a => decide (-9223372036854775808 ≤ a) && decide (a ≤ 9223372036854775807)
  | _ => false
def MapIs (D : DataW Unit) (f : Int → Option (Int × Int)) : Prop :=
  (∃ es, D = .map es ∧ es.any (fun p => !keyB p.1) = false) ∧ ∀ a, has D (.int .i64 a) = (f a).isSome ∧ D.atKey (.int .i64 a) (pd (0, 0)) = pd ((f a).getD (0, 0))
theorem isKey64 (a : Int) : WideAt.IsKeyLit (.int .i64 a) := trivial
theorem mapIs_empty : MapIs (.map []) (fun _ => none) := ⟨⟨[], rfl, rfl⟩, fun _ => ⟨rfl, rfl⟩⟩
theorem mapIs_ext {D : DataW Unit} {f g : Int → Option (Int × Int)} (h : MapIs D f) (e : ∀ a, g a = f a) : MapIs D g := ⟨h.1, fun a => by rw [e]; exact h.2 a⟩
theorem mapIs_del {D : DataW Unit} {f : Int → Option (Int × Int)} (h : MapIs D f) (k : Int) : MapIs (D.del (.int .i64 k)) (fun a => if a = k then none else f a) := by
  refine ⟨?_, fun a => ?_⟩
  · obtain ⟨es, rfl, hk⟩ := h.1
    refine ⟨_, rfl, ?_⟩
    rw [List.any_eq_false] at hk ⊢
    exact fun p hp => hk p (List.mem_filter.1 hp).1
  · simp only
    by_cases e : a = k
    · subst e
      rw [if_pos rfl]
      exact ⟨has_del_same, atKey_del_same _⟩
    · rw [if_neg e, has_del_other (by simpa using e), atKey_del_other (by simpa using e)]
      exact h.2 a
theorem mapIs_put {D : DataW Unit} {f : Int → Option (Int × Int)} (h : MapIs D f) {k : Int} (hk : In64 k) (v : Int × Int) : MapIs (D.put (.int .i64 k) (pd v)) (fun a => if a = k then some v else f a) := by
  have hm : IsMap D := let ⟨es, e, _⟩ := h.1; ⟨es, e⟩
  refine ⟨?_, fun a => ?_⟩
  · obtain ⟨es, rfl, hq⟩ := h.1
    refine ⟨_, rfl, ?_⟩
    have e0 := any_insert (fun p : Lit × DataW Unit => !keyB p.1) (.int .i64 k, pd v) (es.filter fun p => !p.1.sameKey (.int .i64 k))
    refine e0.trans ?_
    have e1 : keyB (.int .i64 k) = true := by unfold In64 at hk; simp [keyB, hk]
    have e2 : (es.filter fun p => !p.1.sameKey (.int .i64 k)).any (fun p => !keyB p.1) = false := by
      rw [List.any_eq_false] at hq ⊢
      exact fun p hp => hq p (List.mem_filter.1 hp).1
    simp [e1, e2]
  · simp only
    by_cases e : a = k
    · subst e
      rw [if_pos rfl]
      exact ⟨has_put_same hm (isKey64 _) _, atKey_put_same hm (isKey64 _) _ _⟩
    · rw [if_neg e, has_put_other (by simpa using e), atKey_put_other (by simpa using e)]
      exact h.2 a

/-- what the object in a map's block is good for -/
def MObj (o : Obj) (n : Nat) (D : DataW Unit) : Prop := ∃ es clock, o = .map es clock ∧ Fit Try.prog 2 pairElem es clock ∧ es.size ≤ n ∧ D = .map ((es.toList.map (rg Try.prog 2 pairElem)).foldr DataW.insert [])
abbrev Owns (W : World) (m n : Nat) (D : DataW Unit) : Prop := W.ownsMap Try.prog 2 pairElem m n D
theorem MObj.owns {o : Obj} {n : Nat} {D : DataW Unit} (h : MObj o n D) {W : World} {m : Nat} (hm : W.heap[m]? = some o) : Owns W m n D := by
  obtain ⟨es, clock, rfl, F, hs, hD⟩ := h
  exact ⟨es, clock, hm, F, hs, hD⟩
theorem owns_obj {W : World} {m n : Nat} {D : DataW Unit} (h : Owns W m n D) : ∃ o, W.heap[m]? = some o ∧ MObj o n D := by
  obtain ⟨es, clock, hm, F, hs, hD⟩ := h
  exact ⟨_, hm, es, clock, rfl, F, hs, hD⟩
theorem MObj.mono {o : Obj} {n n' : Nat} {D : DataW Unit} (h : MObj o n D) (hn : n ≤ n') : MObj o n' D := let ⟨es, clock, a, F, hs, hD⟩ := h; ⟨es, clock, a, F, Nat.le_trans hs hn, hD⟩
theorem Loc.obj {w W : World} {p : Nat} {S : Sp} {E : List (Nat × Obj)} (h : Loc w p S E W) {b : Nat} {o : Obj} (hm : (b, o) ∈ E) : W.heap[b]? = some o := let ⟨_, _, _, _, h4⟩ := h; (h4 _ hm).2
/-- the map has turned, nothing else -/
theorem map_loc {w W W' : World} {p m : Nat} {S : Sp} {E : List (Nat × Obj)} {o o' : Obj} (h : Loc w p S (E ++ [(m, o)]) W) (hE : ∀ x ∈ E, x.1 ≠ m) (hm : w.heap.size ≤ m) (hg : W.grownBy W' (some m)) (ho : W'.heap[m]? = some o') :
    Loc w p S (E ++ [(m, o')]) W' := by
  obtain ⟨fs, h1, h2, h3, h4⟩ := h
  have hk : Kp [m] W W' := (Kp.refl [m] W).grown hg (fun k hk => by cases hk; exact .inl (by simp))
  have hmf : m ∉ fs := (h4 (m, o) (by simp)).1
  refine ⟨fs, h1.kp hk (fun b hb => by simp only [List.mem_singleton]; rintro rfl; exact hmf hb), h2, hk.to_below h3 (by simpa using hm), fun x hx => ?_⟩
  rcases List.mem_append.1 hx with q | q
  · have := h4 x (List.mem_append.2 (.inl q))
    exact ⟨this.1, hk.at this.2 (by simpa using hE x q)⟩
  · simp only [List.mem_singleton] at q
    subst q
    exact ⟨hmf, ho⟩
theorem Loc.weak {w W : World} {p : Nat} {S : Sp} {E E' : List (Nat × Obj)} (h : Loc w p S E W) (hs : ∀ x ∈ E', x ∈ E) : Loc w p S E' W := let ⟨fs, h1, h2, h3, h4⟩ := h; ⟨fs, h1, h2, h3, fun x hx => h4 x (hs x hx)⟩
end Go.Proofs.Ytkooogllajmkeaa
