/- The statement SpacePlays. -/
import Derived.Test.YtkooogllajmkeaaRows
import Derived.Test.YtkooogllajmkeaaPy
import Derived.WalkKit
import Derived.ProofKit
import Derived.OpenShut
import Derived.Carry
namespace Go.Proofs.Ytkooogllajmkeaa.spacePlays
open Go.ChangeShapes Go.WideShapes Go.ChangeAt Go.RowKit

theorem own : ownKnob Try.prog.godebug = none := by kernel_rfl
theorem laid : laidOutB Try.prog = true := by kernel_rfl

set_option maxRecDepth 100000 in
theorem lifted (os : Os) (started : os.Started) (H : Type) (enc : TypeId × Value → H) :
    ReturnsInHanded {} Try.checked os 5 .any (Rows.spacePlaysSpec.pre6 enc Try.prog Try.f5 Rows.spacePlaysRow.domain false) (Rows.spacePlaysSpec.post enc Try.prog Try.f5 false true false false) := by
  refine returnsInHanded_of_change (C := Try.checked) own started (by kernel_rfl) Try.func5
    (ChangeSpec.witness6 (enc := enc) (C := Try.checked) false ⟨#[], #[.slice none 0 0, .int .i64 0], []⟩ 8 (by kernel_rfl) (by kernel_rfl) (by kernel_rfl) (by kernel_rfl)) ?_
  intro W base args ds gs before hval0 hW hcnd _
  have hval : ∀ (j : Nat) t v, Try.f5.params[j]? = some t → args[j]? = some v → Value.okWide Try.prog W .any base t v := hval0
  have hW' := hW
  obtain ⟨p, q, hA0, hV, rfl, hfz, hnd⟩ := hW
  have hA : DataW.TrodAll enc Try.prog W 0 (fun _ => true) true Try.f5.params.toList args.toList ds p := hA0
  rw [Try.params5] at hA hval
  have hlt := DataW.TrodAll.lt hA
  obtain ⟨v, v', d, d', p1, p2, rfl, rfl, rfl, hT, hT2⟩ := trodAll_two hA
  obtain ⟨rfl, rfl⟩ := trodVars_none hV
  clear hA0 hval0
  simp only [List.append_nil] at hW'
  obtain ⟨xs, hx⟩ := open_ops (hval 0 _ v rfl rfl) hT
  obtain ⟨a, rfl, rfl, rfl, hwa⟩ := open_int Try.underlying2 (hval 1 _ v' rfl rfl) hT2
  refine (plays_any hx a (in64_of_wf hwa)).mono fun e W' ⟨he, hg⟩ => ?_
  subst he
  have hT' := hg.trod laid (by kernel_rfl) (of_decide_eq_true (by kernel_rfl)) hT (fun x hx => hlt x (by simp [hx]))
  have hT2' : DataW.Trod enc Try.checked.prog W' 0 (fun b => decide (b < W.heap.size)) true 2 (.int .i64 a) (.lit (.int .i64 a)) [] := shut_int Try.underlying2 hwa
  exact ⟨_, rfl, ⟨_, _, _, [], _, [], hW', trodAll_cons_mk (shut_bool Try.underlying4 _) trodAll_mk0, trodAll_cons_mk hT' (trodAll_cons_mk hT2' trodAll_mk0), rfl, hg.frame _, fun h => by cases h⟩⟩

theorem over : Rows.spacePlaysRow.holds Try.pinned (OpenSpec.ofChange Rows.spacePlaysSpec) :=
  OpenClaim.holds_of_wide 5 Try.f5 rfl rfl rfl rfl rfl rfl rfl ⟨rfl, rfl, rfl, rfl, rfl⟩ rfl rfl rfl rfl rfl (by kernel_rfl) Try.func5 (by kernel_rfl)
    (of_decide_eq_true (by kernel_rfl)) (by unfold Func.isWrapper; first | (rw [if_pos (by decide +kernel)]; kernel_rfl) | (rw [if_neg (by decide +kernel)]; exact ⟨rfl, rfl⟩))
    (fun os started H enc _ => lifted os started H enc)

theorem proved : Rows.SpacePlaysSaid :=
  over
#print axioms proved
end Go.Proofs.Ytkooogllajmkeaa.spacePlays
