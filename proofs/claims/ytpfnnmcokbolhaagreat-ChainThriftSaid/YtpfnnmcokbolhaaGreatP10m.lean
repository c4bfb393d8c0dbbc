/- The statement ChainThrift. -/
import Derived.Test.YtpfnnmcokbolhaaGreatMd26
import Derived.Test.YtpfnnmcokbolhaaGreatRows
import Derived.WalkKit
import Derived.ProofKit
import Derived.OpenShut
import Derived.Carry
namespace Go.Proofs.YtpfnnmcokbolhaaGreat.chainThrift
open Go.ChangeShapes Go.WideShapes Go.ChangeAt Go.RowKit

theorem own : ownKnob Tryz.prog.godebug = none := by kernel_rfl
theorem laid : laidOutB Tryz.prog = true := by kernel_rfl

set_option maxRecDepth 100000 in
theorem lifted (os : Os) (started : os.Started) (H : Type) (enc : TypeId × Value → H) :
    ReturnsInHanded {} Tryz.checked os 4 .any (Rows.chainThriftSpec.pre6 enc Tryz.prog Tryz.f4 Rows.chainThriftRow.domain false) (Rows.chainThriftSpec.post enc Tryz.prog Tryz.f4 false true false false) := by
  refine returnsInHanded_of_change (C := Tryz.checked) own started (by kernel_rfl) Tryz.func4
    (ChangeSpec.witness6 (enc := enc) (C := Tryz.checked) false ⟨#[], #[.agg #[.int .i64 0, .int .i64 0], .slice none 0 0], []⟩ 8 (by kernel_rfl) (by kernel_rfl) (by kernel_rfl) (by kernel_rfl)) ?_
  intro W base args ds gs before hval0 hW hcnd _
  have hval : ∀ (j : Nat) t v, Tryz.f4.params[j]? = some t → args[j]? = some v → Value.okWide Tryz.prog W .any base t v := hval0
  have hW' := hW
  obtain ⟨p, q, hA0, hV, rfl, hfz, hnd⟩ := hW
  have hA : DataW.TrodAll enc Tryz.prog W 0 (fun _ => true) true Tryz.f4.params.toList args.toList ds p := hA0
  rw [Tryz.params4] at hA hval
  have hlt := DataW.TrodAll.lt hA
  obtain ⟨v, v', d, d', p1, p2, rfl, rfl, rfl, hT, hT2⟩ := trodAll_two hA
  obtain ⟨rfl, rfl⟩ := trodVars_none hV
  clear hA0 hval0
  simp only [List.append_nil] at hW'
  obtain ⟨a, b, rfl, -, -⟩ := open_segs (hval 0 _ v rfl rfl) hT
  obtain ⟨xs, hx⟩ := open_ops25 (hval 1 _ v' rfl rfl) hT2
  refine (thrift_any hx a b).mono fun e W' ⟨he, hg⟩ => ?_
  subst he
  have hT' := hg.trod laid (by kernel_rfl) (of_decide_eq_true (by kernel_rfl)) hT (fun x hx => hlt x (by simp [hx]))
  have hT2' := hg.trod laid (by kernel_rfl) (of_decide_eq_true (by kernel_rfl)) hT2 (fun x hx => hlt x (by simp [hx]))
  exact ⟨_, rfl, ⟨_, _, _, [], _, [], hW', trodAll_cons_mk (shut_bool Tryz.underlying4 _) trodAll_mk0, trodAll_cons_mk hT' (trodAll_cons_mk hT2' trodAll_mk0), rfl, hg.frame _, fun h => by cases h⟩⟩

theorem over : Rows.chainThriftRow.holds Tryz.pinned (OpenSpec.ofChange Rows.chainThriftSpec) :=
  OpenClaim.holds_of_wide 4 Tryz.f4 rfl rfl rfl rfl rfl rfl rfl ⟨rfl, rfl, rfl, rfl, rfl⟩ rfl rfl rfl rfl rfl (by kernel_rfl) Tryz.func4 (by kernel_rfl)
    (of_decide_eq_true (by kernel_rfl)) (by unfold Func.isWrapper; first | (rw [if_pos (by decide +kernel)]; kernel_rfl) | (rw [if_neg (by decide +kernel)]; exact ⟨rfl, rfl⟩))
    (fun os started H enc _ => lifted os started H enc)

theorem proved : Rows.ChainThriftSaid :=
  over
#print axioms proved
end Go.Proofs.YtpfnnmcokbolhaaGreat.chainThrift
