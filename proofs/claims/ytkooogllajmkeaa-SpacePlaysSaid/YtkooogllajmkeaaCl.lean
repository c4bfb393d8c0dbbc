/- The contract of slices.Clone at values. -/
import Derived.Test.YtkooogllajmkeaaCn
import Derived.WalkSpells
namespace Go.Proofs.Ytkooogllajmkeaa
open Go.RowKit
theorem infoV : (Try.prog.info? 29).map (fun i => (i.zero, i.size, i.bytes)) = some (some (.agg #[.int .i64 0, .int .i64 0]), 2, 16) := by kernel_rfl
theorem nilV (w : World) (a : Option Addr) (n c n' c' : Nat) : (binOp .eql 62 (.slice a n c) (.slice none n' c')).run Try.prog w = .ok (.bool a.isNone) w := Lib.run_eql_slice_nil w _ _ a n c n' c' Try.underlying62
set_option maxRecDepth 100000 in
theorem cloneV_nil (w : World) : Calls Try.prog 61 #[.slice none 0 0] w fun e w' => e = .returned (.slice none 0 0) ∧ w' = w := by
  have q := nilV
  go_enter Try.func61, Try.ntmps61
  go_wp2
  go_ret
  exact ⟨rfl, rfl⟩
/-- a row of the call's own -/
def RowPost (T n : Nat) (xs : List Value) (w : World) (e : Ending) (w' : World) : Prop :=
  Below w.heap.size w w' ∧ ∃ g c, w'.ownsRow w.heap.size T 2 (.slice (some ⟨g, 0, none⟩) n c) n xs ∧ e = .returned (.slice (some ⟨g, 0, none⟩) n c)
set_option maxRecDepth 100000 in
theorem cloneV_any (b o n cap : Nat) (xs : List Value) (w : World) (hb : b < w.heap.size) (hn : xs.length = n * 2) (h1 : 1 ≤ n) (hn2 : n ≤ 4194304)
    (hc : ∀ j u, xs[j]? = some u → w.cell? ((⟨b, o, none⟩ : Addr).add j) = some u) (hone : ∀ u ∈ xs, u.oneCell' = true) :
    Calls Try.prog 61 #[.slice (some ⟨b, o, none⟩) n cap] w (RowPost 29 n xs w) := by
  obtain ⟨i0, hi, hz0, hz1, hz2⟩ := info_parts infoV
  have q := nilV
  have hn' := Hid.mk hn
  have hc' := Hid.mk hc
  clear hn hc
  go_enter Try.func61, Try.ntmps61
  go_wp2_with (at_builtin; refine wpList_append_own _ rfl (.tmp 5) (.tmp 6) 62 rfl w.heap.size 29 i0 (.agg #[.int .i64 0, .int .i64 0]) 2 16 Try.underlying62 hi hz0 hz1 hz2 rfl (by decide) _ 0 [] rfl (World.ownsRow_lit _ _ _ ?c0 ?c01 ?c02) ⟨b, o, none⟩ n cap xs rfl ?c1 ?c2 ?c3 ?c4 ?c5 ?c6 ?_)
  case c0 => exact Nat.le_refl _
  case c01 => exact Nat.zero_le _
  case c02 => rfl
  case c1 => exact hn'.out
  case c2 => intro j u hu; rw [cell_alloc (by rw [add_block]; exact hb)]; exact hc'.out j u hu
  case c3 => exact hone
  case c4 => unfold maxLen; omega
  case c5 => omega
  case c6 => simp
  intro v' w' hown hgrow hnn
  obtain ⟨g, c, rfl⟩ := row_shape hown h1
  go_wp2
  go_ret
  exact ⟨((Below.refl _ _).alloc (Nat.le_refl _) _).grown hgrow (by simp) (by intro k hk; simp [Value.ownBlock] at hk; omega), g, c, by simpa using hown, rfl⟩
end Go.Proofs.Ytkooogllajmkeaa
