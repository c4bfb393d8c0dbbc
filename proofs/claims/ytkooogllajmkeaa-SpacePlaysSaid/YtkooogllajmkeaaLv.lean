/- The contract of Live: how many words there are. -/
import Derived.Test.YtkooogllajmkeaaEa
import Derived.WalkMore
namespace Go.Proofs.Ytkooogllajmkeaa
open Go.RowKit Go.Shelf
attribute [local go_sem] Oper.semAt_some

def tot (ls : List LReg) : Nat := (ls.map (·.words.length)).sum
def totIn {ls : List LReg} (pre : List (In ls)) : Nat := (pre.map (·.1.words.length)).sum
theorem totIn_snoc {ls : List LReg} (pre : List (In ls)) (x : In ls) : totIn (pre ++ [x]) = totIn pre + x.1.words.length := by simp [totIn]
theorem totIn_all (ls : List LReg) : totIn ls.attach = tot ls := by
  have : ls.attach.map (fun x : In ls => x.1.words.length) = ls.map (·.words.length) := by
    rw [show (fun x : In ls => x.1.words.length) = (fun r : LReg => r.words.length) ∘ Subtype.val from rfl, ← List.map_map, List.attach_map_subtype_val]
  rw [totIn, this, tot]
theorem totIn_le {ls : List LReg} (h : ∀ r ∈ ls, r.words.length ≤ 1048576) (pre : List (In ls)) : totIn pre ≤ pre.length * 1048576 := by
  induction pre with
  | nil => simp [totIn]
  | cons a l ih => have := h a.1 a.2; simp only [totIn, List.map_cons, List.sum_cons, List.length_cons] at ih ⊢; omega
theorem totIn_prefix {ls : List LReg} {pre : List (In ls)} (h : pre <+: ls.attach) : totIn pre ≤ tot ls := by
  obtain ⟨r, hr⟩ := h
  rw [← totIn_all, ← hr]
  simp [totIn]

def Full {ls : List LReg} (pre : List (In ls)) : Prop := 4194304 ≤ totIn pre
theorem wpIn_scope' {n : Nat} {P : Program} {c : Code} {Q : Exit → Act → World → Prop} {a : Act} {w : World} (h : c.wpIn Fence.wide n P (Exit.noGoto Q) a w) : (Code.scope c).wpIn Fence.wide n P Q a w := wpIn_wide.2 (wp_scope_straight (wpIn_wide.1 h))
theorem wpIn_label' {n : Nat} {P : Program} {l : Nat} {Q : Exit → Act → World → Prop} {a : Act} {w : World} (h : Q .normal a w) : (Code.label l).wpIn Fence.wide n P Q a w := wpIn_wide.2 (wp_label h)
set_option maxRecDepth 100000 in
set_option maxHeartbeats 2000000 in
theorem live_in {w : World} {p : Nat} {last : Int} {sl : Value} {ls : List LReg} (h : SpAt w p last sl ls) (ok : RegsOk last ls) (n : Nat) (hn : 5 ≤ n) :
    CallsIn Fence.wide n Try.prog 16 #[.pointer (some ⟨p, 0, none⟩)] w fun e w' => e = .returned (.int .i64 (tot ls)) ∧ Below w.heap.size w w' := by
  have hfn : ∀ k, Fence.wide.fn k := fun _ => trivial
  have hn1 : 1 ≤ n := by omega
  refine callsIn_of_wp_marks Try.func16 rfl trivial ?_ rfl
  simp only [Try.ntmps16, List.size_toArray, List.length_cons, List.length_nil, Nat.reduceAdd, Nat.reduceSub, Array.replicate_succ, Array.replicate_zero, List.push_toArray, List.append_toArray, List.nil_append, List.cons_append]
  gi_wp2
  refine wpIn_scope' ?_
  gi_wp2
  refine wpIn_label' ?_
  gi_wp2_with (gi_at_call 46; refine (each_in (n - 1) _ _).mono ?_; rintro e w' ⟨rfl, rfl⟩)
  have bN := (Boxed.new w 3 (.int .i64 0)).alloc (.cells #[.pointer (some ⟨p, 0, none⟩)] 52)
  have bE := Boxed.new (w.alloc (.cells #[.int .i64 0] 3)) 52 (.pointer (some ⟨p, 0, none⟩))
  simp only [World.size_alloc] at bE
  have hB0 : Below w.heap.size w ((w.alloc (.cells #[.int .i64 0] 3)).alloc (.cells #[.pointer (some ⟨p, 0, none⟩)] 52)) := ((Below.refl _ w).alloc (Nat.le_refl _) _).alloc (by simp) _
  have hsz : ((w.alloc (.cells #[.int .i64 0] 3)).alloc (.cells #[.pointer (some ⟨p, 0, none⟩)] 52)).heap.size = w.heap.size + 2 := by simp
  obtain ⟨W0, hW0⟩ : ∃ W0, (w.alloc (.cells #[.int .i64 0] 3)).alloc (.cells #[.pointer (some ⟨p, 0, none⟩)] 52) = W0 := ⟨_, rfl⟩
  rw [hW0] at bN bE hB0 hsz ⊢
  clear hW0
  have hw63 : ∀ r ∈ ls, r.words.length ≤ 1048576 := fun r hr => (ok.lo r hr).2.2.1
  refine wpIn_rangeFunc_ownH (F := Fence.wide) rfl (by omega) (gf := 79) (lb := #[.pointer (some ⟨w.heap.size + 1, 0, none⟩)]) rfl trivial (enters_of Try.func79 (by kernel_rfl) rfl)
    (each_stops (n - 1) (by omega) (w.heap.size + 1) p w.heap.size last sl ls ok.count W0 (by omega) (by omega) bE.cell (h.below hB0) h.lt) belowK_t (belowK_b (by omega)) (Below.refl _ _) (fun _ => rfl)
    (fun pre W => Boxed W w.heap.size 3 (.int .i64 (totIn pre)) ∧ Below w.heap.size w W)
    (fun c pre W => (c = .exit 0 ∧ Full pre) ∧ Boxed W w.heap.size 3 (.int .i64 (totIn pre)) ∧ Below w.heap.size w W)
    (OwnFrom.and (Own.from (boxed_own _ _ _) _) (ownFrom_below (Nat.le_refl _) (by omega)))
    (fun c => OwnFrom.and (ownFrom_pure _ _) (OwnFrom.and (Own.from (boxed_own _ _ _) _) (ownFrom_below (Nat.le_refl _) (by omega))))
    ⟨bN, hB0⟩
    (fun x a' W => ∃ Bx, w.heap.size < Bx ∧ W.heap[Bx]? = some (.cells #[.int .i64 x.1.base, .slice (some ⟨x.1.wb, 0, none⟩) x.1.words.length x.1.cap] 100 (0, 0)) ∧ a' = { tmps := #[.pointer (some ⟨p, 0, none⟩), undef, .int .i64 0, .pointer (some ⟨w.heap.size, 0, none⟩), .pointer (some ⟨Bx, 0, none⟩), .pointer (some ⟨p, 0, none⟩), .func (.func 79) #[] #[.pointer (some ⟨w.heap.size + 1, 0, none⟩)], .agg #[.int .i64 x.1.base, .slice (some ⟨x.1.wb, 0, none⟩) x.1.words.length x.1.cap], undef, undef, undef, undef, undef, undef, undef, undef], defers := [] })
    (fun x a' _ X Y row hs hg hr => by obtain ⟨Bx, h1, h2, h3⟩ := hs; exact ⟨Bx, h1, (hg.block Bx (lt_of_heap h2) (fun e => by obtain ⟨_, o, ho, hc⟩ := hr Bx e.symm; rw [h2] at ho; cases ho; simp [Obj.isCells] at hc)).trans h2, h3⟩)
    ?assign ?body ?done ?stop
  case assign =>
    rintro l pre x W K ⟨bN1, hB1⟩ hK
    unfold renc
    gi_wp2
    exact hK _ _ ((KeepsOthers.alloc _ _).from _) ((Below.refl _ W).alloc hB1.size _) ⟨bN1.alloc _, hB1.alloc hB1.size _⟩ ⟨W.heap.size, bN1.lt, heap_alloc_new W _, rfl⟩
  case body =>
    have hn2 : 1 ≤ n - 1 - 1 := by omega
    rintro l pre x a' W hl ⟨r, hr⟩ ⟨bN1, hB1⟩ ⟨Bx, hBx, bX, rfl⟩ hlt
    have cN := bN1.cell
    have fN := bN1.frozen
    have cX1 : W.cell? ⟨Bx, 1, none⟩ = some (.slice (some ⟨x.1.wb, 0, none⟩) x.1.words.length x.1.cap) := by rw [cell_of_row W Bx 1 _ _ _ bX]; rfl
    have hle : totIn pre ≤ 4398046511104 := by have := totIn_le hw63 pre; have := ok.count; omega
    have hx := hw63 x.1 x.2
    clear hw63
    obtain ⟨T, hT⟩ : ∃ T : Nat, T = totIn pre + x.1.words.length := ⟨_, rfl⟩
    have e1 : IntKind.i64.wrap ((totIn pre : Int) + (x.1.words.length : Int)) = (T : Int) := by rw [IntKind.wrap_i64]; omega
    by_cases hge : 4194304 ≤ T
    · have hge' : (4194304 : Int) ≤ (T : Int) := by omega
      have HG : Hid (Full (pre ++ [x])) := by unfold Hid Full; rw [totIn_snoc, ← hT]; exact hge
      have HT := Hid.mk hT
      clear hT hx hle hge
      gi_wp2
      exact ⟨(KeepsOthers.setCell _ _ _).from _, ⟨rfl, HG.out⟩, by rw [totIn_snoc, ← HT.out]; exact bN1.set _, hB1.setCell (p := ⟨w.heap.size, 0, none⟩) (Nat.le_refl _) _⟩
    · have hge' : decide ((4194304 : Int) ≤ (T : Int)) = false := by simp; omega
      have HT := Hid.mk hT
      clear hT hx hle hge
      gi_wp2
      exact ⟨(KeepsOthers.setCell _ _ _).from _, (Below.refl _ W).setCell (p := ⟨w.heap.size, 0, none⟩) (Nat.le_refl _) _, by rw [totIn_snoc, ← HT.out]; exact bN1.set _, hB1.setCell (p := ⟨w.heap.size, 0, none⟩) (Nat.le_refl _) _⟩
  case done =>
    rintro D zs W hD rfl ⟨bN1, hB1⟩ hK
    have cN := bN1.cell
    gi_wp2
    rw [Exit.noGoto_ret]
    refine ⟨by simp, .inl ⟨_, _, rfl, run_takeDeferred hK, ?_⟩⟩
    exact ⟨_, results_tmp rfl _ _ _, by rw [totIn_all]; rfl, hB1.trans (belowK_b (w := w) (Nat.le_refl _) W D _ _ (by omega) hK rfl rfl)⟩
  case stop =>
    rintro D c pre W hD hpre ⟨⟨rfl, hge⟩, bN1, hB1⟩ hK
    have cN := bN1.cell
    have HE : Hid (totIn pre = tot ls) := by
      have h1 := totIn_prefix hpre
      have h2 := ok.live
      unfold Full at hge
      unfold Hid
      unfold tot at *
      omega
    gi_wp2
    rw [Exit.noGoto_ret]
    refine ⟨by simp, .inl ⟨_, _, rfl, run_takeDeferred hK, ?_⟩⟩
    exact ⟨_, results_tmp rfl _ _ _, by rw [← HE.out]; rfl, hB1.trans (belowK_b (w := w) (Nat.le_refl _) W D _ _ (by omega) hK rfl rfl)⟩
theorem live_any {w : World} {p : Nat} {last : Int} {sl : Value} {ls : List LReg} (h : SpAt w p last sl ls) (ok : RegsOk last ls) :
    Calls Try.prog 16 #[.pointer (some ⟨p, 0, none⟩)] w fun e w' => e = .returned (.int .i64 (tot ls)) ∧ Below w.heap.size w w' := callsIn_wide.1 (live_in h ok 10 (by decide))
end Go.Proofs.Ytkooogllajmkeaa
