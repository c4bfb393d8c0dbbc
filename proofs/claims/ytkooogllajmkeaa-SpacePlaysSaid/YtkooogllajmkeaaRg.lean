/- The contract of Regions: all regions, in their order. -/
import Derived.Test.YtkooogllajmkeaaLv
import Derived.Maps.AppendAt
namespace Go.Proofs.Ytkooogllajmkeaa
open Go.RowKit Go.Shelf
attribute [local go_sem] Oper.semAt_some
/-- regions as cells: a base and how many words -/
def gcell (r : LReg) : List Value := [.int .i64 r.base, .int .i64 r.words.length]
def gcells (ls : List LReg) : List Value := ls.flatMap gcell
theorem gcells_len (ls : List LReg) : (gcells ls).length = ls.length * 2 := flat2_len _ (fun _ => rfl) ls
def vals {ls : List LReg} (pre : List (In ls)) : List LReg := pre.map (·.1)
theorem vals_snoc {ls : List LReg} (pre : List (In ls)) (x : In ls) : vals (pre ++ [x]) = vals pre ++ [x.1] := by simp [vals]
theorem vals_all (ls : List LReg) : vals ls.attach = ls := by simp [vals]
theorem gcells_snoc (ls : List LReg) (x : LReg) : gcells (ls ++ [x]) = gcells ls ++ gcell x := by simp [gcells]
theorem infoR : (Try.prog.info? 39).map (fun i => (i.zero, i.size, i.bytes)) = some (some (.agg #[.int .i64 0, .int .i64 0]), 2, 16) := by kernel_rfl
theorem two_new (w : World) (a b : Value) (T : TypeId) : ∀ j u, [a, b][j]? = some u → (w.alloc (.cells #[a, b] T)).cell? ((⟨w.heap.size, 0, none⟩ : Addr).add j) = some u := by
  intro j u hu
  match j, hu with
  | 0, hu => simpa [Addr.add] using hu
  | 1, hu => simpa [Addr.add] using hu

def RegionsPost (ls : List LReg) (w : World) (e : Ending) (w' : World) : Prop :=
  Below w.heap.size w w' ∧ ∃ v, e = .returned v ∧ w'.ownsRow w.heap.size 39 2 v ls.length (gcells ls) ∧ (v = .slice none 0 0 ↔ ls = [])

set_option maxRecDepth 100000 in
set_option maxHeartbeats 2000000 in
theorem regions_in {w : World} {p : Nat} {last : Int} {sl : Value} {ls : List LReg} (h : SpAt w p last sl ls) (ok : RegsOk last ls) (n : Nat) (hn : 5 ≤ n) :
    CallsIn Fence.wide n Try.prog 14 #[.pointer (some ⟨p, 0, none⟩)] w (RegionsPost ls w) := by
  have hfn : ∀ k, Fence.wide.fn k := fun _ => trivial
  have hn1 : 1 ≤ n := by omega
  obtain ⟨i0, hi, hz0, hz1, hz2⟩ := info_parts infoR
  refine callsIn_of_wp_marks Try.func14 rfl trivial ?_ rfl
  simp only [Try.ntmps14, List.size_toArray, List.length_cons, List.length_nil, Nat.reduceAdd, Nat.reduceSub, Array.replicate_succ, Array.replicate_zero, List.push_toArray, List.append_toArray, List.nil_append, List.cons_append]
  gi_wp2_with (gi_at_call 46; refine (each_in (n - 1) _ _).mono ?_; rintro e w' ⟨rfl, rfl⟩)
  have bN := (Boxed.new w 36 (.slice none 0 0)).alloc (.cells #[.pointer (some ⟨p, 0, none⟩)] 52)
  have bE := Boxed.new (w.alloc (.cells #[.slice none 0 0] 36)) 52 (.pointer (some ⟨p, 0, none⟩))
  simp only [World.size_alloc] at bE
  have hB0 : Below w.heap.size w ((w.alloc (.cells #[.slice none 0 0] 36)).alloc (.cells #[.pointer (some ⟨p, 0, none⟩)] 52)) := ((Below.refl _ w).alloc (Nat.le_refl _) _).alloc (by simp) _
  have hsz : ((w.alloc (.cells #[.slice none 0 0] 36)).alloc (.cells #[.pointer (some ⟨p, 0, none⟩)] 52)).heap.size = w.heap.size + 2 := by simp
  obtain ⟨W0, hW0⟩ : ∃ W0, (w.alloc (.cells #[.slice none 0 0] 36)).alloc (.cells #[.pointer (some ⟨p, 0, none⟩)] 52) = W0 := ⟨_, rfl⟩
  rw [hW0] at bN bE hB0 hsz ⊢
  clear hW0
  have hcnt := ok.count
  refine wpIn_rangeFunc_ownH (F := Fence.wide) rfl (by omega) (gf := 79) (lb := #[.pointer (some ⟨w.heap.size + 1, 0, none⟩)]) rfl trivial (enters_of Try.func79 (by kernel_rfl) rfl)
    (each_stops (n - 1) (by omega) (w.heap.size + 1) p w.heap.size last sl ls ok.count W0 (by omega) (by omega) bE.cell (h.below hB0) h.lt) belowK_t (belowK_b (by omega)) (Below.refl _ _) (fun _ => rfl)
    (fun pre W => (∃ v, Boxed W w.heap.size 36 v ∧ W.ownsRow w.heap.size 39 2 v (vals pre).length (gcells (vals pre)) ∧ (v = .slice none 0 0 ↔ vals pre = [])) ∧ Below w.heap.size w W)
    (fun c pre W => False)
    (OwnFrom.and (Own.from (holdsRow_own w.heap.size w.heap.size 36 39 2 (fun pre => (vals pre).length) (fun pre => gcells (vals pre)) (fun pre v => (v = .slice none 0 0 ↔ vals pre = []))) _) (ownFrom_below (Nat.le_refl _) (by omega)))
    (fun _ _ _ _ _ hs _ _ => hs)
    ⟨⟨_, bN, World.ownsRow_nil _ _ _ _, by simp [vals]⟩, hB0⟩
    (fun x a' W => ∃ Bx, w.heap.size < Bx ∧ W.heap[Bx]? = some (.cells #[.int .i64 x.1.base, .slice (some ⟨x.1.wb, 0, none⟩) x.1.words.length x.1.cap] 100 (0, 0)) ∧ a' = { tmps := #[.pointer (some ⟨p, 0, none⟩), undef, .slice none 0 0, .pointer (some ⟨w.heap.size, 0, none⟩), .pointer (some ⟨Bx, 0, none⟩), .pointer (some ⟨p, 0, none⟩), .func (.func 79) #[] #[.pointer (some ⟨w.heap.size + 1, 0, none⟩)], .agg #[.int .i64 x.1.base, .slice (some ⟨x.1.wb, 0, none⟩) x.1.words.length x.1.cap], undef, undef, undef, undef, undef, undef, undef, undef, undef, undef], defers := [] })
    (fun x a' _ X Y row hs hg hr => by obtain ⟨Bx, h1, h2, h3⟩ := hs; exact ⟨Bx, h1, (hg.block Bx (lt_of_heap h2) (fun e => by obtain ⟨_, o, ho, hc⟩ := hr Bx e.symm; rw [h2] at ho; cases ho; simp [Obj.isCells] at hc)).trans h2, h3⟩)
    ?assign ?body ?done ?stop
  case assign =>
    rintro l pre x W K ⟨⟨v, bV, hrow, hnil⟩, hB1⟩ hK
    unfold renc
    gi_wp2
    exact hK _ _ ((KeepsOthers.alloc _ _).from _) ((Below.refl _ W).alloc hB1.size _) ⟨⟨v, bV.alloc _, hrow.alloc _, hnil⟩, hB1.alloc hB1.size _⟩ ⟨W.heap.size, bV.lt, heap_alloc_new W _, rfl⟩
  case body =>
    have hn2 : 1 ≤ n - 1 - 1 := by omega
    rintro l pre x a' W hl ⟨r, hr⟩ ⟨⟨v, bV, hrow, hnil⟩, hB1⟩ ⟨Bx, hBx, bX, rfl⟩ hlt
    have cV := bV.cell
    have cX0 : W.cell? ⟨Bx, 0, none⟩ = some (.int .i64 x.1.base) := by rw [cell_of_row W Bx 0 _ _ _ bX]; rfl
    have cX1 : W.cell? ⟨Bx, 1, none⟩ = some (.slice (some ⟨x.1.wb, 0, none⟩) x.1.words.length x.1.cap) := by rw [cell_of_row W Bx 1 _ _ _ bX]; rfl
    have hle : (vals pre).length < ls.length := by simpa [vals] using hlt
    have hNil := Hid.mk hnil
    clear hnil
    gi_wp2_with (gi_at_builtin; refine wpListIn_append_own _ rfl (.tmp 8) (.tmp 15) 36 rfl w.heap.size 39 i0 (.agg #[.int .i64 0, .int .i64 0]) 2 16 Try.underlying36 hi hz0 hz1 hz2 rfl (by decide) _ _ _ rfl (hrow.alloc _) ⟨W.heap.size, 0, none⟩ 1 1 [.int .i64 x.1.base, .int .i64 x.1.words.length] rfl rfl (two_new _ _ _ _) ?c3 ?c4 ?c5 ?c6 ?_)
    case c3 => intro u hu; simp only [List.mem_cons, List.not_mem_nil, or_false] at hu; obtain rfl | rfl := hu <;> rfl
    case c4 => unfold maxLen; omega
    case c5 => omega
    case c6 => have := hB1.size; simp; omega
    intro v' w1 hown' hgrow hnn
    obtain ⟨hv1, hv2, hr2, hk2, hb2⟩ := bV.appended (by decide) hrow hB1.size (Nat.le_refl _) hown' hgrow
    obtain ⟨g', cap', rfl⟩ := ownsRow_succ hown'
    have hc1 := hv1.cell
    have hf1 := hv1.frozen
    gi_wp2
    refine ⟨hk2.from _, hb2, ⟨_, hv2, ?_, by simp [vals_snoc]⟩, hB1.trans hb2⟩
    rw [vals_snoc, gcells_snoc]
    simpa [gcell] using hr2
  case done =>
    rintro D zs W hD rfl ⟨⟨v, bV, hrow, hnil⟩, hB1⟩ hK
    have cV := bV.cell
    gi_wp2
    refine ⟨by simp, .inl ⟨_, _, rfl, run_takeDeferred hK, ?_⟩⟩
    rw [vals_all] at hrow hnil
    exact ⟨_, results_tmp rfl _ _ _, hB1.trans (belowK_b (w := w) (Nat.le_refl _) W D _ _ (by omega) hK rfl rfl), v, rfl, ownsRow_putObj hrow _ hK rfl, hnil⟩
  case stop =>
    rintro D c pre W _ _ h _
    exact h.elim
theorem regions_any {w : World} {p : Nat} {last : Int} {sl : Value} {ls : List LReg} (h : SpAt w p last sl ls) (ok : RegsOk last ls) :
    Calls Try.prog 14 #[.pointer (some ⟨p, 0, none⟩)] w (RegionsPost ls w) := callsIn_wide.1 (regions_in h ok 10 (by decide))
end Go.Proofs.Ytkooogllajmkeaa
