/- The contract of Take: a region is taken. Conditions: a space in memory whose last address is no greater than 2^60. -/
import Derived.Test.YtkooogllajmkeaaRg
import Derived.Deep.RegionHeld3
import Derived.Deep.AppendLies
import Derived.Deep.DeepCutAuto
import Derived.RegionTactic
import Derived.BigRegion
namespace Go.Proofs.Ytkooogllajmkeaa
open Go.RowKit

theorem made_zero (k : Nat) : (madeCells #[Value.int .i64 0, .int .i64 0] (k * 2)).toList = wcells (List.replicate k (0, 0)) := by
  rw [← zeros_cells]
  simp [madeCells, Builtin.zeroCells]
theorem makeV (k : Nat) (hk : k ≤ 1048576) (W : World) : (Instr.makeSlice 62 (.int .i64 (k : Int)) (.int .i64 (k : Int))).run Try.prog W = .ok (.slice (some ⟨W.heap.size, 0, none⟩) k k) (W.alloc (.cells (madeCells #[.int .i64 0, .int .i64 0] (k * 2)) 29)) := by
  obtain ⟨i0, hi, hz0, hz1, hz2⟩ := info_parts infoV
  have := run_make (P := Try.prog) W 62 29 i0 _ Try.underlying62 hi hz0 .i64 .i64 k k (by omega) (Int.le_refl _) (by rw [hz2]; omega) (by omega)
  simpa [hz1, Value.cells] using this

set_option maxRecDepth 100000 in
theorem take_err {w : World} {p : Nat} {last : Int} {sl : Value} {ls : List LReg} (h : SpAt w p last sl ls) (ok : RegsOk last ls) (m : Int) (hm : m < 1 ∨ 1048576 < m ∨ 4194304 < tot ls + m) :
    Calls Try.prog 12 #[.pointer (some ⟨p, 0, none⟩), .int .i64 m] w fun e w' => e = .returned (.tuple #[.int .i64 0, .int .i64 211]) ∧ Below w.heap.size w w' := by
  have hl : (tot ls : Int) ≤ 4194304 := by have := ok.live; unfold tot; omega
  by_cases h1 : m < 1
  · go_enter Try.func12, Try.ntmps12
    go_wp2
    go_ret2
    exact ⟨rfl, Below.refl _ _⟩
  · by_cases h2 : 1048576 < m
    · go_enter Try.func12, Try.ntmps12
      go_wp2
      go_ret2
      exact ⟨rfl, Below.refl _ _⟩
    · have h3 : 4194304 < tot ls + m := by omega
      clear hm
      go_enter Try.func12, Try.ntmps12
      go_wp2_with (go_at_call 16; refine (live_any h ok).mono ?_; rintro e w1 ⟨rfl, hb⟩)
      go_ret2
      exact ⟨rfl, hb⟩

/-- behind the making of the region: a box of two cells and a row of empty words, both new -/
def TakeMid (k : Nat) (b : Int) (w : World) (s6 : Value) (W : World) : Prop :=
  ∃ Br Wb, s6 = .pointer (some ⟨Br, 0, none⟩) ∧ Below w.heap.size w W ∧ w.heap.size ≤ Br ∧ w.heap.size ≤ Wb ∧ Br ≠ Wb ∧
    W.heap[Br]? = some (.cells #[.int .i64 b, .slice (some ⟨Wb, 0, none⟩) k k] 100 (0, 0)) ∧ W.ownsRow 0 29 2 (.slice (some ⟨Wb, 0, none⟩) k k) k (wcells (List.replicate k (0, 0)))

def nextBase (last : Int) : Int := if last = 0 then 1 else last + 2
theorem mid1 {w w1 : World} (hb : Below w.heap.size w w1) (k : Nat) (hk : k ≤ 1048576) (b : Int) : TakeMid k b w (.pointer (some ⟨w1.heap.size + 1, 0, none⟩))
    ((w1.alloc (.cells (madeCells #[Value.int .i64 0, .int .i64 0] (k * 2)) 29)).alloc (.cells #[.int .i64 b, .slice (some ⟨w1.heap.size, 0, none⟩) k k] 100)).drew := by
  refine ⟨_, w1.heap.size, rfl, ((hb.alloc hb.size _).alloc (by have := hb.size; simp; omega) _).drew, by have := hb.size; omega, hb.size, by omega, ?_, ?_⟩
  · have := heap_alloc_new (w1.alloc (.cells (madeCells #[Value.int .i64 0, .int .i64 0] (k * 2)) 29)) (.cells #[.int .i64 b, .slice (some ⟨w1.heap.size, 0, none⟩) k k] 100)
    rwa [World.size_alloc] at this
  · have := World.ownsRow_lit (base := 0) (e := 29) (size := 2) w1 (madeCells #[Value.int .i64 0, .int .i64 0] (k * 2)) k (Nat.zero_le _) (by unfold maxLen; omega) (by rw [size_madeCells])
    rw [made_zero] at this
    exact (this.alloc _).drew
theorem mid2 {w w1 : World} (hb : Below w.heap.size w w1) (k : Nat) (hk : k ≤ 1048576) (b : Int) : TakeMid k b w (.pointer (some ⟨w1.heap.size, 0, none⟩))
    ((w1.alloc (.cells #[.int .i64 b, .slice (some ⟨w1.heap.size + 1, 0, none⟩) k k] 100)).alloc (.cells (madeCells #[Value.int .i64 0, .int .i64 0] (k * 2)) 29)).drew := by
  refine ⟨_, w1.heap.size + 1, rfl, ((hb.alloc hb.size _).alloc (by have := hb.size; simp; omega) _).drew, hb.size, by have := hb.size; omega, by omega, ?_, ?_⟩
  · exact (Below.heap_alloc _ _ _ (by simp)).trans (heap_alloc_new w1 _)
  · have := World.ownsRow_lit (base := 0) (e := 29) (size := 2) (w1.alloc (.cells #[.int .i64 b, .slice (some ⟨w1.heap.size + 1, 0, none⟩) k k] 100)) (madeCells #[Value.int .i64 0, .int .i64 0] (k * 2)) k (Nat.zero_le _) (by unfold maxLen; omega) (by rw [size_madeCells])
    rw [made_zero, World.size_alloc] at this
    exact this.drew

theorem mid_set {w wc : World} {Br Wb k : Nat} {b c : Int} (hb1 : Below w.heap.size w wc) (hBr : w.heap.size ≤ Br) (hWb : w.heap.size ≤ Wb) (hne : Br ≠ Wb)
    (hbox : wc.heap[Br]? = some (.cells #[.int .i64 b, .slice (some ⟨Wb, 0, none⟩) k k] 100 (0, 0))) (hrow : wc.ownsRow 0 29 2 (.slice (some ⟨Wb, 0, none⟩) k k) k (wcells (List.replicate k (0, 0)))) :
    TakeMid k c w (.pointer (some ⟨Br, 0, none⟩)) (wc.setCell ⟨Br, 0, none⟩ (.int .i64 c)) := by
  refine ⟨Br, Wb, rfl, hb1.setCell hBr _, hBr, hWb, hne, ?_, ?_⟩
  · rw [heap_setCell_same wc Br 0 _ _ _ hbox]; rfl
  · exact ownsRow_setCell_other hrow (by simp [Value.ownBlock]; omega) _
theorem infoG : (Try.prog.info? 100).map (fun i => (i.zero, i.size, i.bytes)) = some (some (.agg #[.int .i64 0, .slice none 0 0]), 2, 32) := by kernel_rfl

theorem after_app {wc w1 : World} {box : Obj} {row : Option Nat} {p : Nat} {ob : Obj} (hg : ((wc.alloc box).drew).grownBy w1 row) (hh : wc.heap[p]? = some ob) (hsp : row ≠ some p) : w1.heap[p]? = some ob :=
  (hg.block p (by have := lt_of_heap hh; simp; omega) (Ne.symm hsp)).trans ((Below.heap_alloc wc box p (lt_of_heap hh)).trans hh)
theorem in_alloc {w : World} {p j : Nat} {cs : Array Value} {T : TypeId} {v : Value} (h : w.heap[p]? = some (.cells cs T (0, 0))) (hv : cs[j]? = some v) (o : Obj) : (w.alloc o).cell? ⟨p, j, none⟩ = some v := by
  rw [cell_alloc (lt_of_heap h), cell_of_row w p j _ _ _ h, hv]
theorem in_row {w : World} {p j : Nat} {cs : Array Value} {T : TypeId} {v : Value} (h : w.heap[p]? = some (.cells cs T (0, 0))) (hv : cs[j]? = some v) : w.cell? ⟨p, j, none⟩ = some v := by rw [cell_of_row w p j _ _ _ h, hv]
theorem in_alloc_free {w : World} {p : Nat} {cs : Array Value} {T : TypeId} (h : w.heap[p]? = some (.cells cs T (0, 0))) (o : Obj) (j : Nat) : (w.alloc o).frozen? ⟨p, j, none⟩ = false :=
  frozen_of_row _ p j cs T ((Below.heap_alloc w o p (lt_of_heap h)).trans h)
/-- behind the append and the two stores -/
def TakeEnd (p : Nat) (sl : Value) (ls : List LReg) (k : Nat) (b : Int) (Br : Nat) (w W : World) : Prop :=
  ∃ sl' Wn, SpAt W p (b + k - 1) sl' (ls ++ [⟨b, Wn, k, List.replicate k (0, 0)⟩]) ∧ Kp (foot p sl ls) w W ∧
    (∀ x ∈ foot p sl' (ls ++ [⟨b, Wn, k, List.replicate k (0, 0)⟩]), x ∈ foot p sl ls ∨ w.heap.size ≤ x) ∧ W.cell? ⟨Br, 0, none⟩ = some (.int .i64 b)

theorem cell_set_other {w : World} {a b : Addr} {u : Value} (h : b.block ≠ a.block) : (w.setCell a u).cell? b = w.cell? b := World.cell?_of_block (w := w) (Below.heap_setCell w a u b.block h)
theorem rcells_snoc (ls : List LReg) (x : LReg) : rcells (ls ++ [x]) = rcells ls ++ x.cells := by simp [rcells]
theorem foot_snoc (p : Nat) (sl : Value) (ls : List LReg) (x : LReg) : foot p sl (ls ++ [x]) = foot p sl ls ++ [x.wb] := by simp [foot]

theorem take_end {w wc w1 : World} {p : Nat} {last : Int} {sl : Value} {ls : List LReg} {k : Nat} {b : Int} {Br Wn gg cap : Nat} {bx ox : Obj} (h : SpAt w p last sl ls)
    (hb2 : Below w.heap.size w wc) (hBr : w.heap.size ≤ Br) (hWn : w.heap.size ≤ Wn)
    (hbox : wc.heap[Br]? = some (.cells #[.int .i64 b, .slice (some ⟨Wn, 0, none⟩) k k] 100 (0, 0))) (hrow : wc.ownsRow 0 29 2 (.slice (some ⟨Wn, 0, none⟩) k k) k (wcells (List.replicate k (0, 0))))
    (hown1 : w1.ownsRow 0 100 2 (.slice (some ⟨gg, 0, none⟩) (ls.length + 1) cap) (ls.length + 1) (rcells ls ++ [.int .i64 b, .slice (some ⟨Wn, 0, none⟩) k k]))
    (hgrow : ((wc.alloc bx).drew).grownBy w1 sl.ownBlock) (hat : sl.ownBlock = some gg ∨ gg = wc.heap.size + 1) :
    TakeEnd p sl ls k b Br w (((w1.alloc ox).setCell ⟨p, 0, none⟩ (.slice (some ⟨gg, 0, none⟩) (ls.length + 1) cap)).setCell ⟨p, 1, none⟩ (.int .i64 (b + k - 1))) := by
  have h1 := h.below hb2
  have hs := hb2.size
  have hlt := h.lt
  have hnd := h.nodup
  have hp := hlt p (by simp [foot])
  have hWl : Wn < wc.heap.size := (hrow.lt Wn rfl).2
  have hrowlt : ∀ g, sl.ownBlock = some g → g ∈ foot p sl ls ∧ g < w.heap.size := fun g hg => by
    have : g ∈ foot p sl ls := by simp [foot, hg]
    exact ⟨this, hlt g this⟩
  have hsp : sl.ownBlock ≠ some p := fun e => (List.nodup_cons.1 hnd).1 (List.mem_append.2 (.inl (by simp [e])))
  have hggp : gg ≠ p := by
    rcases hat with e | e
    · rintro rfl; exact hsp e
    · omega
  have hwbs : ∀ r ∈ ls, r.wb ∈ foot p sl ls := fun r hr => by simp [foot]; exact .inr (.inr ⟨r, hr, rfl⟩)
  have hwbp : ∀ r ∈ ls, r.wb ≠ p := fun r hr e => (List.nodup_cons.1 hnd).1 (List.mem_append.2 (.inr (List.mem_map.2 ⟨r, hr, e⟩)))
  have hwbr : ∀ r ∈ ls, sl.ownBlock ≠ some r.wb := fun r hr e =>
    (List.nodup_append.1 (List.nodup_cons.1 hnd).2).2.2 r.wb (by simp [e]) r.wb (List.mem_map.2 ⟨r, hr, rfl⟩) rfl
  have hggw : ∀ r ∈ ls, r.wb ≠ gg := fun r hr e => by
    rcases hat with q | q
    · exact hwbr r hr (by rw [q, e])
    · have := hlt _ (hwbs r hr); omega
  have hgW : gg ≠ Wn := by
    rcases hat with q | q
    · have := (hrowlt gg q).2; omega
    · omega
  -- a row of wc that is none of these blocks
  have keep : ∀ (T : TypeId) (v : Value) (n : Nat) (xs : List Value) (g : Nat), v.ownBlock = some g → wc.ownsRow 0 T 2 v n xs → sl.ownBlock ≠ some g → g ≠ p →
      (((w1.alloc ox).setCell ⟨p, 0, none⟩ (.slice (some ⟨gg, 0, none⟩) (ls.length + 1) cap)).setCell ⟨p, 1, none⟩ (.int .i64 (b + k - 1))).ownsRow 0 T 2 v n xs := by
    intro T v n xs g hv ho hne hgp
    have h2 := ((ho.alloc bx).drew).kept hgrow (.inr (by rw [hv]; exact Ne.symm hne))
    exact ownsRow_setCell_other (ownsRow_setCell_other (h2.alloc ox) (by rw [hv]; simpa using hgp) _) (by rw [hv]; simpa using hgp) _
  have hhead : (((w1.alloc ox).setCell ⟨p, 0, none⟩ (.slice (some ⟨gg, 0, none⟩) (ls.length + 1) cap)).setCell ⟨p, 1, none⟩ (.int .i64 (b + k - 1))).heap[p]? = some (.cells #[.slice (some ⟨gg, 0, none⟩) (ls.length + 1) cap, .int .i64 (b + k - 1)] 27 (0, 0)) := by
    have q0 := after_app hgrow h1.head hsp
    have q1 : (w1.alloc ox).heap[p]? = _ := (Below.heap_alloc w1 ox p (lt_of_heap q0)).trans q0
    have q2 := heap_setCell_same (w1.alloc ox) p 0 _ _ (.slice (some ⟨gg, 0, none⟩) (ls.length + 1) cap) q1
    have q3 := heap_setCell_same _ p 1 _ _ (.int .i64 (b + k - 1)) q2
    simpa using q3
  refine ⟨_, Wn, ⟨hhead, ?_, ?_, ?_⟩, ?_, ?_, ?_⟩
  · rw [rcells_snoc]
    simp only [LReg.cells, List.length_append, List.length_cons, List.length_nil, List.length_replicate]
    exact ownsRow_setCell_other (ownsRow_setCell_other (hown1.alloc ox) (by simp [Value.ownBlock, hggp]) _) (by simp [Value.ownBlock, hggp]) _
  · intro r hr
    rcases List.mem_append.1 hr with hr | hr
    · exact keep _ _ _ _ _ rfl (h1.words r hr) (hwbr r hr) (hwbp r hr)
    · obtain rfl : r = _ := by simpa using hr
      simp only [List.length_replicate]
      exact keep _ _ _ _ Wn rfl hrow (fun e => by have := (hrowlt Wn e).2; omega) (by omega)
  · rw [foot_snoc, List.nodup_append]
    refine ⟨?_, by simp, ?_⟩
    · refine List.nodup_cons.2 ⟨?_, ?_⟩
      · intro q
        rcases List.mem_append.1 q with q | q
        · simp [Value.ownBlock] at q; exact hggp q.symm
        · obtain ⟨r, hr, e⟩ := List.mem_map.1 q; exact hwbp r hr e
      · refine List.nodup_append.2 ⟨by simp [Value.ownBlock], (List.nodup_append.1 (List.nodup_cons.1 hnd).2).2.1, ?_⟩
        intro x hx y hy e
        simp [Value.ownBlock] at hx
        obtain ⟨r, hr, e'⟩ := List.mem_map.1 hy
        exact hggw r hr (by rw [e', ← e, hx])
    · intro x hx y hy e
      simp only [List.mem_singleton] at hy
      subst hy
      subst e
      simp only [foot, List.mem_cons, List.mem_append, Option.mem_toList, List.mem_map, Value.ownBlock, Option.some.injEq] at hx
      rcases hx with rfl | rfl | ⟨r, hr, e⟩
      · omega
      · exact hgW rfl
      · have := hlt _ (hwbs r hr); omega
  · refine Kp.setCell (Kp.setCell (Kp.alloc (Kp.grown (Kp.drew (Kp.alloc (Kp.of_below hb2 _) bx)) hgrow ?_) ox) (.inl (by simp [foot])) _) (.inl (by simp [foot])) _
    intro g hg
    exact .inl (hrowlt g hg).1
  · intro x hx
    rw [foot_snoc] at hx
    rcases List.mem_append.1 hx with hx | hx
    · simp only [foot, List.mem_cons, List.mem_append, Option.mem_toList, List.mem_map, Value.ownBlock, Option.some.injEq] at hx
      rcases hx with rfl | rfl | ⟨r, hr, rfl⟩
      · exact .inl (by simp [foot])
      · rcases hat with q | q
        · exact .inl (hrowlt _ q).1
        · exact .inr (by omega)
      · exact .inl (hwbs r hr)
    · simp only [List.mem_singleton] at hx
      subst hx; exact .inr hWn
  · have q0 := after_app hgrow hbox (fun e => by have := (hrowlt _ e).2; omega)
    have q1 := in_alloc (j := 0) q0 rfl ox
    rw [cell_set_other (by simp; omega), cell_set_other (by simp; omega)]
    exact q1
def TakePost (p : Nat) (last : Int) (sl : Value) (ls : List LReg) (k : Nat) (w : World) (e : Ending) (W : World) : Prop :=
  ∃ sl' Wn, SpAt W p (nextBase last + k - 1) sl' (ls ++ [⟨nextBase last, Wn, k, List.replicate k (0, 0)⟩]) ∧ Kp (foot p sl ls) w W ∧
    (∀ x ∈ foot p sl' (ls ++ [⟨nextBase last, Wn, k, List.replicate k (0, 0)⟩]), x ∈ foot p sl ls ∨ w.heap.size ≤ x) ∧ e = .returned (.tuple #[.int .i64 (nextBase last), .int .i64 0])
set_option maxRecDepth 100000 in
set_option maxHeartbeats 2000000 in
theorem take_ok {w : World} {p : Nat} {last : Int} {sl : Value} {ls : List LReg} (h : SpAt w p last sl ls) (ok : RegsOk last ls) (k : Nat) (hk1 : 1 ≤ k) (hk2 : k ≤ 1048576) (hk3 : tot ls + k ≤ 4194304) (hl1 : last ≤ 1152921504606846976) :
    Calls Try.prog 12 #[.pointer (some ⟨p, 0, none⟩), .int .i64 k] w (TakePost p last sl ls k w) := by
  have hmk := makeV k hk2
  have h0 := ok.last0
  go_enter Try.func12, Try.ntmps12
  go_wp2_with (go_at_call 16; refine (live_any h ok).mono ?_; rintro e w1 ⟨rfl, hb⟩)
  go_cut [6] (fun s6 W => TakeMid k (last + 2) w s6 W)
  case first =>
    have h1 := h.below hb
    have c1 := h1.cell1
    have hp1 : p < w1.heap.size := lt_of_heap h1.head
    have c2 : ∀ o, (w1.alloc o).cell? ⟨p, 1, none⟩ = some (.int .i64 last) := fun o => by rw [cell_alloc hp1]; exact c1
    have c3 : ∀ o o', ((w1.alloc o).alloc o').cell? ⟨p, 1, none⟩ = some (.int .i64 last) := fun o o' => by rw [cell_alloc (by simp; omega)]; exact c2 o
    go_region
    all_goals
      go_wp2_with fail
      go_meet
      case rel => first | exact mid1 hb k hk2 _ | exact mid2 hb k hk2 _
  case rest =>
    obtain ⟨Br, Wb, rfl, hb1, hBr, hWb, hne, hbox, hrow⟩ := hcut
    have h1 := h.below hb1
    have c1 := h1.cell1
    have x0 : wc.cell? ⟨Br, 0, none⟩ = some (.int .i64 (last + 2)) := by rw [cell_of_row wc Br 0 _ _ _ hbox]; rfl
    have f0 : wc.frozen? ⟨Br, 0, none⟩ = false := frozen_of_row wc Br 0 _ _ hbox
    go_upto_if 36 with (fail)
    go_cut [] (fun W => Hid (TakeMid k (nextBase last) w (.pointer (some ⟨Br, 0, none⟩)) W))
    case first =>
      have HM := Hid.mk (mid_set (c := 1) hb1 hBr hWb hne hbox hrow)
      have HN := Hid.mk (show TakeMid k (last + 2) w (.pointer (some ⟨Br, 0, none⟩)) wc from ⟨Br, Wb, rfl, hb1, hBr, hWb, hne, hbox, hrow⟩)
      by_cases hl0 : last = 0
      · have hl0' : (last == 0) = true := by simp [hl0]
        have HL := Hid.mk hl0
        clear hl0
        go_wp2
        go_meet
        case rel => unfold nextBase; rw [if_pos HL.out]; exact HM.out
      · have hl0' : (last == 0) = false := by simp [hl0]
        have HL := Hid.mk hl0
        clear hl0
        go_wp2
        go_meet
        case rel => unfold nextBase; rw [if_neg HL.out]; exact HN.out
    case rest =>
      obtain ⟨B', W', hB', hb2, hBr2, hWb2, hne2, hbox2, hrow2⟩ := hcut.out
      obtain rfl : Br = B' := by simpa using hB'
      clear hB' hcut c1 x0 f0 h1 hbox hrow hb1 hne hWb
      have h1 := h.below hb2
      obtain ⟨b, hb⟩ : ∃ b, nextBase last = b := ⟨_, rfl⟩
      rw [hb] at hbox2
      have HBB := Hid.mk hb
      have hbnd : 0 ≤ b ∧ b ≤ 1152921504606846978 := by rw [← hb]; unfold nextBase; split <;> omega
      clear hb
      obtain ⟨hbn0, hbn1⟩ := hbnd
      have y0 := h1.cell0
      have yf := h1.free
      have x0 : wc.cell? ⟨Br, 0, none⟩ = some (.int .i64 b) := by rw [cell_of_row wc Br 0 _ _ _ hbox2]; rfl
      have x1 : wc.cell? ⟨Br, 1, none⟩ = some (.slice (some ⟨W', 0, none⟩) k k) := by rw [cell_of_row wc Br 1 _ _ _ hbox2]; rfl
      have hpl : p < wc.heap.size := lt_of_heap h1.head
      have hbl : Br < wc.heap.size := lt_of_heap hbox2
      have hcn := ok.count
      have hsp : sl.ownBlock ≠ some p := fun e => (List.nodup_cons.1 h.nodup).1 (List.mem_append.2 (.inl (by simp [e])))
      have hsb : sl.ownBlock ≠ some Br := fun e => by have := h.lt Br (by simp [foot, e]); omega
      have HR := Hid.mk h1.row
      obtain ⟨i0, hi, hz0, hz1, hz2⟩ := info_parts infoG
      have ew : IntKind.i64.wrap (b + (k : Int) - 1) = b + k - 1 := by rw [IntKind.wrap_i64]; omega
      go_upto_region 8 with (fail)
      go_cut [] (fun W => Hid (TakeEnd p sl ls k b Br w W))
      case first =>
        have y0a := in_alloc (j := 0) h1.head rfl
        have x0a := in_alloc (j := 0) hbox2 rfl
        have x1a := in_alloc (j := 1) hbox2 rfl
        go_region_law (first
            | (refine step_append_lies _ (by rfl) _ _ _ (by rfl) 0 100 i0 _ 2 32 Try.underlying25 hi hz0 hz1 hz2 rfl (by omega) sl ls.length (rcells ls) (by rfl) ((HR.out.alloc _).drew)
                 ⟨wc.heap.size, 0, none⟩ 1 1 [.int .i64 b, .slice (some ⟨W', 0, none⟩) k k] (by rfl) (by rfl) (two_new wc _ _ _) (by simp [Value.oneCell'])
                 (by omega) (by unfold maxLen; omega) (by omega) (Nat.zero_le _) (wc.heap.size + 1) (by simp) ?_; intro gg cap w1 hown1 hgrow hat hlt; have hhead := after_app hgrow h1.head hsp; have hbx := after_app hgrow hbox2 hsb; have v0 := in_alloc (j := 0) hhead rfl; have v1 := in_alloc (j := 1) hhead rfl; have vf := in_alloc_free hhead; have u0 := in_row (j := 0) hbx rfl; have u1 := in_row (j := 1) hbx rfl)
            | (go_simp; go_at_call 43; refine (end_any b (some ⟨W', 0, none⟩) k k _ (by omega) (by omega) (by omega)).mono ?_; rintro e w' ⟨rfl, rfl⟩))
        all_goals
          go_wp2_with fail
          go_meet
          case rel => exact take_end h hb2 hBr2 hWb2 hbox2 hrow2 hown1 hgrow hat
      case rest =>
        obtain ⟨sl', Wn, hsp', hkp, hfr, hbr⟩ := hcut.out
        clear hcut y0 yf x0 x1
        go_wp2
        go_ret2
        refine ⟨sl', Wn, ?_, hkp, ?_, by rw [HBB.out]; rfl⟩
        · rw [HBB.out]; exact hsp'
        · rw [HBB.out]; exact hfr
end Go.Proofs.Ytkooogllajmkeaa
