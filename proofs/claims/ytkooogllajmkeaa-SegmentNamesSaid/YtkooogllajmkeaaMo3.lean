/- Parts Tk Lt Sp Sc, put together. -/
import Derived.Test.YtkooogllajmkeaaMo2
import Derived.Deep.RegionHeld3
import Derived.Deep.AppendLies
import Derived.Deep.DeepCutAuto
import Derived.RegionTactic
import Derived.BigRegion
import Derived.Deep.RegionLaw
/- The contract of Take: a region is taken. Conditions: a space in memory whose last address is no greater than 2^60. -/
namespace Go.Proofs.Ytkooogllajmkeaa
open Go.RowKit

theorem made_zero (k : Nat) : (madeCells #[Value.int .i64 0, .int .i64 0] (k * 2)).toList = wcells (List.replicate k (0, 0)) := by
  rw [← zeros_cells]
  simp [madeCells, Builtin.zeroCells]
theorem makeV (k : Nat) (hk : k ≤ 1048576) (W : World) : (Instr.makeSlice 62 (.int .i64 (k : Int)) (.int .i64 (k : Int))).run Try.prog W = .ok (.slice (some ⟨W.heap.size, 0, none⟩) k k) (W.alloc (.cells (madeCells #[.int .i64 0, .int .i64 0] (k * 2)) 29)) := by
  obtain ⟨i0, hi, hz0, hz1, hz2⟩ := info_parts infoV
  have := run_make (P := Try.prog) W 62 29 i0 _ Try.underlying62 hi hz0 .i64 .i64 k k (by omega) (Int.le_refl _) (by rw [hz2]; omega) (by omega)
  simpa [hz1, Value.cells] using this

set_option maxRecDepth 100000 in
theorem take_err {w : World} {p : Nat} {last : Int} {sl : Value} {ls : List LReg} (h : SpAt w p last sl ls) (ok : RegsOk last ls) (m : Int) (hm : m < 1 ∨ 1048576 < m ∨ 4194304 < tot ls + m) :
    Calls Try.prog 12 #[.pointer (some ⟨p, 0, none⟩), .int .i64 m] w fun e w' => e = .returned (.tuple #[.int .i64 0, .int .i64 211]) ∧ Below w.heap.size w w' := by
  have hl : (tot ls : Int) ≤ 4194304 := by have := ok.live; unfold tot; omega
  by_cases h1 : m < 1
  · go_enter Try.func12, Try.ntmps12
    go_wp2
    go_ret2
    exact ⟨rfl, Below.refl _ _⟩
  · by_cases h2 : 1048576 < m
    · go_enter Try.func12, Try.ntmps12
      go_wp2
      go_ret2
      exact ⟨rfl, Below.refl _ _⟩
    · have h3 : 4194304 < tot ls + m := by omega
      clear hm
      go_enter Try.func12, Try.ntmps12
      go_wp2_with (go_at_call 16; refine (live_any h ok).mono ?_; rintro e w1 ⟨rfl, hb⟩)
      go_ret2
      exact ⟨rfl, hb⟩

/-- behind the making of the region: a box of two cells and a row of empty words, both new -/
def TakeMid (k : Nat) (b : Int) (w : World) (s6 : Value) (W : World) : Prop :=
  ∃ Br Wb, s6 = .pointer (some ⟨Br, 0, none⟩) ∧ Below w.heap.size w W ∧ w.heap.size ≤ Br ∧ w.heap.size ≤ Wb ∧ Br ≠ Wb ∧
    W.heap[Br]? = some (.cells #[.int .i64 b, .slice (some ⟨Wb, 0, none⟩) k k] 100 (0, 0)) ∧ W.ownsRow 0 29 2 (.slice (some ⟨Wb, 0, none⟩) k k) k (wcells (List.replicate k (0, 0)))

def nextBase (last : Int) : Int := if last = 0 then 1 else last + 2
theorem mid1 {w w1 : World} (hb : Below w.heap.size w w1) (k : Nat) (hk : k ≤ 1048576) (b : Int) : TakeMid k b w (.pointer (some ⟨w1.heap.size + 1, 0, none⟩))
    ((w1.alloc (.cells (madeCells #[Value.int .i64 0, .int .i64 0] (k * 2)) 29)).alloc (.cells #[.int .i64 b, .slice (some ⟨w1.heap.size, 0, none⟩) k k] 100)).drew := by
  refine ⟨_, w1.heap.size, rfl, ((hb.alloc hb.size _).alloc (by have := hb.size; simp; omega) _).drew, by have := hb.size; omega, hb.size, by omega, ?_, ?_⟩
  · have := heap_alloc_new (w1.alloc (.cells (madeCells #[Value.int .i64 0, .int .i64 0] (k * 2)) 29)) (.cells #[.int .i64 b, .slice (some ⟨w1.heap.size, 0, none⟩) k k] 100)
    rwa [World.size_alloc] at this
  · have := World.ownsRow_lit (base := 0) (e := 29) (size := 2) w1 (madeCells #[Value.int .i64 0, .int .i64 0] (k * 2)) k (Nat.zero_le _) (by unfold maxLen; omega) (by rw [size_madeCells])
    rw [made_zero] at this
    exact (this.alloc _).drew
theorem mid2 {w w1 : World} (hb : Below w.heap.size w w1) (k : Nat) (hk : k ≤ 1048576) (b : Int) : TakeMid k b w (.pointer (some ⟨w1.heap.size, 0, none⟩))
    ((w1.alloc (.cells #[.int .i64 b, .slice (some ⟨w1.heap.size + 1, 0, none⟩) k k] 100)).alloc (.cells (madeCells #[Value.int .i64 0, .int .i64 0] (k * 2)) 29)).drew := by
  refine ⟨_, w1.heap.size + 1, rfl, ((hb.alloc hb.size _).alloc (by have := hb.size; simp; omega) _).drew, hb.size, by have := hb.size; omega, by omega, ?_, ?_⟩
  · exact (Below.heap_alloc _ _ _ (by simp)).trans (heap_alloc_new w1 _)
  · have := World.ownsRow_lit (base := 0) (e := 29) (size := 2) (w1.alloc (.cells #[.int .i64 b, .slice (some ⟨w1.heap.size + 1, 0, none⟩) k k] 100)) (madeCells #[Value.int .i64 0, .int .i64 0] (k * 2)) k (Nat.zero_le _) (by unfold maxLen; omega) (by rw [size_madeCells])
    rw [made_zero, World.size_alloc] at this
    exact this.drew

theorem mid_set {w wc : World} {Br Wb k : Nat} {b c : Int} (hb1 : Below w.heap.size w wc) (hBr : w.heap.size ≤ Br) (hWb : w.heap.size ≤ Wb) (hne : Br ≠ Wb)
    (hbox : wc.heap[Br]? = some (.cells #[.int .i64 b, .slice (some ⟨Wb, 0, none⟩) k k] 100 (0, 0))) (hrow : wc.ownsRow 0 29 2 (.slice (some ⟨Wb, 0, none⟩) k k) k (wcells (List.replicate k (0, 0)))) :
    TakeMid k c w (.pointer (some ⟨Br, 0, none⟩)) (wc.setCell ⟨Br, 0, none⟩ (.int .i64 c)) := by
  refine ⟨Br, Wb, rfl, hb1.setCell hBr _, hBr, hWb, hne, ?_, ?_⟩
  · rw [heap_setCell_same wc Br 0 _ _ _ hbox]; rfl
  · exact ownsRow_setCell_other hrow (by simp [Value.ownBlock]; omega) _
theorem infoG : (Try.prog.info? 100).map (fun i => (i.zero, i.size, i.bytes)) = some (some (.agg #[.int .i64 0, .slice none 0 0]), 2, 32) := by kernel_rfl

theorem after_app {wc w1 : World} {box : Obj} {row : Option Nat} {p : Nat} {ob : Obj} (hg : ((wc.alloc box).drew).grownBy w1 row) (hh : wc.heap[p]? = some ob) (hsp : row ≠ some p) : w1.heap[p]? = some ob :=
  (hg.block p (by have := lt_of_heap hh; simp; omega) (Ne.symm hsp)).trans ((Below.heap_alloc wc box p (lt_of_heap hh)).trans hh)
theorem in_alloc {w : World} {p j : Nat} {cs : Array Value} {T : TypeId} {v : Value} (h : w.heap[p]? = some (.cells cs T (0, 0))) (hv : cs[j]? = some v) (o : Obj) : (w.alloc o).cell? ⟨p, j, none⟩ = some v := by
  rw [cell_alloc (lt_of_heap h), cell_of_row w p j _ _ _ h, hv]
theorem in_row {w : World} {p j : Nat} {cs : Array Value} {T : TypeId} {v : Value} (h : w.heap[p]? = some (.cells cs T (0, 0))) (hv : cs[j]? = some v) : w.cell? ⟨p, j, none⟩ = some v := by rw [cell_of_row w p j _ _ _ h, hv]
theorem in_alloc_free {w : World} {p : Nat} {cs : Array Value} {T : TypeId} (h : w.heap[p]? = some (.cells cs T (0, 0))) (o : Obj) (j : Nat) : (w.alloc o).frozen? ⟨p, j, none⟩ = false :=
  frozen_of_row _ p j cs T ((Below.heap_alloc w o p (lt_of_heap h)).trans h)
/-- behind the append and the two stores -/
def TakeEnd (p : Nat) (sl : Value) (ls : List LReg) (k : Nat) (b : Int) (Br : Nat) (w W : World) : Prop :=
  ∃ sl' Wn, SpAt W p (b + k - 1) sl' (ls ++ [⟨b, Wn, k, List.replicate k (0, 0)⟩]) ∧ Kp (foot p sl ls) w W ∧
    (∀ x ∈ foot p sl' (ls ++ [⟨b, Wn, k, List.replicate k (0, 0)⟩]), x ∈ foot p sl ls ∨ w.heap.size ≤ x) ∧ W.cell? ⟨Br, 0, none⟩ = some (.int .i64 b)

theorem cell_set_other {w : World} {a b : Addr} {u : Value} (h : b.block ≠ a.block) : (w.setCell a u).cell? b = w.cell? b := World.cell?_of_block (w := w) (Below.heap_setCell w a u b.block h)
theorem rcells_snoc (ls : List LReg) (x : LReg) : rcells (ls ++ [x]) = rcells ls ++ x.cells := by simp [rcells]
theorem foot_snoc (p : Nat) (sl : Value) (ls : List LReg) (x : LReg) : foot p sl (ls ++ [x]) = foot p sl ls ++ [x.wb] := by simp [foot]

theorem take_end {w wc w1 : World} {p : Nat} {last : Int} {sl : Value} {ls : List LReg} {k : Nat} {b : Int} {Br Wn gg cap : Nat} {bx ox : Obj} (h : SpAt w p last sl ls)
    (hb2 : Below w.heap.size w wc) (hBr : w.heap.size ≤ Br) (hWn : w.heap.size ≤ Wn)
    (hbox : wc.heap[Br]? = some (.cells #[.int .i64 b, .slice (some ⟨Wn, 0, none⟩) k k] 100 (0, 0))) (hrow : wc.ownsRow 0 29 2 (.slice (some ⟨Wn, 0, none⟩) k k) k (wcells (List.replicate k (0, 0))))
    (hown1 : w1.ownsRow 0 100 2 (.slice (some ⟨gg, 0, none⟩) (ls.length + 1) cap) (ls.length + 1) (rcells ls ++ [.int .i64 b, .slice (some ⟨Wn, 0, none⟩) k k]))
    (hgrow : ((wc.alloc bx).drew).grownBy w1 sl.ownBlock) (hat : sl.ownBlock = some gg ∨ gg = wc.heap.size + 1) :
    TakeEnd p sl ls k b Br w (((w1.alloc ox).setCell ⟨p, 0, none⟩ (.slice (some ⟨gg, 0, none⟩) (ls.length + 1) cap)).setCell ⟨p, 1, none⟩ (.int .i64 (b + k - 1))) := by
  have h1 := h.below hb2
  have hs := hb2.size
  have hlt := h.lt
  have hnd := h.nodup
  have hp := hlt p (by simp [foot])
  have hWl : Wn < wc.heap.size := (hrow.lt Wn rfl).2
  have hrowlt : ∀ g, sl.ownBlock = some g → g ∈ foot p sl ls ∧ g < w.heap.size := fun g hg => by
    have : g ∈ foot p sl ls := by simp [foot, hg]
    exact ⟨this, hlt g this⟩
  have hsp : sl.ownBlock ≠ some p := fun e => (List.nodup_cons.1 hnd).1 (List.mem_append.2 (.inl (by simp [e])))
  have hggp : gg ≠ p := by
    rcases hat with e | e
    · rintro rfl; exact hsp e
    · omega
  have hwbs : ∀ r ∈ ls, r.wb ∈ foot p sl ls := fun r hr => by simp [foot]; exact .inr (.inr ⟨r, hr, rfl⟩)
  have hwbp : ∀ r ∈ ls, r.wb ≠ p := fun r hr e => (List.nodup_cons.1 hnd).1 (List.mem_append.2 (.inr (List.mem_map.2 ⟨r, hr, e⟩)))
  have hwbr : ∀ r ∈ ls, sl.ownBlock ≠ some r.wb := fun r hr e =>
    (List.nodup_append.1 (List.nodup_cons.1 hnd).2).2.2 r.wb (by simp [e]) r.wb (List.mem_map.2 ⟨r, hr, rfl⟩) rfl
  have hggw : ∀ r ∈ ls, r.wb ≠ gg := fun r hr e => by
    rcases hat with q | q
    · exact hwbr r hr (by rw [q, e])
    · have := hlt _ (hwbs r hr); omega
  have hgW : gg ≠ Wn := by
    rcases hat with q | q
    · have := (hrowlt gg q).2; omega
    · omega
  -- a row of wc that is none of these blocks
  have keep : ∀ (T : TypeId) (v : Value) (n : Nat) (xs : List Value) (g : Nat), v.ownBlock = some g → wc.ownsRow 0 T 2 v n xs → sl.ownBlock ≠ some g → g ≠ p →
      (((w1.alloc ox).setCell ⟨p, 0, none⟩ (.slice (some ⟨gg, 0, none⟩) (ls.length + 1) cap)).setCell ⟨p, 1, none⟩ (.int .i64 (b + k - 1))).ownsRow 0 T 2 v n xs := by
    intro T v n xs g hv ho hne hgp
    have h2 := ((ho.alloc bx).drew).kept hgrow (.inr (by rw [hv]; exact Ne.symm hne))
    exact ownsRow_setCell_other (ownsRow_setCell_other (h2.alloc ox) (by rw [hv]; simpa using hgp) _) (by rw [hv]; simpa using hgp) _
  have hhead : (((w1.alloc ox).setCell ⟨p, 0, none⟩ (.slice (some ⟨gg, 0, none⟩) (ls.length + 1) cap)).setCell ⟨p, 1, none⟩ (.int .i64 (b + k - 1))).heap[p]? = some (.cells #[.slice (some ⟨gg, 0, none⟩) (ls.length + 1) cap, .int .i64 (b + k - 1)] 27 (0, 0)) := by
    have q0 := after_app hgrow h1.head hsp
    have q1 : (w1.alloc ox).heap[p]? = _ := (Below.heap_alloc w1 ox p (lt_of_heap q0)).trans q0
    have q2 := heap_setCell_same (w1.alloc ox) p 0 _ _ (.slice (some ⟨gg, 0, none⟩) (ls.length + 1) cap) q1
    have q3 := heap_setCell_same _ p 1 _ _ (.int .i64 (b + k - 1)) q2
    simpa using q3
  refine ⟨_, Wn, ⟨hhead, ?_, ?_, ?_⟩, ?_, ?_, ?_⟩
  · rw [rcells_snoc]
    simp only [LReg.cells, List.length_append, List.length_cons, List.length_nil, List.length_replicate]
    exact ownsRow_setCell_other (ownsRow_setCell_other (hown1.alloc ox) (by simp [Value.ownBlock, hggp]) _) (by simp [Value.ownBlock, hggp]) _
  · intro r hr
    rcases List.mem_append.1 hr with hr | hr
    · exact keep _ _ _ _ _ rfl (h1.words r hr) (hwbr r hr) (hwbp r hr)
    · obtain rfl : r = _ := by simpa using hr
      simp only [List.length_replicate]
      exact keep _ _ _ _ Wn rfl hrow (fun e => by have := (hrowlt Wn e).2; omega) (by omega)
  · rw [foot_snoc, List.nodup_append]
    refine ⟨?_, by simp, ?_⟩
    · refine List.nodup_cons.2 ⟨?_, ?_⟩
      · intro q
        rcases List.mem_append.1 q with q | q
        · simp [Value.ownBlock] at q; exact hggp q.symm
        · obtain ⟨r, hr, e⟩ := List.mem_map.1 q; exact hwbp r hr e
      · refine List.nodup_append.2 ⟨by simp [Value.ownBlock], (List.nodup_append.1 (List.nodup_cons.1 hnd).2).2.1, ?_⟩
        intro x hx y hy e
        simp [Value.ownBlock] at hx
        obtain ⟨r, hr, e'⟩ := List.mem_map.1 hy
        exact hggw r hr (by rw [e', ← e, hx])
    · intro x hx y hy e
      simp only [List.mem_singleton] at hy
      subst hy
      subst e
      simp only [foot, List.mem_cons, List.mem_append, Option.mem_toList, List.mem_map, Value.ownBlock, Option.some.injEq] at hx
      rcases hx with rfl | rfl | ⟨r, hr, e⟩
      · omega
      · exact hgW rfl
      · have := hlt _ (hwbs r hr); omega
  · refine Kp.setCell (Kp.setCell (Kp.alloc (Kp.grown (Kp.drew (Kp.alloc (Kp.of_below hb2 _) bx)) hgrow ?_) ox) (.inl (by simp [foot])) _) (.inl (by simp [foot])) _
    intro g hg
    exact .inl (hrowlt g hg).1
  · intro x hx
    rw [foot_snoc] at hx
    rcases List.mem_append.1 hx with hx | hx
    · simp only [foot, List.mem_cons, List.mem_append, Option.mem_toList, List.mem_map, Value.ownBlock, Option.some.injEq] at hx
      rcases hx with rfl | rfl | ⟨r, hr, rfl⟩
      · exact .inl (by simp [foot])
      · rcases hat with q | q
        · exact .inl (hrowlt _ q).1
        · exact .inr (by omega)
      · exact .inl (hwbs r hr)
    · simp only [List.mem_singleton] at hx
      subst hx; exact .inr hWn
  · have q0 := after_app hgrow hbox (fun e => by have := (hrowlt _ e).2; omega)
    have q1 := in_alloc (j := 0) q0 rfl ox
    rw [cell_set_other (by simp; omega), cell_set_other (by simp; omega)]
    exact q1
def TakePost (p : Nat) (last : Int) (sl : Value) (ls : List LReg) (k : Nat) (w : World) (e : Ending) (W : World) : Prop :=
  ∃ sl' Wn, SpAt W p (nextBase last + k - 1) sl' (ls ++ [⟨nextBase last, Wn, k, List.replicate k (0, 0)⟩]) ∧ Kp (foot p sl ls) w W ∧
    (∀ x ∈ foot p sl' (ls ++ [⟨nextBase last, Wn, k, List.replicate k (0, 0)⟩]), x ∈ foot p sl ls ∨ w.heap.size ≤ x) ∧ e = .returned (.tuple #[.int .i64 (nextBase last), .int .i64 0])
set_option maxRecDepth 100000 in
set_option maxHeartbeats 2000000 in
theorem take_ok {w : World} {p : Nat} {last : Int} {sl : Value} {ls : List LReg} (h : SpAt w p last sl ls) (ok : RegsOk last ls) (k : Nat) (hk1 : 1 ≤ k) (hk2 : k ≤ 1048576) (hk3 : tot ls + k ≤ 4194304) (hl1 : last ≤ 1152921504606846976) :
    Calls Try.prog 12 #[.pointer (some ⟨p, 0, none⟩), .int .i64 k] w (TakePost p last sl ls k w) := by
  have hmk := makeV k hk2
  have h0 := ok.last0
  go_enter Try.func12, Try.ntmps12
  go_wp2_with (go_at_call 16; refine (live_any h ok).mono ?_; rintro e w1 ⟨rfl, hb⟩)
  go_cut [6] (fun s6 W => TakeMid k (last + 2) w s6 W)
  case first =>
    have h1 := h.below hb
    have c1 := h1.cell1
    have hp1 : p < w1.heap.size := lt_of_heap h1.head
    have c2 : ∀ o, (w1.alloc o).cell? ⟨p, 1, none⟩ = some (.int .i64 last) := fun o => by rw [cell_alloc hp1]; exact c1
    have c3 : ∀ o o', ((w1.alloc o).alloc o').cell? ⟨p, 1, none⟩ = some (.int .i64 last) := fun o o' => by rw [cell_alloc (by simp; omega)]; exact c2 o
    go_region
    all_goals
      go_wp2_with fail
      go_meet
      case rel => first | exact mid1 hb k hk2 _ | exact mid2 hb k hk2 _
  case rest =>
    obtain ⟨Br, Wb, rfl, hb1, hBr, hWb, hne, hbox, hrow⟩ := hcut
    have h1 := h.below hb1
    have c1 := h1.cell1
    have x0 : wc.cell? ⟨Br, 0, none⟩ = some (.int .i64 (last + 2)) := by rw [cell_of_row wc Br 0 _ _ _ hbox]; rfl
    have f0 : wc.frozen? ⟨Br, 0, none⟩ = false := frozen_of_row wc Br 0 _ _ hbox
    go_upto_if 36 with (fail)
    go_cut [] (fun W => Hid (TakeMid k (nextBase last) w (.pointer (some ⟨Br, 0, none⟩)) W))
    case first =>
      have HM := Hid.mk (mid_set (c := 1) hb1 hBr hWb hne hbox hrow)
      have HN := Hid.mk (show TakeMid k (last + 2) w (.pointer (some ⟨Br, 0, none⟩)) wc from ⟨Br, Wb, rfl, hb1, hBr, hWb, hne, hbox, hrow⟩)
      by_cases hl0 : last = 0
      · have hl0' : (last == 0) = true := by simp [hl0]
        have HL := Hid.mk hl0
        clear hl0
        go_wp2
        go_meet
        case rel => unfold nextBase; rw [if_pos HL.out]; exact HM.out
      · have hl0' : (last == 0) = false := by simp [hl0]
        have HL := Hid.mk hl0
        clear hl0
        go_wp2
        go_meet
        case rel => unfold nextBase; rw [if_neg HL.out]; exact HN.out
    case rest =>
      obtain ⟨B', W', hB', hb2, hBr2, hWb2, hne2, hbox2, hrow2⟩ := hcut.out
      obtain rfl : Br = B' := by simpa using hB'
      clear hB' hcut c1 x0 f0 h1 hbox hrow hb1 hne hWb
      have h1 := h.below hb2
      obtain ⟨b, hb⟩ : ∃ b, nextBase last = b := ⟨_, rfl⟩
      rw [hb] at hbox2
      have HBB := Hid.mk hb
      have hbnd : 0 ≤ b ∧ b ≤ 1152921504606846978 := by rw [← hb]; unfold nextBase; split <;> omega
      clear hb
      obtain ⟨hbn0, hbn1⟩ := hbnd
      have y0 := h1.cell0
      have yf := h1.free
      have x0 : wc.cell? ⟨Br, 0, none⟩ = some (.int .i64 b) := by rw [cell_of_row wc Br 0 _ _ _ hbox2]; rfl
      have x1 : wc.cell? ⟨Br, 1, none⟩ = some (.slice (some ⟨W', 0, none⟩) k k) := by rw [cell_of_row wc Br 1 _ _ _ hbox2]; rfl
      have hpl : p < wc.heap.size := lt_of_heap h1.head
      have hbl : Br < wc.heap.size := lt_of_heap hbox2
      have hcn := ok.count
      have hsp : sl.ownBlock ≠ some p := fun e => (List.nodup_cons.1 h.nodup).1 (List.mem_append.2 (.inl (by simp [e])))
      have hsb : sl.ownBlock ≠ some Br := fun e => by have := h.lt Br (by simp [foot, e]); omega
      have HR := Hid.mk h1.row
      obtain ⟨i0, hi, hz0, hz1, hz2⟩ := info_parts infoG
      have ew : IntKind.i64.wrap (b + (k : Int) - 1) = b + k - 1 := by rw [IntKind.wrap_i64]; omega
      go_upto_region 8 with (fail)
      go_cut [] (fun W => Hid (TakeEnd p sl ls k b Br w W))
      case first =>
        have y0a := in_alloc (j := 0) h1.head rfl
        have x0a := in_alloc (j := 0) hbox2 rfl
        have x1a := in_alloc (j := 1) hbox2 rfl
        go_region_law (first
            | (refine step_append_lies _ (by rfl) _ _ _ (by rfl) 0 100 i0 _ 2 32 Try.underlying25 hi hz0 hz1 hz2 rfl (by omega) sl ls.length (rcells ls) (by rfl) ((HR.out.alloc _).drew)
                 ⟨wc.heap.size, 0, none⟩ 1 1 [.int .i64 b, .slice (some ⟨W', 0, none⟩) k k] (by rfl) (by rfl) (two_new wc _ _ _) (by simp [Value.oneCell'])
                 (by omega) (by unfold maxLen; omega) (by omega) (Nat.zero_le _) (wc.heap.size + 1) (by simp) ?_; intro gg cap w1 hown1 hgrow hat hlt; have hhead := after_app hgrow h1.head hsp; have hbx := after_app hgrow hbox2 hsb; have v0 := in_alloc (j := 0) hhead rfl; have v1 := in_alloc (j := 1) hhead rfl; have vf := in_alloc_free hhead; have u0 := in_row (j := 0) hbx rfl; have u1 := in_row (j := 1) hbx rfl)
            | (go_simp; go_at_call 43; refine (end_any b (some ⟨W', 0, none⟩) k k _ (by omega) (by omega) (by omega)).mono ?_; rintro e w' ⟨rfl, rfl⟩))
        all_goals
          go_wp2_with fail
          go_meet
          case rel => exact take_end h hb2 hBr2 hWb2 hbox2 hrow2 hown1 hgrow hat
      case rest =>
        obtain ⟨sl', Wn, hsp', hkp, hfr, hbr⟩ := hcut.out
        clear hcut y0 yf x0 x1
        go_wp2
        go_ret2
        refine ⟨sl', Wn, ?_, hkp, ?_, by rw [HBB.out]; rfl⟩
        · rw [HBB.out]; exact hsp'
        · rw [HBB.out]; exact hfr
end Go.Proofs.Ytkooogllajmkeaa
/- The contract of Let: a region is let go. -/
namespace Go.Proofs.Ytkooogllajmkeaa
open Go.RowKit

theorem row_append {P : Program} {w : World} {base : Nat} {e : TypeId} {size g n cap : Nat} {xs : List Value} (h : w.ownsRow base e size (.slice (some ⟨g, 0, none⟩) n cap) n xs)
    (t ty : TypeId) (i : TypeInfo) (ht : P.underlying t = some (.slice e)) (hi : P.info? e = some i) (hz : i.size = size) (l : Nat)
    (ad : Addr) (m c : Nat) (news : List Value) (hl : news.length = m * size) (hnews : ∀ j u, news[j]? = some u → w.cell? (ad.add j) = some u) (h1 : ∀ u ∈ news, u.oneCell' = true) (hfit : l + m ≤ n) :
    ∃ w', (Builtin.append_ #[t, t] ty #[.slice (some ⟨g, 0, none⟩) l cap, .slice (some ad) m c]).run P w = .ok (.slice (some ⟨g, 0, none⟩) (l + m) cap) w' ∧
      w'.ownsRow base e size (.slice (some ⟨g, 0, none⟩) n cap) n (splice xs (l * size) news) ∧ w.grownBy w' (some g) := by
  obtain ⟨hx, q | ⟨g', cap', cur, hv, hb, hg, hn, hm, hs, htk⟩⟩ := h
  · simp at q
  · simp only [Value.slice.injEq, Option.some.injEq, Addr.mk.injEq, and_true, true_and] at hv
    obtain ⟨rfl, rfl⟩ := hv
    subst hz
    have hnc : n * i.size ≤ cap * i.size := Nat.mul_le_mul_right _ hn
    have hlm : (l + m) * i.size ≤ n * i.size := Nat.mul_le_mul_right _ hfit
    rw [Nat.add_mul] at hlm
    have hr := run_append_room (P := P) w t ty e i ht hi g l cap cur hg ad m c news hl hnews h1 (by omega) (by rw [hs, hl]; omega)
    refine ⟨_, hr, ⟨by rw [length_splice' _ _ _ (by omega)]; exact hx, .inr ⟨g, cap, _, rfl, hb, setRow_heap w g _ _ e _ hg, hn, hm, ?_, ?_⟩⟩, ⟨rfl, rfl, rfl, by simp [World.setRow], fun k _ hk => setRow_other w g k _ (fun q => hk (by rw [q]))⟩⟩
    · simp only [List.size_toArray, List.length_append, List.length_take, List.length_drop, Array.length_toList]; omega
    · subst htk
      simp only [splice, List.take_append, List.take_take, List.length_take, List.length_append, Array.length_toList, List.drop_take, hs]
      have hc : cur.toList.length = cap * i.size := by simp [hs]
      rw [Nat.min_eq_right (by omega), Nat.min_eq_left (by omega), Nat.min_eq_left (by omega), List.take_of_length_le (l := news) (by omega), List.append_assoc]

theorem step_append_in {P : Program} {w : World} {base : Nat} {e : TypeId} {size g n cap : Nat} {xs : List Value} {ops : Array Oper} {o : Oper} {a : Act} {K : Act → World → Prop} {Q : Exit → Act → World → Prop} {E : Prop} (hgd : o.guard = none) (s x : Operand) (t : TypeId)
    (ho : o.op = .call { callee := .builtin .append, args := #[s, x], argTypes := #[t, t] }) (i : TypeInfo) (ht : P.underlying t = some (.slice e)) (hi : P.info? e = some i) (hz : i.size = size)
    (h : w.ownsRow base e size (.slice (some ⟨g, 0, none⟩) n cap) n xs) (l : Nat) (hs : a.eval s = .slice (some ⟨g, 0, none⟩) l cap)
    (ad : Addr) (m c : Nat) (news : List Value) (hx : a.eval x = .slice (some ad) m c) (hl : news.length = m * size) (hnews : ∀ j u, news[j]? = some u → w.cell? (ad.add j) = some u) (h1 : ∀ u ∈ news, u.oneCell' = true) (hfit : l + m ≤ n)
    (hK : ∀ w', w'.ownsRow base e size (.slice (some ⟨g, 0, none⟩) n cap) n (splice xs (l * size) news) → w.grownBy w' (some g) → K (a.put o.dst (.slice (some ⟨g, 0, none⟩) (l + m) cap)) w') :
    if Region.wanted o (yielded ops a.tmps) = true then Oper.wp P o a w K Q else E := by
  have hw : Region.wanted o (yielded ops a.tmps) = true := by simp [Region.wanted, hgd]
  rw [if_pos hw]
  obtain ⟨w', hrun, r1, r2⟩ := row_append (P := P) h t o.type i ht hi hz l ad m c news hl hnews h1 hfit
  unfold Oper.wp
  simp [execOp, ho, resolve, invoke, builtin, hs, hx, hrun, Result.andThen]
  exact hK w' r1 r2

theorem zeroG (w : World) : (zeroValue 100).run Try.prog w = .ok (.agg #[.int .i64 0, .slice none 0 0]) w := by kernel_rfl

theorem zeroG1 : (Builtin.zeroCells (Value.agg #[Value.int .i64 0, .slice none 0 0]).cells 1).toList = [Value.int .i64 0, .slice none 0 0] := by simp [Builtin.zeroCells, Value.cells, Array.range, Array.toList_ofFn, List.ofFn_succ]
/-- what is left behind a region's going -/
def DelPost (B cap i r : Nat) (xs : List Value) (w : World) (e : Ending) (w' : World) : Prop :=
  w'.ownsRow 0 100 2 (.slice (some ⟨B, 0, none⟩) (i + r) cap) (i + r) (xs.take (i * 2) ++ xs.drop ((i + 1) * 2)) ∧ Kp [B] w w' ∧ e = .returned (.slice (some ⟨B, 0, none⟩) (i + r) cap)

theorem row_cut {w : World} {base : Nat} {e : TypeId} {size g n m cap : Nat} {xs : List Value} (h : w.ownsRow base e size (.slice (some ⟨g, 0, none⟩) n cap) n xs) (hm : m ≤ n) : w.ownsRow base e size (.slice (some ⟨g, 0, none⟩) m cap) m (xs.take (m * size)) := by
  obtain ⟨hx, q | ⟨g', cap', cur, hv, hb, hg, hn, hmx, hs, ht⟩⟩ := h
  · simp at q
  · simp only [Value.slice.injEq, Option.some.injEq, Addr.mk.injEq, and_true, true_and] at hv
    obtain ⟨rfl, rfl⟩ := hv
    have hle : m * size ≤ n * size := Nat.mul_le_mul_right _ hm
    refine ⟨by rw [List.length_take]; omega, .inr ⟨g, cap, cur, rfl, hb, hg, by omega, hmx, hs, ?_⟩⟩
    rw [← ht, List.take_take, Nat.min_eq_left hle]

theorem del_take {xs : List Value} {i r : Nat} (hx : xs.length = (i + 1 + r) * 2) (zs : List Value) : (splice (splice xs (i * 2) (xs.drop ((i + 1) * 2))) ((i + r) * 2) zs).take ((i + r) * 2) = xs.take (i * 2) ++ xs.drop ((i + 1) * 2) := by
  unfold splice
  have h1 : (xs.take (i * 2) ++ xs.drop ((i + 1) * 2)).length = (i + r) * 2 := by simp; omega
  have h2 : (xs.take (i * 2) ++ (xs.drop ((i + 1) * 2) ++ xs.drop (i * 2 + (xs.drop ((i + 1) * 2)).length))).take ((i + r) * 2) = xs.take (i * 2) ++ xs.drop ((i + 1) * 2) := by
    rw [← List.append_assoc, List.take_append_of_le_length (by omega), List.take_of_length_le (by omega)]
  rw [h2, List.take_append_of_le_length (by omega), List.take_of_length_le (by omega)]

set_option maxRecDepth 100000 in
set_option maxHeartbeats 2000000 in
theorem delReg_any {w : World} {B cap i r : Nat} {xs : List Value} (h : w.ownsRow 0 100 2 (.slice (some ⟨B, 0, none⟩) (i + 1 + r) cap) (i + 1 + r) xs) (_hn : i + 1 + r ≤ 4194304) (hone : ∀ u ∈ xs, u.oneCell' = true) :
    Calls Try.prog 45 #[.slice (some ⟨B, 0, none⟩) (i + 1 + r) cap, .int .i64 i, .int .i64 (i + 1)] w (DelPost B cap i r xs w) := by
  obtain ⟨i0, hi0, hz0, hz1, hz2⟩ := info_parts infoG
  have hcap : i + 1 + r ≤ cap := by
    rcases h.2 with ⟨q, _⟩ | ⟨_, _, _, q, _, _, hc, _⟩
    · simp at q
    · simp at q; omega
  have hne : ((i : Int) == (i : Int) + 1) = false := by simp; omega
  obtain ⟨A, hA, hnews⟩ : ∃ A : Addr, (if cap = i + 1 then some (⟨B, 0, none⟩ : Addr) else some ⟨B, (i + 1) * 2, none⟩) = some A ∧ Hid (∀ j u, (xs.drop ((i + 1) * 2))[j]? = some u → w.cell? (A.add j) = some u) := by
    by_cases hc : cap = i + 1
    · refine ⟨_, by rw [if_pos hc], fun j u hu => ?_⟩
      rw [List.drop_of_length_le (by rw [h.1]; omega)] at hu
      simp at hu
    · refine ⟨_, by rw [if_neg hc], fun j u hu => ?_⟩
      have hadd : (⟨B, (i + 1) * 2, none⟩ : Addr).add j = ⟨B, (i + 1) * 2 + j, none⟩ := by unfold Addr.add; split <;> simp_all
      rw [hadd]
      rw [List.getElem?_drop] at hu
      exact row_cell h hu
  have HL : Hid ((xs.drop ((i + 1) * 2)).length = r * 2) := by unfold Hid; rw [List.length_drop, h.1]; omega
  have HO1 : Hid (∀ u ∈ xs.drop ((i + 1) * 2), u.oneCell' = true) := fun u hu => hone u (List.mem_of_mem_drop hu)
  have HX := Hid.mk h.1
  have HH := Hid.mk h
  clear hone h
  have b1 : (i : Int) + 1 ≤ (i : Int) + 1 + r := by omega
  have b3 : (i : Int) + 1 ≤ cap := by omega
  have b0 : i ≤ cap := by omega
  have b4 : i + 1 ≤ i + 1 + r := by omega
  have b5 : i + 1 ≤ cap := by omega
  have b6 : (0 : Int) ≤ (i : Int) + 1 := by omega
  have b7 : i + r ≤ i + 1 + r := by omega
  have b8 : 1 ≤ i + 1 + r - (i + r) := by omega
  go_enter Try.func45, Try.ntmps45
  go_wp2
  go_region_law (refine step_append_in rfl (.tmp 22) (.tmp 25) 25 rfl i0 Try.underlying25 hi0 hz1 HH.out.drew i (by simp [Act.eval, Act.put]) A r (cap - (i + 1)) (xs.drop ((i + 1) * 2)) (by simp [Act.eval, Act.put]) HL.out hnews.out HO1.out b7 ?_; intro w2 hr2 hg2)
  go_wp2_with (with_reducible refine wpList_clear_row rfl (.tmp 31) 25 rfl Try.underlying25 (.agg #[.int .i64 0, .slice none 0 0]) zeroG ((i + r) * 2) (i + 1 + r - (i + r)) (cap - (i + r)) rfl b8 hr2 [.int .i64 0, .slice none 0 0] ?c0 ?c1 ?c2 ?_)
  case c0 => rw [show i + 1 + r - (i + r) = 1 by omega]; exact zeroG1
  case c1 => simp; omega
  case c2 => intro u hu; simp only [List.mem_cons, List.not_mem_nil, or_false] at hu; obtain rfl | rfl := hu <;> rfl
  intro w3 hr3 hg3
  go_wp2
  go_ret
  refine ⟨?_, ?_, rfl⟩
  · have := row_cut hr3 (m := i + r) (by omega)
    rwa [del_take HX.out] at this
  · exact ((((Kp.refl _ _).drew).grown hg2 (by intro q hq; simp at hq; exact .inl (by simp [hq])))).grown hg3 (by intro q hq; simp at hq; exact .inl (by simp [hq]))

/-- regions as cells are each of one cell -/
theorem rcells_one (ls : List LReg) : ∀ u ∈ rcells ls, u.oneCell' = true := by
  intro u hu
  simp only [rcells, List.mem_flatMap, LReg.cells, List.mem_cons, List.not_mem_nil, or_false] at hu
  obtain ⟨v, _, rfl | rfl⟩ := hu <;> rfl
theorem rcells_erase {ls : List LReg} {i : Nat} : rcells (ls.eraseIdx i) = (rcells ls).take (i * 2) ++ (rcells ls).drop ((i + 1) * 2) := by
  induction ls generalizing i with
  | nil => simp [rcells]
  | cons a l ih =>
    cases i with
    | zero => simp [rcells, LReg.cells]
    | succ i =>
      have := ih (i := i)
      simp only [rcells, List.eraseIdx_cons_succ, List.flatMap_cons] at this ⊢
      rw [this, show (i + 1) * 2 = i * 2 + 2 by omega, show (i + 1 + 1) * 2 = i * 2 + 2 + 2 by omega]
      simp only [LReg.cells, List.cons_append, List.nil_append, List.take_succ_cons, List.drop_succ_cons]

theorem SpAt.erase {w w' : World} {p B cap cap' : Nat} {last : Int} {ls : List LReg} {i : Nat} (h : SpAt w p last (.slice (some ⟨B, 0, none⟩) ls.length cap) ls) (hi : i < ls.length) (k : Kp [p, B] w w')
    (hhead : w'.heap[p]? = some (.cells #[.slice (some ⟨B, 0, none⟩) (ls.length - 1) cap', .int .i64 last] 27 (0, 0)))
    (hrow : w'.ownsRow 0 100 2 (.slice (some ⟨B, 0, none⟩) (ls.length - 1) cap') (ls.length - 1) (rcells (ls.eraseIdx i))) :
    SpAt w' p last (.slice (some ⟨B, 0, none⟩) (ls.length - 1) cap') (ls.eraseIdx i) := by
  have hnd := h.nodup
  have hsub : ((ls.eraseIdx i).map (·.wb)).Sublist (ls.map (·.wb)) := (List.eraseIdx_sublist ls i).map _
  refine ⟨hhead, by rw [List.length_eraseIdx_of_lt hi]; exact hrow, ?_, ?_⟩
  · intro r hr
    have hr' := List.mem_of_mem_eraseIdx hr
    refine k.row (h.words r hr') ?_
    intro g hg
    simp [Value.ownBlock] at hg
    subst hg
    have h1 : r.wb ∈ ls.map (·.wb) := List.mem_map.2 ⟨r, hr', rfl⟩
    intro q
    simp only [List.mem_cons, List.not_mem_nil, or_false] at q
    rcases q with q | q
    · exact (List.nodup_cons.1 hnd).1 (List.mem_append.2 (.inr (q ▸ h1)))
    · exact (List.nodup_append.1 (List.nodup_cons.1 hnd).2).2.2 B (by simp [Value.ownBlock]) _ h1 q.symm
  · unfold foot at hnd ⊢
    exact hnd.sublist (((List.Sublist.refl _).append hsub).cons_cons p)
theorem foot_erase {p B cap cap' n m i : Nat} {ls : List LReg} : ∀ b ∈ foot p (.slice (some ⟨B, 0, none⟩) n cap) (ls.eraseIdx i), b ∈ foot p (.slice (some ⟨B, 0, none⟩) m cap') ls := by
  intro b hb
  unfold foot at hb ⊢
  exact (((List.Sublist.refl _).append ((List.eraseIdx_sublist ls i).map _)).cons_cons p).subset hb
theorem sum_sub {a b : List Nat} (h : a.Sublist b) : a.sum ≤ b.sum := by
  induction h with
  | slnil => simp
  | cons x _ ih => simp only [List.sum_cons]; omega
  | cons_cons x _ ih => simp only [List.sum_cons]; omega
theorem hasB_uniq {last : Int} {ls : List LReg} (ok : RegsOk last ls) {i j : Nat} (hi : i < ls.length) (hj : j < ls.length) {a m m' : Int} (h1 : hasB ls[i].base ls[i].words.length a m = true) (h2 : hasB ls[j].base ls[j].words.length a m' = true) : i = j := by
  obtain ⟨a1, a2, _⟩ := hasB_iff.1 h1
  obtain ⟨b1, b2, _⟩ := hasB_iff.1 h2
  rcases Nat.lt_trichotomy i j with q | q | q
  · have := ok.mono i j q hj; omega
  · exact q
  · have := ok.mono j i q hi; omega
theorem RegsOk.erase {last : Int} {ls : List LReg} (h : RegsOk last ls) (i : Nat) : RegsOk last (ls.eraseIdx i) := by
  have hs := List.eraseIdx_sublist ls i
  refine ⟨fun r hr => h.lo r (hs.subset hr), h.sep.sublist hs, h.last0, h.last1, Nat.le_trans ?_ h.live⟩
  have h2 := hs.map (fun r : LReg => r.words.length)
  exact sum_sub h2
def LetPost (p : Nat) (last : Int) (sl : Value) (ls : List LReg) (a : Int) (w : World) (e : Ending) (w' : World) : Prop :=
  (∃ (i : Nat) (hi : i < ls.length) (sl' : Value), ls[i].base = a ∧ SpAt w' p last sl' (ls.eraseIdx i) ∧ Kp (foot p sl ls) w w' ∧ (∀ b ∈ foot p sl' (ls.eraseIdx i), b ∈ foot p sl ls) ∧ e = .returned (.int .i64 0)) ∨
  ((∀ (i : Nat) (hi : i < ls.length), ls[i].base ≠ a) ∧ Below w.heap.size w w' ∧ e = .returned (.int .i64 211))
set_option maxRecDepth 100000 in
set_option maxHeartbeats 1000000 in
theorem let_any {w : World} {p : Nat} {last : Int} {sl : Value} {ls : List LReg} (h : SpAt w p last sl ls) (ok : RegsOk last ls) (a : Int) :
    Calls Try.prog 13 #[.pointer (some ⟨p, 0, none⟩), .int .i64 a] w (LetPost p last sl ls a w) := by
  have HF := Hid.mk (find_any h ok a 1)
  have hhas : ∀ (i : Nat) (hi : i < ls.length), hasB ls[i].base ls[i].words.length ls[i].base 1 = true := fun i hi => hasB_iff.2 (by have := ok.lo _ (List.getElem_mem hi); omega)
  go_enter Try.func13, Try.ntmps13
  go_wp2_with fail
  refine HF.out.mono ?_
  clear HF
  rintro e w1 ⟨hb, ⟨i, hi, hh, _, rfl⟩ | ⟨hno, rfl⟩⟩
  · have h1 := h.below hb
    rcases h1.shape with ⟨rfl, rfl⟩ | ⟨B, cap, rfl, hcap⟩
    · exact absurd hi (by simp)
    have hx := h1.base hi
    have hy := h1.wslice hi
    have hz := h1.cell0
    have hn := ok.count
    by_cases hba : ls[i].base = a
    · subst hba
      clear hh hhas
      have hne : (ls[i].base != ls[i].base) = false := by simp
      obtain ⟨r, hr⟩ : ∃ r, ls.length = i + 1 + r := ⟨ls.length - (i + 1), by omega⟩
      have HD := Hid.mk (delReg_any (i := i) (r := r) (cap := cap) (by rw [← hr]; exact h1.row) (by omega) (rcells_one ls))
      rw [← hr] at HD
      have HR := Hid.mk hr
      clear hr
      go_wp2_with fail
      refine HD.out.mono ?_
      clear HD
      rintro e w2 ⟨hrow2, hk2, rfl⟩
      have hpB : p ∉ [B] := by
        have := (List.nodup_cons.1 h1.nodup).1
        intro q
        simp only [List.mem_singleton] at q
        exact this (List.mem_append.2 (.inl (by simp [Value.ownBlock, q])))
      have hhd := hk2.at h1.head hpB
      have d0 : w2.cell? ⟨p, 0, none⟩ = some (.slice (some ⟨B, 0, none⟩) ls.length cap) := by rw [cell_of_row w2 p 0 _ _ _ hhd]; rfl
      have f0 := frozen_of_row w2 p 0 _ _ hhd
      have hir : i + r = ls.length - 1 := by have := HR.out; omega
      rw [hir] at hrow2 ⊢
      rw [← rcells_erase] at hrow2
      have HROW := Hid.mk hrow2
      clear hrow2 hir
      go_wp2
      go_ret
      refine .inl ⟨i, hi, _, rfl, h1.erase (cap' := cap) hi ?_ ?_ ?_, ?_, foot_erase, rfl⟩
      · exact (hk2.mono (by simp)).setCell (.inl (by simp)) _
      · rw [heap_setCell_same w2 p 0 _ _ _ hhd]; rfl
      · exact ownsRow_setCell_other HROW.out (by simp only [Value.ownBlock, ne_eq, Option.some.injEq]; intro q; exact hpB (by simp [q])) _
      · refine (Kp.of_below hb _).trans (((hk2.mono (gs := [B, p]) (by simp)).setCell (.inl (by simp)) _)) ?_
        intro x hx
        refine .inl ?_
        simp only [List.mem_cons, List.not_mem_nil, or_false] at hx
        rcases hx with rfl | rfl
        · simp [foot, Value.ownBlock]
        · simp [foot]
    · have hne : (ls[i].base != a) = true := by simp [hba]
      have HN : Hid (∀ (j : Nat) (hj : j < ls.length), ls[j].base ≠ a) := by
        rintro j hj rfl
        obtain rfl := hasB_uniq ok hi hj hh (hhas j hj)
        exact hba rfl
      clear hba hh hhas
      go_wp2
      go_ret
      exact .inr ⟨HN.out, hb, rfl⟩
  · have HN : Hid (∀ (j : Nat) (hj : j < ls.length), ls[j].base ≠ a) := by
      rintro j hj rfl
      have := hno j hj (by omega)
      rw [hhas j hj] at this
      cases this
    clear hno hhas
    go_wp2
    go_ret
    exact .inr ⟨HN.out, hb, rfl⟩
end Go.Proofs.Ytkooogllajmkeaa
/- Spaces as plain data: regions with their words, and the last address; what each method answers and leaves; and the methods' contracts over these. -/
namespace Go.Proofs.Ytkooogllajmkeaa
open Go.RowKit

structure Sp where
  regs : List Reg
  last : Int

/-- the region that has m addresses from a on, and the place in it -/
def locate : List Reg → Int → Int → Option (Nat × Nat)
  | [], _, _ => none
  | r :: rs, a, m => if hasB r.base r.words.length a m then some (0, (a - r.base).toNat) else (locate rs a m).map fun x => (x.1 + 1, x.2)

theorem locate_none {a m : Int} : ∀ {rs : List Reg}, (∀ r ∈ rs, hasB r.base r.words.length a m = false) → locate rs a m = none
  | [], _ => rfl
  | r :: rs, h => by simp [locate, h r (by simp), locate_none (rs := rs) (fun x hx => h x (by simp [hx]))]
theorem locate_some {a m : Int} : ∀ {rs : List Reg} {i : Nat} (hi : i < rs.length), hasB rs[i].base rs[i].words.length a m = true → (∀ j (hj : j < rs.length), j < i → hasB rs[j].base rs[j].words.length a m = false) → locate rs a m = some (i, (a - rs[i].base).toNat)
  | r :: rs, 0, _, h, _ => by simp at h; simp [locate, h]
  | r :: rs, i + 1, hi, h, hno => by
    have h0 : hasB r.base r.words.length a m = false := hno 0 (by simp) (by omega)
    have ih := locate_some (rs := rs) (i := i) (by simpa using hi) (by simpa using h) (fun j hj hji => hno (j + 1) (by simpa using hj) (by omega))
    simp [locate, h0, ih]

def wordAt (rs : List Reg) (i j : Nat) : Int × Int := ((rs[i]?).bind (fun r => r.words[j]?)).getD (0, 0)
def wordsAt (rs : List Reg) (i : Nat) : List (Int × Int) := ((rs[i]?).map (fun r => r.words)).getD []
def setAt (rs : List Reg) (i : Nat) (ws : List (Int × Int)) : List Reg := rs.modify i (fun r => { r with words := ws })
def total (rs : List Reg) : Nat := (rs.map (fun r => r.words.length)).sum

namespace Sp
def take (S : Sp) (m : Int) : (Int × Int) × Sp :=
  if m < 1 ∨ 1048576 < m ∨ 4194304 < total S.regs + m then ((0, 211), S)
  else ((nextBase S.last, 0), ⟨S.regs ++ [⟨nextBase S.last, List.replicate m.toNat (0, 0)⟩], nextBase S.last + m - 1⟩)
def let_ (S : Sp) (a : Int) : Int × Sp :=
  match S.regs.findIdx? (fun r => r.base == a) with
  | some i => (0, { S with regs := S.regs.eraseIdx i })
  | none => (211, S)
def of (S : Sp) (a : Int) : (Int × Int) × Bool :=
  match locate S.regs a 1 with
  | some (i, _) => ((((S.regs[i]?).map (fun r => r.base)).getD 0, (wordsAt S.regs i).length), true)
  | none => ((0, 0), false)
def get (S : Sp) (a : Int) : (Int × Int) × Int :=
  match locate S.regs a 1 with
  | some (i, j) => if wordAt S.regs i j = (0, 0) then ((0, 0), 212) else (wordAt S.regs i j, 0)
  | none => ((0, 0), 210)
def put (S : Sp) (a : Int) (v : Int × Int) : Int × Sp :=
  match locate S.regs a 1 with
  | some (i, j) => if okV v.1 v.2 then (0, { S with regs := setAt S.regs i ((wordsAt S.regs i).set j v) }) else (21, S)
  | none => (210, S)
def drop (S : Sp) (a m : Int) : Int × Sp :=
  if m = 0 then (0, S) else if m < 0 then (210, S) else
  match locate S.regs a m with
  | some (i, j) => (0, { S with regs := setAt S.regs i (over (wordsAt S.regs i) j (List.replicate m.toNat (0, 0))) })
  | none => (210, S)
def move (S : Sp) (b a m : Int) : Int × Sp :=
  if m = 0 then (0, S) else if m < 0 then (210, S) else
  match locate S.regs b m, locate S.regs a m with
  | some (i, j), some (i2, j2) => (0, { S with regs := setAt S.regs i (over (wordsAt S.regs i) j (seg (wordsAt S.regs i2) j2 m.toNat)) })
  | _, _ => (210, S)
/-- the values, or none, and the error -/
def run (S : Sp) (a m : Int) : Option (List (Int × Int)) × Int :=
  if m = 0 then (none, 0) else if m < 0 then (none, 210) else
  match locate S.regs a m with
  | some (i, j) => if (0, 0) ∈ seg (wordsAt S.regs i) j m.toNat then (none, 212) else (some (seg (wordsAt S.regs i) j m.toNat), 0)
  | none => (none, 210)
end Sp

/-- block p holds the space S; fs are the blocks that it owns -/
def Spc (w : World) (p : Nat) (S : Sp) (fs : List Nat) : Prop :=
  ∃ sl ls, SpAt w p S.last sl ls ∧ RegsOk S.last ls ∧ S.regs = ls.map LReg.reg ∧ fs = foot p sl ls
/-- what a call that writes leaves: another space in the same block; nothing else has turned; what it owns is its own or new -/
def Stp (w : World) (p : Nat) (fs : List Nat) (S : Sp) (w' : World) : Prop := ∃ fs', Spc w' p S fs' ∧ Kp fs w w' ∧ ∀ b ∈ fs', b ∈ fs ∨ w.heap.size ≤ b

theorem Spc.kp {w w' : World} {p : Nat} {S : Sp} {fs gs : List Nat} (h : Spc w p S fs) (k : Kp gs w w') (hd : ∀ b ∈ fs, b ∉ gs) : Spc w' p S fs := by
  obtain ⟨sl, ls, h1, h2, h3, rfl⟩ := h
  exact ⟨sl, ls, h1.kp k hd, h2, h3, rfl⟩
theorem Spc.below {w w' : World} {p : Nat} {S : Sp} {fs : List Nat} (h : Spc w p S fs) (k : Below w.heap.size w w') : Spc w' p S fs := h.kp (Kp.of_below k []) (by simp)
theorem Spc.lt {w : World} {p : Nat} {S : Sp} {fs : List Nat} (h : Spc w p S fs) : ∀ b ∈ fs, b < w.heap.size := by
  obtain ⟨sl, ls, h1, _, _, rfl⟩ := h
  exact h1.lt
theorem Spc.mem {w : World} {p : Nat} {S : Sp} {fs : List Nat} (h : Spc w p S fs) : p ∈ fs := by
  obtain ⟨sl, ls, _, _, _, rfl⟩ := h
  simp [foot]
theorem Stp.of_below {w w' : World} {p : Nat} {S : Sp} {fs : List Nat} (h : Spc w p S fs) (k : Below w.heap.size w w') : Stp w p fs S w' := ⟨fs, h.below k, Kp.of_below k _, fun _ hb => .inl hb⟩

section
variable {ls : List LReg}
theorem reg_get {i : Nat} (hi : i < ls.length) : (ls.map LReg.reg)[i]? = some ls[i].reg := by simp [hi]
theorem wordsAt_map {i : Nat} (hi : i < ls.length) : wordsAt (ls.map LReg.reg) i = ls[i].words := by simp [wordsAt, hi, LReg.reg]
theorem wordAt_map {i j : Nat} (hi : i < ls.length) (hj : j < ls[i].words.length) : wordAt (ls.map LReg.reg) i j = ls[i].words[j] := by simp [wordAt, hi, LReg.reg, hj]
theorem setAt_map {i : Nat} {ws : List (Int × Int)} : setAt (ls.map LReg.reg) i ws = (setWords ls i ws).map LReg.reg := by
  apply List.ext_getElem?
  intro k
  simp only [setAt, setWords, List.getElem?_map, List.getElem?_modify]
  rcases Nat.lt_or_ge k ls.length with q | q
  · simp only [q, List.getElem?_eq_getElem, Option.map_some]
    by_cases e : i = k <;> simp [e, LReg.reg]
  · simp [List.getElem?_eq_none q]
theorem total_map : total (ls.map LReg.reg) = tot ls := by simp [total, tot, LReg.reg, Function.comp_def]
theorem loc_some {last : Int} (ok : RegsOk last ls) {i : Nat} (hi : i < ls.length) {a m : Int} (h : hasB ls[i].base ls[i].words.length a m = true) : locate (ls.map LReg.reg) a m = some (i, (a - ls[i].base).toNat) := by
  have := locate_some (rs := ls.map LReg.reg) (i := i) (a := a) (m := m) (by simpa using hi) (by simpa [LReg.reg] using h) (fun j hj hji => by
    have hj' : j < ls.length := by simpa using hj
    cases e : hasB ls[j].base ls[j].words.length a m with
    | false => simpa [LReg.reg] using e
    | true => have := hasB_uniq ok hj' hi e h; omega)
  simpa [LReg.reg] using this
theorem loc_none {a m : Int} (h : ∀ (i : Nat) (hi : i < ls.length), hasB ls[i].base ls[i].words.length a m = false) : locate (ls.map LReg.reg) a m = none := by
  refine locate_none fun r hr => ?_
  obtain ⟨x, hx, rfl⟩ := List.mem_map.1 hr
  obtain ⟨i, hi, rfl⟩ := List.getElem_of_mem hx
  exact h i hi
theorem loc_at {last : Int} (ok : RegsOk last ls) {i j : Nat} (hi : i < ls.length) {m : Int} (hj : j < ls[i].words.length) (hm : m ≤ ls[i].words.length - j) : locate (ls.map LReg.reg) (ls[i].base + j) m = some (i, j) := by
  rw [loc_some ok hi (hasB_iff.2 ⟨by omega, by omega, by omega⟩)]
  simp; omega
end
end Go.Proofs.Ytkooogllajmkeaa
/- The contracts of a space's methods, over spaces as plain data. Condition of Take: the last address is no greater than 2^60. -/
namespace Go.Proofs.Ytkooogllajmkeaa
open Go.RowKit

section
variable {w : World} {p : Nat} {S : Sp} {fs : List Nat}

theorem live_spc (h : Spc w p S fs) : Calls Try.prog 16 #[.pointer (some ⟨p, 0, none⟩)] w fun e w' => e = .returned (.int .i64 (total S.regs)) ∧ Below w.heap.size w w' := by
  obtain ⟨sl, ls, h1, ok, hr, rfl⟩ := h
  rw [hr, total_map]
  exact live_any h1 ok

theorem spc_reg (h : Spc w p S fs) : ∃ ls, S.regs = ls.map LReg.reg ∧ RegsOk S.last ls := let ⟨_, ls, _, ok, hr, _⟩ := h; ⟨ls, hr, ok⟩

theorem find_of (h : Spc w p S fs) (a : Int) : Calls Try.prog 15 #[.pointer (some ⟨p, 0, none⟩), .int .i64 a] w fun e w' =>
    Below w.heap.size w w' ∧ e = .returned (.tuple #[.agg #[.int .i64 (S.of a).1.1, .int .i64 (S.of a).1.2], .bool (S.of a).2]) := by
  obtain ⟨sl, ls, h1, ok, hr, rfl⟩ := h
  refine (of_any h1 ok a).mono ?_
  rintro e w' ⟨hb, ⟨i, hi, hh, rfl⟩ | ⟨hno, rfl⟩⟩
  · refine ⟨hb, ?_⟩
    have : S.of a = ((ls[i].base, (ls[i].words.length : Int)), true) := by
      unfold Sp.of
      rw [hr, loc_some ok hi hh]
      simp [wordsAt_map hi, hi, LReg.reg]
    rw [this]
  · refine ⟨hb, ?_⟩
    have : S.of a = ((0, 0), false) := by unfold Sp.of; rw [hr, loc_none hno]
    rw [this]

theorem get_spc (h : Spc w p S fs) (a : Int) : Calls Try.prog 19 #[.pointer (some ⟨p, 0, none⟩), .int .i64 a] w fun e w' =>
    Below w.heap.size w w' ∧ e = .returned (.tuple #[.agg #[.int .i64 (S.get a).1.1, .int .i64 (S.get a).1.2], .int .i64 (S.get a).2]) := by
  obtain ⟨sl, ls, h1, ok, hr, rfl⟩ := h
  refine (get_any h1 ok a).mono ?_
  rintro e w' ⟨hb, ⟨i, j, hi, hj, rfl, ⟨hz, rfl⟩ | ⟨hz, rfl⟩⟩ | ⟨hno, rfl⟩⟩
  · refine ⟨hb, ?_⟩
    have : S.get (ls[i].base + j) = ((0, 0), 212) := by
      unfold Sp.get
      rw [hr, loc_at ok hi hj (by omega)]
      simp [wordAt_map hi hj, hz]
    rw [this]
  · refine ⟨hb, ?_⟩
    have : S.get (ls[i].base + j) = (ls[i].words[j], 0) := by
      unfold Sp.get
      rw [hr, loc_at ok hi hj (by omega)]
      simp only [wordAt_map hi hj]
      rw [if_neg hz]
    rw [this]
  · refine ⟨hb, ?_⟩
    have : S.get a = ((0, 0), 210) := by unfold Sp.get; rw [hr, loc_none hno]
    rw [this]

theorem put_spc (h : Spc w p S fs) (a t n : Int) : Calls Try.prog 17 #[.pointer (some ⟨p, 0, none⟩), .int .i64 a, .agg #[.int .i64 t, .int .i64 n]] w fun e w' =>
    Stp w p fs (S.put a (t, n)).2 w' ∧ e = .returned (.int .i64 (S.put a (t, n)).1) := by
  have h0 := h
  obtain ⟨sl, ls, h1, ok, hr, rfl⟩ := h
  refine (put_any h1 ok a t n).mono ?_
  rintro e w' (⟨i, j, hi, hj, rfl, ⟨hz, hb, rfl⟩ | ⟨hz, hk, hs, rfl⟩⟩ | ⟨hno, hb, rfl⟩)
  · have : S.put (ls[i].base + j) (t, n) = (21, S) := by
      unfold Sp.put
      rw [hr, loc_at ok hi hj (by omega)]
      simp [hz]
    rw [this]
    exact ⟨Stp.of_below h0 hb, rfl⟩
  · have : S.put (ls[i].base + j) (t, n) = (0, { S with regs := (setWords ls i (ls[i].words.set j (t, n))).map LReg.reg }) := by
      unfold Sp.put
      rw [hr, loc_at ok hi hj (by omega)]
      simp [hz, setAt_map, wordsAt_map hi]
    rw [this]
    exact ⟨⟨_, ⟨sl, _, hs, ok.replace hi _ (by simp), rfl, rfl⟩, hk.mono (by simp [foot]; exact .inr (.inr ⟨_, List.getElem_mem hi, rfl⟩)), by rw [foot_setWords]; exact fun _ hb => .inl hb⟩, rfl⟩
  · have : S.put a (t, n) = (210, S) := by unfold Sp.put; rw [hr, loc_none hno]
    rw [this]
    exact ⟨Stp.of_below h0 hb, rfl⟩

theorem drop_spc (h : Spc w p S fs) (a m : Int) : Calls Try.prog 18 #[.pointer (some ⟨p, 0, none⟩), .int .i64 a, .int .i64 m] w fun e w' =>
    Stp w p fs (S.drop a m).2 w' ∧ e = .returned (.int .i64 (S.drop a m).1) := by
  have h0 := h
  obtain ⟨sl, ls, h1, ok, hr, rfl⟩ := h
  refine (drop_any h1 ok a m).mono ?_
  rintro e w' (⟨rfl, hb, rfl⟩ | ⟨i, j, k, hi, rfl, rfl, hk, hjk, hkp, hs, rfl⟩ | ⟨hm, hno, hb, rfl⟩)
  · have : S.drop a 0 = (0, S) := by simp [Sp.drop]
    rw [this]
    exact ⟨Stp.of_below h0 hb, rfl⟩
  · have : S.drop (ls[i].base + j) k = (0, { S with regs := (setWords ls i (over ls[i].words j (List.replicate k (0, 0)))).map LReg.reg }) := by
      unfold Sp.drop
      rw [if_neg (by omega), if_neg (by omega), hr, loc_at ok hi (by omega) (by omega)]
      simp [setAt_map, wordsAt_map hi]
    rw [this]
    exact ⟨⟨_, ⟨sl, _, hs, ok.replace hi _ (over_len (by simp; omega)), rfl, rfl⟩, hkp.mono (by simp [foot]; exact .inr (.inr ⟨_, List.getElem_mem hi, rfl⟩)), by rw [foot_setWords]; exact fun _ hb => .inl hb⟩, rfl⟩
  · have : S.drop a m = (210, S) := by
      unfold Sp.drop
      rw [if_neg hm]
      by_cases hm0 : m < 0
      · rw [if_pos hm0]
      · rw [if_neg hm0, hr, loc_none (fun i hi => hno i hi (by omega))]
    rw [this]
    exact ⟨Stp.of_below h0 hb, rfl⟩

theorem move_spc (h : Spc w p S fs) (b a m : Int) : Calls Try.prog 23 #[.pointer (some ⟨p, 0, none⟩), .int .i64 b, .int .i64 a, .int .i64 m] w fun e w' =>
    Stp w p fs (S.move b a m).2 w' ∧ e = .returned (.int .i64 (S.move b a m).1) := by
  have h0 := h
  obtain ⟨sl, ls, h1, ok, hr, rfl⟩ := h
  refine (move_any h1 ok b a m).mono ?_
  rintro e w' (⟨rfl, hb, rfl⟩ | ⟨i, j, i2, j2, k, hi, hi2, rfl, rfl, rfl, hk, hjk, hjk2, hkp, hs, rfl⟩ | ⟨hm, hno, hb, rfl⟩)
  · have : S.move b a 0 = (0, S) := by simp [Sp.move]
    rw [this]
    exact ⟨Stp.of_below h0 hb, rfl⟩
  · have : S.move (ls[i].base + j) (ls[i2].base + j2) k = (0, { S with regs := (setWords ls i (over ls[i].words j (seg ls[i2].words j2 k))).map LReg.reg }) := by
      unfold Sp.move
      rw [if_neg (by omega), if_neg (by omega), hr, loc_at ok hi (by omega) (by omega), loc_at ok hi2 (by omega) (by omega)]
      simp [setAt_map, wordsAt_map hi, wordsAt_map hi2]
    rw [this]
    exact ⟨⟨_, ⟨sl, _, hs, ok.replace hi _ (over_len (by rw [seg_len hjk2]; omega)), rfl, rfl⟩, hkp.mono (by simp [foot]; exact .inr (.inr ⟨_, List.getElem_mem hi, rfl⟩)), by rw [foot_setWords]; exact fun _ hb => .inl hb⟩, rfl⟩
  · have : S.move b a m = (210, S) := by
      unfold Sp.move
      rw [if_neg hm]
      by_cases hm0 : m < 0
      · rw [if_pos hm0]
      · rw [if_neg hm0, hr]
        rcases hno with hno | hno
        · rw [loc_none (fun i hi => hno i hi (by omega))]
        · rw [loc_none (a := a) (fun i hi => hno i hi (by omega))]
          cases locate (ls.map LReg.reg) b m <;> rfl
    rw [this]
    exact ⟨Stp.of_below h0 hb, rfl⟩

/-- what Run hands back: no row, or a row of its own, of capacity c -/
def RunOut (w : World) (r : Option (List (Int × Int)) × Int) (e : Ending) (w' : World) : Prop :=
  match r.1 with
  | none => e = .returned (.tuple #[.slice none 0 0, .int .i64 r.2])
  | some l => ∃ g c, w'.ownsRow w.heap.size 29 2 (.slice (some ⟨g, 0, none⟩) l.length c) l.length (wcells l) ∧ e = .returned (.tuple #[.slice (some ⟨g, 0, none⟩) l.length c, .int .i64 r.2])
theorem run_spc (h : Spc w p S fs) (a m : Int) : Calls Try.prog 24 #[.pointer (some ⟨p, 0, none⟩), .int .i64 a, .int .i64 m] w fun e w' =>
    Below w.heap.size w w' ∧ RunOut w (S.run a m) e w' := by
  obtain ⟨sl, ls, h1, ok, hr, rfl⟩ := h
  refine (run_any h1 ok a m).mono ?_
  rintro e w' ⟨hb, ⟨rfl, rfl⟩ | ⟨i, j, k, hi, rfl, rfl, hk, hjk, ⟨hz, rfl⟩ | ⟨hz, g, c, hrow, rfl⟩⟩ | ⟨hm, hno, rfl⟩⟩
  · have : S.run a 0 = (none, 0) := by simp [Sp.run]
    rw [this]; exact ⟨hb, rfl⟩
  · have : S.run (ls[i].base + j) k = (none, 212) := by
      unfold Sp.run
      rw [if_neg (by omega), if_neg (by omega), hr, loc_at ok hi (by omega) (by omega)]
      simp [wordsAt_map hi, hz]
    rw [this]; exact ⟨hb, rfl⟩
  · have : S.run (ls[i].base + j) k = (some (seg ls[i].words j k), 0) := by
      unfold Sp.run
      rw [if_neg (by omega), if_neg (by omega), hr, loc_at ok hi (by omega) (by omega)]
      simp [wordsAt_map hi, hz]
    rw [this]; exact ⟨hb, g, c, by rw [seg_len hjk]; exact hrow, by rw [seg_len hjk]⟩
  · have : S.run a m = (none, 210) := by
      unfold Sp.run
      rw [if_neg hm]
      by_cases hm0 : m < 0
      · rw [if_pos hm0]
      · rw [if_neg hm0, hr, loc_none (fun i hi => hno i hi (by omega))]
    rw [this]; exact ⟨hb, rfl⟩

theorem map_erase {α β : Type} (f : α → β) : ∀ (l : List α) (i : Nat), (l.map f).eraseIdx i = (l.eraseIdx i).map f
  | [], _ => by simp
  | _ :: _, 0 => by simp
  | _ :: l, i + 1 => by simp [map_erase f l i]
theorem findIdx_map (ls : List LReg) (a : Int) (i : Nat) (hi : i < ls.length) (h : ls[i].base = a) (hno : ∀ j (hj : j < ls.length), j < i → ls[j].base ≠ a) : (ls.map LReg.reg).findIdx? (fun r => r.base == a) = some i := by
  rw [List.findIdx?_eq_some_iff_getElem]
  refine ⟨by simpa using hi, by simpa [LReg.reg] using h, fun j hj => ?_⟩
  simpa [LReg.reg] using hno j (by omega) hj

theorem let_spc (h : Spc w p S fs) (a : Int) : Calls Try.prog 13 #[.pointer (some ⟨p, 0, none⟩), .int .i64 a] w fun e w' =>
    Stp w p fs (S.let_ a).2 w' ∧ e = .returned (.int .i64 (S.let_ a).1) := by
  have h0 := h
  obtain ⟨sl, ls, h1, ok, hr, rfl⟩ := h
  refine (let_any h1 ok a).mono ?_
  rintro e w' (⟨i, hi, sl', rfl, hs, hkp, hft, rfl⟩ | ⟨hno, hb, rfl⟩)
  · have : S.let_ ls[i].base = (0, { S with regs := (ls.eraseIdx i).map LReg.reg }) := by
      unfold Sp.let_
      rw [hr, findIdx_map ls _ i hi rfl (fun j hj hji => by have := ok.mono j i hji hi; have := ok.lo _ (List.getElem_mem hj); omega)]
      simp [map_erase]
    rw [this]
    exact ⟨⟨_, ⟨sl', _, hs, ok.erase i, rfl, rfl⟩, hkp, fun b hb => .inl (hft b hb)⟩, rfl⟩
  · have : S.let_ a = (211, S) := by
      unfold Sp.let_
      have : S.regs.findIdx? (fun r => r.base == a) = none := by
        rw [hr, List.findIdx?_eq_none_iff]
        intro r hr
        obtain ⟨x, hx, rfl⟩ := List.mem_map.1 hr
        obtain ⟨i, hi, rfl⟩ := List.getElem_of_mem hx
        simpa [LReg.reg] using hno i hi
      rw [this]
    rw [this]
    exact ⟨Stp.of_below h0 hb, rfl⟩

theorem regs_snoc {last : Int} {ls : List LReg} (ok : RegsOk last ls) (k Wn : Nat) (h1 : 1 ≤ k) (h2 : k ≤ 1048576) (h3 : tot ls + k ≤ 4194304) (hl : last ≤ 1152921504606846976) :
    RegsOk (nextBase last + k - 1) (ls ++ [⟨nextBase last, Wn, k, List.replicate k (0, 0)⟩]) := by
  have l0 := ok.last0
  have hnb : last + 1 ≤ nextBase last ∧ nextBase last ≤ last + 2 ∧ (ls ≠ [] → last + 2 ≤ nextBase last) := by
    unfold nextBase
    split
    · rename_i q
      refine ⟨by omega, by omega, fun hne => ?_⟩
      obtain ⟨a, l, rfl⟩ := List.exists_cons_of_ne_nil hne
      have := ok.lo a (by simp); omega
    · omega
  refine ⟨?_, ?_, by omega, by omega, ?_⟩
  · intro r hr
    rcases List.mem_append.1 hr with hr | hr
    · have := ok.lo r hr; omega
    · obtain rfl : r = _ := by simpa using hr
      simp only [List.length_replicate]; omega
  · refine List.pairwise_append.2 ⟨ok.sep, by simp, ?_⟩
    intro a ha b hb
    obtain rfl : b = _ := by simpa using hb
    have := ok.lo a ha
    have := hnb.2.2 (List.ne_nil_of_mem ha)
    simp only; omega
  · simp only [List.map_append, List.map_cons, List.map_nil, List.sum_append, List.length_replicate, List.sum_cons, List.sum_nil]
    unfold tot at h3; omega

theorem take_spc (h : Spc w p S fs) (m : Int) (hl : S.last ≤ 1152921504606846976) : Calls Try.prog 12 #[.pointer (some ⟨p, 0, none⟩), .int .i64 m] w fun e w' =>
    Stp w p fs (S.take m).2 w' ∧ e = .returned (.tuple #[.int .i64 (S.take m).1.1, .int .i64 (S.take m).1.2]) := by
  have h0 := h
  obtain ⟨sl, ls, h1, ok, hr, rfl⟩ := h
  by_cases hm : m < 1 ∨ 1048576 < m ∨ 4194304 < total S.regs + m
  · have : S.take m = ((0, 211), S) := by unfold Sp.take; rw [if_pos hm]
    rw [this]
    rw [hr, total_map] at hm
    refine (take_err h1 ok m hm).mono ?_
    rintro e w' ⟨rfl, hb⟩
    exact ⟨Stp.of_below h0 hb, rfl⟩
  · have he : S.take m = ((nextBase S.last, 0), ⟨S.regs ++ [⟨nextBase S.last, List.replicate m.toNat (0, 0)⟩], nextBase S.last + m - 1⟩) := by unfold Sp.take; rw [if_neg hm]
    rw [he]
    rw [hr, total_map] at hm
    obtain ⟨k, rfl⟩ := Int.eq_ofNat_of_zero_le (show 0 ≤ m by omega)
    refine (take_ok h1 ok k (by omega) (by omega) (by omega) hl).mono ?_
    rintro e w' ⟨sl', Wn, hs, hkp, hft, rfl⟩
    refine ⟨⟨_, ⟨sl', _, hs, regs_snoc ok k Wn (by omega) (by omega) (by omega) hl, ?_, rfl⟩, hkp, hft⟩, rfl⟩
    simp [hr, LReg.reg]

/-- regions, told as bases and how many words -/
def tells (rs : List Reg) : List (Int × Int) := rs.map fun r => (r.base, (r.words.length : Int))
theorem gcells_tells (ls : List LReg) : gcells ls = wcells (tells (ls.map LReg.reg)) := by
  simp only [gcells, wcells, tells, List.map_map, flatMap_map']
  rfl
theorem regions_spc (h : Spc w p S fs) : Calls Try.prog 14 #[.pointer (some ⟨p, 0, none⟩)] w fun e w' => Below w.heap.size w w' ∧
    ∃ v, e = .returned v ∧ w'.ownsRow w.heap.size 39 2 v S.regs.length (wcells (tells S.regs)) ∧ (v = .slice none 0 0 ↔ S.regs = []) := by
  obtain ⟨sl, ls, h1, ok, hr, rfl⟩ := h
  refine (regions_any h1 ok).mono ?_
  rintro e w' ⟨hb, v, rfl, hrow, hnil⟩
  refine ⟨hb, v, rfl, ?_, ?_⟩
  · rw [hr, ← gcells_tells]; simpa using hrow
  · rw [hr, hnil]; simp
end
end Go.Proofs.Ytkooogllajmkeaa
