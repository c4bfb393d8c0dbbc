/- Parts Ua Ub Uc Ud, put together. -/
import Derived.Test.YtpfnnmcokbolhaaGreatMd16
import Derived.Laws.OwnMore
import Derived.Maps.AppendAt
/- The twin in memory: its box, its row of models, each with three rows of its own, its row of pointers. -/
namespace Go.Proofs.YtpfnnmcokbolhaaGreat
open Go.RowKit
set_option pp.deepTerms true
/-- a model, and its rows' slices -/
structure Mv where
  lv : Value
  sv : Value
  ov : Value
  m : Md
def mcell (x : Mv) : List Value := [x.lv, .int .i64 x.m.lay.args, .int .i64 x.m.lay.res, .int .i64 x.m.lay.height, x.sv, x.ov, .int .i64 x.m.which]
def mcells (l : List Mv) : List Value := l.reverse.flatMap mcell
def pcell (q : Int × Pf) : List Value := [.int .i64 4, .int .i64 q.1, .int .i64 q.2.depth, .int .i64 q.2.slot, .int .i64 q.2.which]
def pcells (l : List (Int × Pf)) : List Value := l.flatMap pcell
theorem mcells_len (l : List Mv) : (mcells l).length = l.length * 7 := by
  unfold mcells
  rw [flatN_len 7 _ (fun _ => rfl), List.length_reverse]
theorem mcells_cons (x : Mv) (l : List Mv) : mcells (x :: l) = mcells l ++ mcell x := by simp [mcells]
theorem mcells_at (pre : List Mv) (x : Mv) (post : List Mv) (i : Nat) (hi : i < 7) : (mcells (pre ++ x :: post))[post.length * 7 + i]? = (mcell x)[i]? := by
  have e : mcells (pre ++ x :: post) = mcells post ++ (mcell x ++ pre.reverse.flatMap mcell) := by simp [mcells]
  rw [e, List.getElem?_append_right (by rw [mcells_len]; omega), mcells_len, List.getElem?_append_left (by have : (mcell x).length = 7 := rfl; omega)]
  congr 1
  omega
theorem mcells_set5 (x : Mv) (l : List Mv) (v : Value) (m : Md) (h1 : m.lay = x.m.lay) (h2 : m.which = x.m.which) : (mcells (x :: l)).set (l.length * 7 + 5) v = mcells ({ x with ov := v, m := m } :: l) := by
  rw [mcells_cons, mcells_cons, List.set_append_right _ _ (by rw [mcells_len]; omega), mcells_len]
  congr 1
  rw [show l.length * 7 + 5 - l.length * 7 = 5 by omega]
  simp [mcell, h1, h2]
theorem pcells_len (l : List (Int × Pf)) : (pcells l).length = l.length * 5 := by
  unfold pcells
  rw [flatN_len 5 _ (fun _ => rfl)]
theorem pcells_at (pre : List (Int × Pf)) (x : Int × Pf) (post : List (Int × Pf)) (i : Nat) (hi : i < 5) : (pcells (pre ++ x :: post))[pre.length * 5 + i]? = (pcell x)[i]? := by
  have e : pcells (pre ++ x :: post) = pcells pre ++ (pcell x ++ pcells post) := by simp [pcells]
  rw [e, List.getElem?_append_right (by rw [pcells_len]; omega), pcells_len, List.getElem?_append_left (by have : (pcell x).length = 5 := rfl; omega)]
  congr 1
  omega
theorem wcells_take' : ∀ (l : List (Int × Int)) (n : Nat), wcells (l.take n) = (wcells l).take (n * 2)
  | [], n => by simp [wcells]
  | x :: l, 0 => by simp [wcells]
  | x :: l, n + 1 => by
    show wcell x ++ wcells (l.take n) = (wcell x ++ wcells l).take ((n + 1) * 2)
    rw [wcells_take' l n, show (n + 1) * 2 = n * 2 + 1 + 1 by omega]
    rfl
/-- a model's rows -/
def lrow (x : Mv) : Asr := rw_ 0 3 1 x.lv x.m.lay.slots.length (icells x.m.lay.slots)
def mrow (x : Mv) : Asr := Asr.sep (lrow x) (Asr.sep (vrow x.sv x.m.slots) (vrow x.ov x.m.ops))
def twB (t b : Nat) (lv pv : Value) (many : Int) : Asr := bx t (.cells #[.pointer (some ⟨b, 0, none⟩), lv, pv, .int .i64 many] 44 (0, 0))
def twM (lv : Value) (ml : List Mv) : Asr := rw_ 0 56 7 lv ml.length (mcells ml)
def twQ (pv : Value) (Q : List (Int × Pf)) : Asr := rw_ 0 115 5 pv Q.length (pcells Q)
def twL (t b : Nat) (lv pv : Value) (ml : List Mv) (Q : List (Int × Pf)) (many : Int) : List Asr := twB t b lv pv many :: twM lv ml :: twQ pv Q :: ml.map mrow
section
variable {w W : World} {F G : List Asr} {t b p k g c : Nat} {sz ca many : Int} {C : Ch} {lv pv : Value} {ml l : List Mv} {x : Mv} {Q : List (Int × Pf)}
/-- the chain ahead -/
theorem tw_ch (h : Sep w (twL t b lv pv ml Q many ++ chP b p k sz ca C F) W) : Sep w (chP b p k sz ca C (twL t b lv pv ml Q many ++ F)) W := Sep.rot (twL t b lv pv ml Q many) [_, _, _] h
theorem ch_tw (h : Sep w (chP b p k sz ca C (twL t b lv pv ml Q many ++ F)) W) : Sep w (twL t b lv pv ml Q many ++ chP b p k sz ca C F) W := Sep.rot [_, _, _] (twL t b lv pv ml Q many) h
theorem tw_k (h : Sep w (twL t b lv pv ml Q many ++ G) W) : W.cell? ⟨t, 0, none⟩ = some (.pointer (some ⟨b, 0, none⟩)) ∧ W.cell? ⟨t, 1, none⟩ = some lv ∧ W.cell? ⟨t, 2, none⟩ = some pv ∧ W.cell? ⟨t, 3, none⟩ = some (.int .i64 many) ∧ ∀ i, W.frozen? ⟨t, i, none⟩ = false :=
  ⟨Sep.cell h (List.Mem.head _) rfl, Sep.cell h (List.Mem.head _) rfl, Sep.cell h (List.Mem.head _) rfl, Sep.cell h (List.Mem.head _) rfl, fun i => Sep.free h (List.Mem.head _) i⟩
theorem tw_rowM (h : Sep w (twL t b lv pv ml Q many ++ G) W) : W.ownsRow 0 56 7 lv ml.length (mcells ml) := Sep.owns h (List.Mem.tail _ (List.Mem.head _))
theorem tw_rowQ (h : Sep w (twL t b lv pv ml Q many ++ G) W) : W.ownsRow 0 115 5 pv Q.length (pcells Q) := Sep.owns h (List.Mem.tail _ (List.Mem.tail _ (List.Mem.head _)))
/-- a model's cells -/
theorem tw_at {pre post : List Mv} (h : Sep w (twL t b lv pv (pre ++ x :: post) Q many ++ G) W) : ∃ g c, lv = .slice (some ⟨g, 0, none⟩) (pre ++ x :: post).length c ∧ (pre ++ x :: post).length ≤ c ∧ (∀ i u, (mcell x)[i]? = some u → W.cell? ⟨g, post.length * 7 + i, none⟩ = some u) ∧ ∀ i, W.frozen? ⟨g, i, none⟩ = false := by
  have ho := tw_rowM h
  obtain ⟨g, c, rfl⟩ := row_shape ho (by simp; omega)
  refine ⟨g, c, rfl, ?_, fun i u hi => ?_, fun i => ho.frozenAt i⟩
  · rcases ho.2 with ⟨q, _⟩ | ⟨_, _, _, q, _, _, hc, _⟩
    · simp at q
    · simp at q; omega
  · have hlt := (List.getElem?_eq_some_iff.1 hi).1
    have h7 : (mcell x).length = 7 := rfl
    rw [ho.cellAt _ (by simp; omega), mcells_at _ _ _ _ (by omega)]
    exact hi
/-- a pointer's cells -/
theorem tw_pt {pre post : List (Int × Pf)} {q : Int × Pf} (h : Sep w (twL t b lv pv ml (pre ++ q :: post) many ++ G) W) : ∃ g c, pv = .slice (some ⟨g, 0, none⟩) (pre ++ q :: post).length c ∧ (pre ++ q :: post).length ≤ c ∧ (∀ i u, (pcell q)[i]? = some u → W.cell? ⟨g, pre.length * 5 + i, none⟩ = some u) := by
  have ho := tw_rowQ h
  obtain ⟨g, c, rfl⟩ := row_shape ho (by simp; omega)
  refine ⟨g, c, rfl, ?_, fun i u hi => ?_⟩
  · rcases ho.2 with ⟨q, _⟩ | ⟨_, _, _, q, _, _, hc, _⟩
    · simp at q
    · simp at q; omega
  · have hlt := (List.getElem?_eq_some_iff.1 hi).1
    have h7 : (pcell q).length = 5 := rfl
    rw [ho.cellAt _ (by simp; omega), pcells_at _ _ _ _ (by omega)]
    exact hi
/-- a model's rows, as read -/
theorem tw_rd {pre post : List Mv} (h : Sep w (twL t b lv pv (pre ++ x :: post) Q many ++ G) W) : Rdi W x.lv x.m.lay.slots ∧ Rd W x.sv x.m.slots ∧ Rd W x.ov x.m.ops := by
  have h1 : Sep w (mrow x :: _) W := Sep.pick (3 + pre.length) h (by
    show (twB t b lv pv many :: twM lv (pre ++ x :: post) :: twQ pv Q :: ((pre ++ x :: post).map mrow ++ G))[3 + pre.length]? = _
    rw [show 3 + pre.length = pre.length + 3 by omega]
    simp)
  have h2 := h1.sepE
  have h3 := Sep.sepE (h2.perm (List.Perm.refl _) |>.tl)
  exact ⟨Rdi.of_row (h2.owns (List.Mem.head _)) rfl, Rd.of_row (h3.owns (List.Mem.head _)) rfl, Rd.of_row (h3.owns (List.Mem.tail _ (List.Mem.head _))) rfl⟩
/-- the top model's rows opened -/
theorem tw_open (h : Sep w (twL t b lv pv (x :: l) Q many ++ G) W) : Sep w (vrow x.ov x.m.ops :: twB t b lv pv many :: twM lv (x :: l) :: twQ pv Q :: lrow x :: vrow x.sv x.m.slots :: (l.map mrow ++ G)) W := by
  have h1 : Sep w (mrow x :: twB t b lv pv many :: twM lv (x :: l) :: twQ pv Q :: (l.map mrow ++ G)) W := Sep.pick 3 h rfl
  have h2 := h1.sepE
  have h3 : Sep w (Asr.sep (vrow x.sv x.m.slots) (vrow x.ov x.m.ops) :: lrow x :: twB t b lv pv many :: twM lv (x :: l) :: twQ pv Q :: (l.map mrow ++ G)) W := h2.perm (List.Perm.swap _ _ _)
  have h4 := h3.sepE
  have h5 : Sep w (vrow x.ov x.m.ops :: vrow x.sv x.m.slots :: lrow x :: twB t b lv pv many :: twM lv (x :: l) :: twQ pv Q :: (l.map mrow ++ G)) W := h4.perm (List.Perm.swap _ _ _)
  have h6 : Sep w (twB t b lv pv many :: twM lv (x :: l) :: twQ pv Q :: vrow x.ov x.m.ops :: vrow x.sv x.m.slots :: lrow x :: (l.map mrow ++ G)) W := Sep.rot [_, _, _] [_, _, _] h5
  have h7 : Sep w (vrow x.ov x.m.ops :: twB t b lv pv many :: twM lv (x :: l) :: twQ pv Q :: vrow x.sv x.m.slots :: lrow x :: (l.map mrow ++ G)) W := Sep.pick 3 h6 rfl
  exact h7.perm (List.Perm.cons _ (List.Perm.cons _ (List.Perm.cons _ (List.Perm.cons _ (List.Perm.swap _ _ _)))))
theorem tw_close {ml0 : List Mv} (h : Sep w (vrow x.ov x.m.ops :: twB t b lv pv many :: twM lv ml0 :: twQ pv Q :: lrow x :: vrow x.sv x.m.slots :: (l.map mrow ++ G)) W) (hm : mcells ml0 = mcells (x :: l)) (hn : ml0.length = l.length + 1) : Sep w (twL t b lv pv (x :: l) Q many ++ G) W := by
  have e : twM lv ml0 = twM lv (x :: l) := by unfold twM; rw [hm, hn]; rfl
  rw [e] at h
  have h1 : Sep w (vrow x.ov x.m.ops :: twB t b lv pv many :: twM lv (x :: l) :: twQ pv Q :: vrow x.sv x.m.slots :: lrow x :: (l.map mrow ++ G)) W := h.perm (List.Perm.cons _ (List.Perm.cons _ (List.Perm.cons _ (List.Perm.cons _ (List.Perm.swap _ _ _)))))
  have h2 : Sep w (vrow x.sv x.m.slots :: lrow x :: vrow x.ov x.m.ops :: twB t b lv pv many :: twM lv (x :: l) :: twQ pv Q :: (l.map mrow ++ G)) W := Sep.rot [_, _, _, _] [_, _] h1
  have h3 : Sep w (vrow x.sv x.m.slots :: vrow x.ov x.m.ops :: lrow x :: twB t b lv pv many :: twM lv (x :: l) :: twQ pv Q :: (l.map mrow ++ G)) W := h2.perm (List.Perm.cons _ (List.Perm.swap _ _ _))
  have h4 := h3.sepI
  have h5 : Sep w (lrow x :: Asr.sep (vrow x.sv x.m.slots) (vrow x.ov x.m.ops) :: twB t b lv pv many :: twM lv (x :: l) :: twQ pv Q :: (l.map mrow ++ G)) W := h4.perm (List.Perm.swap _ _ _)
  have h6 : Sep w (mrow x :: twB t b lv pv many :: twM lv (x :: l) :: twQ pv Q :: (l.map mrow ++ G)) W := h5.sepI
  exact Sep.rot [_] [_, _, _] h6
/-- the top model's operands, a row that turned, are stored -/
theorem tw_ops {ov' : Value} {ops' : List (Int × Int)} (h : Sep w (vrow ov' ops' :: twB t b (.slice (some ⟨g, 0, none⟩) (l.length + 1 : Nat) c) pv many :: twM (.slice (some ⟨g, 0, none⟩) (l.length + 1 : Nat) c) (x :: l) :: twQ pv Q :: lrow x :: vrow x.sv x.m.slots :: (l.map mrow ++ G)) W) :
    Sep w (twL t b (.slice (some ⟨g, 0, none⟩) (l.length + 1 : Nat) c) pv ({ x with ov := ov', m := x.m.withOps ops' } :: l) Q many ++ G) (W.setCell ⟨g, l.length * 7 + 5, none⟩ ov') := by
  have h1 : Sep w (twM (.slice (some ⟨g, 0, none⟩) (l.length + 1 : Nat) c) (x :: l) :: vrow ov' ops' :: twB t b (.slice (some ⟨g, 0, none⟩) (l.length + 1 : Nat) c) pv many :: twQ pv Q :: lrow x :: vrow x.sv x.m.slots :: (l.map mrow ++ G)) W := Sep.pick 2 h rfl
  have h2 : Sep w (twM (.slice (some ⟨g, 0, none⟩) (l.length + 1 : Nat) c) ({ x with ov := ov', m := x.m.withOps ops' } :: l) :: vrow ov' ops' :: twB t b (.slice (some ⟨g, 0, none⟩) (l.length + 1 : Nat) c) pv many :: twQ pv Q :: lrow x :: vrow x.sv x.m.slots :: (l.map mrow ++ G)) (W.setCell ⟨g, l.length * 7 + 5, none⟩ ov') := h1.turn (fun fs hf _ => by
    obtain ⟨rfl, hr⟩ := hf
    have hs := hr.stored (l.length * 7 + 5) ov'
    rw [mcells_set5 x l ov' (x.m.withOps ops') rfl rfl] at hs
    exact ⟨_, ⟨rfl, hs.1⟩, (Kp.refl _ _).setCell (.inl (by simp [Value.ownBlock])) _, fun y hy => .inl hy⟩)
  exact tw_close (x := { x with ov := ov', m := x.m.withOps ops' }) (Sep.rot [_] [_, _] h2) rfl rfl
/-- a slice of the top model's operands, shorter -/
theorem tw_opsCut {n2 cc : Nat} (h : Sep w (twL t b (.slice (some ⟨g, 0, none⟩) (l.length + 1 : Nat) c) pv (x :: l) Q many ++ G) W) {ao : Option Addr} (hov : x.ov = .slice ao x.m.ops.length cc) (hn : n2 ≤ x.m.ops.length) :
    Sep w (twL t b (.slice (some ⟨g, 0, none⟩) (l.length + 1 : Nat) c) pv ({ x with ov := .slice ao n2 cc, m := x.m.withOps (x.m.ops.take n2) } :: l) Q many ++ G) (W.setCell ⟨g, l.length * 7 + 5, none⟩ (.slice ao n2 cc)) := by
  have h1 := tw_open h
  refine tw_ops (h1.rerow ?_ ?_)
  · intro b q
    rw [hov]
    cases ao with
    | none => simp [Value.ownBlock] at q
    | some a => simpa [Value.ownBlock] using q
  · have ho : W.ownsRow 0 34 2 x.ov x.m.ops.length (wcells x.m.ops) := h1.owns (List.Mem.head _)
    rw [hov] at ho
    have this : W.ownsRow 0 34 2 (.slice ao n2 cc) n2 ((wcells x.m.ops).take (n2 * 2)) := by
      rcases ho.2 with ⟨q, h0⟩ | ⟨g', cap, cur, q, _, _, hc, _⟩
      · simp only [Value.slice.injEq] at q
        obtain ⟨rfl, -, rfl⟩ := q
        obtain rfl : n2 = 0 := by omega
        simp only [Nat.zero_mul, List.take_zero]
        exact World.ownsRow_nil _ _ _ _
      · simp only [Value.slice.injEq] at q
        obtain ⟨rfl, -, rfl⟩ := q
        exact row_cut ho (m := n2) hn
    have e1 : (x.m.ops.take n2).length = n2 := by simp; omega
    have e2 := wcells_take' x.m.ops n2
    rw [e1, e2]
    exact this
end
end Go.Proofs.YtpfnnmcokbolhaaGreat
/- The twin's here. -/
namespace Go.Proofs.YtpfnnmcokbolhaaGreat
open Go.RowKit
set_option pp.deepTerms true
section
variable {w W : World} {F G : List Asr} {t b p k g c : Nat} {sz ca many : Int} {C : Ch} {lv pv : Value} {ml l : List Mv} {x : Mv} {Q : List (Int × Pf)}
set_option maxRecDepth 100000 in
set_option maxHeartbeats 1000000 in
theorem there_any (h : Sep w (twL t b lv pv ml Q many ++ G) W) (v : Int × Int) (hv : v.1 = 4 → v.2 ≤ Q.length) (hQ : Q.length ≤ 1000000) :
    Calls Tryz.prog 30 #[.pointer (some ⟨t, 0, none⟩), .agg #[.int .i64 v.1, .int .i64 v.2]] W fun e w' => Below W.heap.size W w' ∧ e = .returned (.agg #[.int .i64 (here Q v).1, .int .i64 (here Q v).2]) := by
  obtain ⟨v1, v2⟩ := v
  by_cases hp : v1 = 4 ∧ 0 < v2
  · obtain ⟨rfl, h0⟩ := hp
    obtain ⟨m, hm⟩ := Int.eq_ofNat_of_zero_le (show 0 ≤ v2 - 1 by omega)
    have hvq := hv rfl
    simp only at hvq
    have hmq : m < Q.length := by omega
    obtain rfl : v2 = ((m + 1 : Nat) : Int) := by omega
    have e1 : here Q (4, ((m + 1 : Nat) : Int)) = (4, Q[m].1) := by
      unfold here
      rw [if_pos ⟨rfl, h0⟩]
      simp [hmq]
    rw [e1]
    have eQ : Q = Q.take m ++ Q[m] :: Q.drop (m + 1) := by rw [← List.drop_eq_getElem_cons hmq, List.take_append_drop]
    have hlen : (Q.take m ++ Q[m] :: Q.drop (m + 1)).length = Q.length := by rw [← eQ]
    have h1 := h
    rw [eQ] at h1
    obtain ⟨-, -, k2, -, -⟩ := tw_k h
    obtain ⟨g, c, rfl, hc, hcs⟩ := tw_pt h1
    have hml : (Q.take m).length = m := by simp; omega
    rw [hml] at hcs
    rw [hlen] at k2 hc
    have d0 := alloc_cell (o := .cells #[.int .i64 0, .int .i64 0] 34) (alloc_cell (o := .cells #[.int .i64 4, .int .i64 ((m + 1 : Nat) : Int)] 34) (hcs 0 _ rfl))
    have d1 := alloc_cell (o := .cells #[.int .i64 0, .int .i64 0] 34) (alloc_cell (o := .cells #[.int .i64 4, .int .i64 ((m + 1 : Nat) : Int)] 34) (hcs 1 _ rfl))
    have k2 := alloc_cell (o := .cells #[.int .i64 0, .int .i64 0] 34) (alloc_cell (o := .cells #[.int .i64 4, .int .i64 ((m + 1 : Nat) : Int)] 34) k2)
    have b1 : ((W.alloc (.cells #[.int .i64 4, .int .i64 ((m + 1 : Nat) : Int)] 34)).alloc (.cells #[.int .i64 0, .int .i64 0] 34)).cell? ⟨W.heap.size, 1, none⟩ = some (.int .i64 ((m + 1 : Nat) : Int)) := alloc_cell (by simp)
    simp only [Nat.add_zero] at d0
    obtain ⟨qn, hqn⟩ : ∃ qn, Q.length = qn := ⟨_, rfl⟩
    obtain ⟨a, ha⟩ : ∃ a, Q[m].1 = a := ⟨_, rfl⟩
    rw [hqn] at k2 hc hmq hQ
    rw [ha] at d1 ⊢
    have w1 : IntKind.i64.wrap (((m + 1 : Nat) : Int) - 1) = (m : Int) := by rw [IntKind.wrap_i64]; omega
    have w2 : IntKind.i64.wrap ((m : Int) + 1 - 1) = (m : Int) := by rw [IntKind.wrap_i64]; omega
    have w3 : IntKind.i64.wrap (m : Int) = (m : Int) := by rw [IntKind.wrap_i64]; omega
    have z0 : decide (((m + 1 : Nat) : Int) > 0) = true := by simp
    have z1 : decide ((m : Int) + 1 > 0) = true := by simp
    have z2 : decide (0 < (m : Int) + 1) = true := by simp
    have hk3 : (m : Int) < (qn : Int) := by omega
    clear h h1 eQ hlen hml hcs hqn ha hvq h0 hv hm e1
    go_enter Tryz.func30, Tryz.ntmps30
    go_wp2_with fail
    refine wp_region_L 10 (fun X => X.cell? ⟨t, 2, none⟩ = some (.slice (some ⟨g, 0, none⟩) qn c) ∧ X.cell? ⟨g, m * 5, none⟩ = some (.int .i64 4) ∧ X.cell? ⟨g, m * 5 + 1, none⟩ = some (.int .i64 a) ∧ X.cell? ⟨W.heap.size, 1, none⟩ = some (.int .i64 ((m + 1 : Nat) : Int))) (by kernel_rfl) ⟨k2, d0, d1, b1⟩ (fun hHeld => ?_)
    refine wpAnyL_take (i := 0) (v := ?_) rfl (by kernel_rfl) (by kernel_rfl) (by kernel_rfl) (by kernel_rfl) (fun _ _ _ h => h) (Or.inl ⟨by rfl, ?_⟩) (by assumption) ?_
    rotate_left
    · (intro w hSw; (try dsimp only at hSw); go_simp <;> with_reducible rfl)
    (try simp only [Act.put, List.getElem_toArray, List.getElem_cons_zero, List.getElem_cons_succ, List.setIfInBounds_toArray, List.set_cons_zero, List.set_cons_succ])
    refine wpAnyL_take (i := 1) (v := ?_) rfl (by kernel_rfl) (by kernel_rfl) (by kernel_rfl) (by kernel_rfl) (fun _ _ _ h => h) (Or.inl ⟨by rfl, ?_⟩) (by assumption) ?_
    rotate_left
    · (intro w hSw; (try dsimp only at hSw); go_simp <;> with_reducible rfl)
    (try simp only [Act.put, List.getElem_toArray, List.getElem_cons_zero, List.getElem_cons_succ, List.setIfInBounds_toArray, List.set_cons_zero, List.set_cons_succ])
    refine wpAnyL_take (i := 2) (v := ?_) rfl (by kernel_rfl) (by kernel_rfl) (by kernel_rfl) (by kernel_rfl) (fun _ _ _ h => h) (Or.inl ⟨by rfl, ?_⟩) (by assumption) ?_
    rotate_left
    · (intro w hSw; (try dsimp only at hSw); go_simp <;> with_reducible rfl)
    (try simp only [Act.put, List.getElem_toArray, List.getElem_cons_zero, List.getElem_cons_succ, List.setIfInBounds_toArray, List.set_cons_zero, List.set_cons_succ])
    refine wpAnyL_take (i := 3) (v := ?_) rfl (by kernel_rfl) (by kernel_rfl) (by kernel_rfl) (by kernel_rfl) (fun _ _ _ h => h) (Or.inl ⟨by rfl, ?_⟩) (by assumption) ?_
    rotate_left
    · (intro w hSw; (try dsimp only at hSw); go_simp <;> with_reducible rfl)
    (try simp only [Act.put, List.getElem_toArray, List.getElem_cons_zero, List.getElem_cons_succ, List.setIfInBounds_toArray, List.set_cons_zero, List.set_cons_succ])
    refine wpAnyL_take (i := 4) (v := ?_) rfl (by kernel_rfl) (by kernel_rfl) (by kernel_rfl) (by kernel_rfl) (fun _ _ _ h => h) (Or.inl ⟨by rfl, ?_⟩) (by assumption) ?_
    rotate_left
    · (intro w hSw; (try dsimp only at hSw); go_simp <;> with_reducible rfl)
    (try simp only [Act.put, List.getElem_toArray, List.getElem_cons_zero, List.getElem_cons_succ, List.setIfInBounds_toArray, List.set_cons_zero, List.set_cons_succ])
    refine wpAnyL_take (i := 5) (v := ?_) rfl (by kernel_rfl) (by kernel_rfl) (by kernel_rfl) (by kernel_rfl) (fun _ _ _ h => h) (Or.inl ⟨by rfl, ?_⟩) (by assumption) ?_
    rotate_left
    · (intro w hSw; (try dsimp only at hSw); go_simp <;> with_reducible rfl)
    (try simp only [Act.put, List.getElem_toArray, List.getElem_cons_zero, List.getElem_cons_succ, List.setIfInBounds_toArray, List.set_cons_zero, List.set_cons_succ])
    refine wpAnyL_take (i := 6) (v := ?_) rfl (by kernel_rfl) (by kernel_rfl) (by kernel_rfl) (by kernel_rfl) (fun _ _ _ h => h) (Or.inl ⟨by rfl, ?_⟩) (by assumption) ?_
    rotate_left
    · (intro w hSw; (try dsimp only at hSw); go_simp <;> with_reducible rfl)
    (try simp only [Act.put, List.getElem_toArray, List.getElem_cons_zero, List.getElem_cons_succ, List.setIfInBounds_toArray, List.set_cons_zero, List.set_cons_succ])
    refine wpAnyL_take (i := 7) (v := ?_) rfl (by kernel_rfl) (by kernel_rfl) (by kernel_rfl) (by kernel_rfl) (fun _ _ _ h => h) (Or.inl ⟨by rfl, ?_⟩) (by assumption) ?_
    rotate_left
    · (intro w hSw; (try dsimp only at hSw); go_simp <;> with_reducible rfl)
    (try simp only [Act.put, List.getElem_toArray, List.getElem_cons_zero, List.getElem_cons_succ, List.setIfInBounds_toArray, List.set_cons_zero, List.set_cons_succ])
    refine wpAnyL_take (i := 8) (v := ?_) rfl (by kernel_rfl) (by kernel_rfl) (by kernel_rfl) (by kernel_rfl) (fun _ _ _ h => h) (Or.inl ⟨by rfl, ?_⟩) (by assumption) ?_
    rotate_left
    · (intro w hSw; (try dsimp only at hSw); go_simp <;> with_reducible rfl)
    (try simp only [Act.put, List.getElem_toArray, List.getElem_cons_zero, List.getElem_cons_succ, List.setIfInBounds_toArray, List.set_cons_zero, List.set_cons_succ])
    refine wpAnyL_take (i := 9) (v := ?_) rfl (by kernel_rfl) (by kernel_rfl) (by kernel_rfl) (by kernel_rfl) (fun _ _ _ h => h) (Or.inl ⟨by rfl, ?_⟩) (by assumption) ?_
    rotate_left
    · (intro w hSw; (try dsimp only at hSw); go_simp <;> with_reducible rfl)
    (try simp only [Act.put, List.getElem_toArray, List.getElem_cons_zero, List.getElem_cons_succ, List.setIfInBounds_toArray, List.set_cons_zero, List.set_cons_succ])
    refine wpAnyL_only (i := 10) (by kernel_rfl) rfl (fun K hK => ?_)
    go_simp
    refine hK _ _ (fun q => by cases q) (fun hHeld0 => ?_)
    clear hK K hHeld0
    refine wpAnyL_done (by kernel_rfl) ?_
    go_wp2_with fail
    refine bodyPost_ret (v := .agg #[.int .i64 4, .int .i64 a]) (by simp [results, Tryz.results30, go_sem]) rfl ⟨?_, rfl⟩
    exact (((Below.refl _ _).alloc (Nat.le_refl _) _).alloc (by simp) _).drew
  · have e1 : here Q (v1, v2) = (v1, v2) := by unfold here; rw [if_neg hp]
    rw [e1]
    by_cases q : v1 = 4
    · have z0 : (v1 == 4) = true := by simpa using q
      have z1 : decide (v2 > 0) = false := by simp; omega
      have z2 : decide (0 < v2) = false := by simp; omega
      clear h hp q e1 hv
      go_enter Tryz.func30, Tryz.ntmps30
      go_wp2_with fail
      refine bodyPost_ret (v := .agg #[.int .i64 v1, .int .i64 v2]) (by simp [results, Tryz.results30, go_sem]) rfl ⟨?_, rfl⟩
      exact ((Below.refl _ _).alloc (Nat.le_refl _) _).alloc (by simp) _
    · have z0 : (v1 == 4) = false := by simpa using q
      clear h hp q e1 hv
      go_enter Tryz.func30, Tryz.ntmps30
      go_wp2_with fail
      refine bodyPost_ret (v := .agg #[.int .i64 v1, .int .i64 v2]) (by simp [results, Tryz.results30, go_sem]) rfl ⟨?_, rfl⟩
      exact ((Below.refl _ _).alloc (Nat.le_refl _) _).alloc (by simp) _
end
end Go.Proofs.YtpfnnmcokbolhaaGreat
/- The document's Copy of a layout. -/
namespace Go.Proofs.YtpfnnmcokbolhaaGreat
open Go.RowKit
set_option pp.deepTerms true
section
variable {w W : World} {F G : List Asr}
set_option maxRecDepth 100000 in
set_option maxHeartbeats 1000000 in
theorem copy22_any (h : Sep w F W) {sv : Value} {l : Lay} (hs : Rdi W sv l.slots) (hn : l.slots.length ≤ 100000) : Calls Tryz.prog 56 #[layV sv l] W fun e w' => ∃ v', Sep w (rw_ 0 3 1 v' l.slots.length (icells l.slots) :: F) w' ∧ Below W.heap.size W w' ∧ e = .returned (layV v' l) := by
  obtain ⟨i0, hi, hz0, hz1, hz2⟩ := info_parts infoI
  obtain ⟨ls, la, lr, lh⟩ := l
  simp only at hs hn
  have hB := ((Below.refl W.heap.size W).alloc (Nat.le_refl _) (layO sv ⟨ls, la, lr, lh⟩)).alloc (by simp) (.cells #[.slice none 0 0, .int .i64 0, .int .i64 0, .int .i64 0] 31)
  have hrow : ∀ X v', Below W.heap.size W X → X.ownsRow W.heap.size 3 1 v' ls.length (icells ls) → Sep w (rw_ 0 3 1 v' ls.length (icells ls) :: F) X := fun X v' hb hr => h.row hb hr
  have HROW := Hid.mk hrow
  unfold layV
  have HO : Hid (∀ X : World, X.ownsRow W.heap.size 3 1 (.slice none 0 0) 0 []) := fun X => World.ownsRow_nil _ _ _ _
  rcases hs.ad with ⟨rfl, e2⟩ | ⟨ad, c2, rfl, hcs⟩
  · subst e2
    clear h hrow
    go_enter Tryz.func56, Tryz.ntmps56
    go_wp2_with fail
    refine bodyPost_ret (v := .agg #[.slice none 0 0, .int .i64 la, .int .i64 lr, .int .i64 lh]) (by simp [results, Tryz.results56, go_sem]) rfl ⟨_, HROW.out _ _ ?_ (HO.out _), ?_, rfl⟩
    · exact ((Below.refl _ _).alloc (Nat.le_refl _) _).alloc (by simp) _
    · exact ((Below.refl _ _).alloc (Nat.le_refl _) _).alloc (by simp) _
  · simp only at hcs ⊢
    have HNW : Hid (∀ j u, (icells ls)[j]? = some u → ((W.alloc (layO (.slice (some ad) ls.length c2) ⟨ls, la, lr, lh⟩)).alloc (.cells #[.slice none 0 0, .int .i64 0, .int .i64 0, .int .i64 0] 31)).cell? (ad.add j) = some u) := fun j u hu => alloc_cell (alloc_cell (hcs j u hu))
    have HLN : Hid ((icells ls).length = ls.length * 1) := by unfold Hid; simp [icells]
    have c0 : ((W.alloc (layO (.slice (some ad) ls.length c2) ⟨ls, la, lr, lh⟩)).alloc (.cells #[.slice none 0 0, .int .i64 0, .int .i64 0, .int .i64 0] 31)).cell? ⟨W.heap.size, 0, none⟩ = some (.slice (some ad) ls.length c2) := alloc_cell (by simp [layO])
    have h0 : ∀ {w F}, Sep w F W → Sep w (bx (W.heap.size + 1) (.cells #[.slice none 0 0, .int .i64 0, .int .i64 0, .int .i64 0] 31) :: bx W.heap.size (layO (.slice (some ad) ls.length c2) ⟨ls, la, lr, lh⟩) :: F) ((W.alloc (layO (.slice (some ad) ls.length c2) ⟨ls, la, lr, lh⟩)).alloc (.cells #[.slice none 0 0, .int .i64 0, .int .i64 0, .int .i64 0] 31)) := fun q => by
      have := (q.alloc (layO (.slice (some ad) ls.length c2) ⟨ls, la, lr, lh⟩)).alloc (.cells #[.slice none 0 0, .int .i64 0, .int .i64 0, .int .i64 0] 31)
      simpa using this
    have H0 : Hid (∀ {w F}, Sep w F W → _) := @h0
    have HS := Hid.mk h
    clear h hrow hcs h0 HROW hB
    obtain ⟨n, hn0⟩ : ∃ n, ls.length = n := ⟨_, rfl⟩
    rw [hn0] at hn HLN HNW c0 H0 ⊢
    go_enter Tryz.func56, Tryz.ntmps56
    go_wp2_with (at_builtin; refine wpList_append_own _ rfl (.tmp 4) (.tmp 6) 29 rfl (W.heap.size + 1 + 1) 3 i0 (.int .i64 0) 1 8 Tryz.underlying29 hi hz0 hz1 hz2 rfl (by decide) _ 0 [] rfl (World.ownsRow_nil _ _ _ _) ad n c2 (icells ls) rfl ?c1 ?c2 ?c3 ?c4 ?c5 ?c6 ?_)
    case c1 => exact HLN.out
    case c2 => exact HNW.out
    case c3 => intro u hu; obtain ⟨x, -, rfl⟩ := List.mem_map.1 hu; rfl
    case c4 => unfold maxLen; omega
    case c5 => omega
    case c6 => simp
    intro v' w' hown hgrow hnn
    obtain ⟨ao2, cc2, rfl⟩ := own_shape hown
    have hb : Below (W.heap.size + 1 + 1) ((W.alloc (layO (.slice (some ad) n c2) ⟨ls, la, lr, lh⟩)).alloc (.cells #[.slice none 0 0, .int .i64 0, .int .i64 0, .int .i64 0] 31)) w' := (Below.refl _ _).grown hgrow (by simp) (by intro k hk; simp [Value.ownBlock] at hk)
    have h1 : ∀ {w F}, Sep w F W → Sep w (rw_ 0 3 1 (.slice ao2 (0 + n) cc2) n (icells ls) :: bx (W.heap.size + 1) (.cells #[.slice none 0 0, .int .i64 0, .int .i64 0, .int .i64 0] 31) :: bx W.heap.size (layO (.slice (some ad) n c2) ⟨ls, la, lr, lh⟩) :: F) w' := fun q => (H0.out q).row (by simpa using hb) (by simpa using hown)
    have hx := h1 (Sep.nil (Below.refl W.heap.size W))
    have r0 := Sep.at hx (b := W.heap.size + 1) (o := .cells #[.slice none 0 0, .int .i64 0, .int .i64 0, .int .i64 0] 31) (by simp)
    obtain ⟨d0, d1, d2, d3⟩ := layO_cells (q := W.heap.size) (v := .slice (some ad) n c2) (f := ⟨ls, la, lr, lh⟩) hx (by simp)
    have z0 := fun j => Sep.free hx (b := W.heap.size) (cs := #[.slice (some ad) n c2, .int .i64 la, .int .i64 lr, .int .i64 lh]) (T := 31) (by simp [layO]) j
    have z1 := fun j => Sep.free hx (b := W.heap.size + 1) (cs := #[.slice none 0 0, .int .i64 0, .int .i64 0, .int .i64 0]) (T := 31) (by simp) j
    have y0 : w'.cell? ⟨W.heap.size + 1, 0, none⟩ = some (.slice none 0 0) := by rw [cell_of_row _ _ 0 _ _ _ r0]; rfl
    have y1 : w'.cell? ⟨W.heap.size + 1, 1, none⟩ = some (.int .i64 0) := by rw [cell_of_row _ _ 1 _ _ _ r0]; rfl
    have y2 : w'.cell? ⟨W.heap.size + 1, 2, none⟩ = some (.int .i64 0) := by rw [cell_of_row _ _ 2 _ _ _ r0]; rfl
    have y3 : w'.cell? ⟨W.heap.size + 1, 3, none⟩ = some (.int .i64 0) := by rw [cell_of_row _ _ 3 _ _ _ r0]; rfl
    have H1 : Hid (∀ {w F}, Sep w F W → Sep w (rw_ 0 3 1 (.slice ao2 (0 + n) cc2) n (icells ls) :: bx (W.heap.size + 1) (.cells #[.slice none 0 0, .int .i64 0, .int .i64 0, .int .i64 0] 31) :: bx W.heap.size (layO (.slice (some ad) n c2) ⟨ls, la, lr, lh⟩) :: F) w') := @h1
    have h2 : ∀ {w F}, Sep w F W → Sep w (rw_ 0 3 1 (.slice ao2 n cc2) n (icells ls) :: F) (((((w'.setCell ⟨W.heap.size, 0, none⟩ (.slice ao2 n cc2)).setCell ⟨W.heap.size + 1, 0, none⟩ (.slice ao2 n cc2)).setCell ⟨W.heap.size + 1, 1, none⟩ (.int .i64 la)).setCell ⟨W.heap.size + 1, 2, none⟩ (.int .i64 lr)).setCell ⟨W.heap.size + 1, 3, none⟩ (.int .i64 lh)) := fun q => by
      have q1 := H1.out q
      rw [Nat.zero_add] at q1
      have q2 := Sep.store (Sep.pick 2 q1 rfl) 0 (.slice ao2 n cc2)
      have q3 := Sep.store (Sep.store (Sep.store (Sep.store (Sep.pick 2 q2 rfl) 0 (.slice ao2 n cc2)) 1 (.int .i64 la)) 2 (.int .i64 lr)) 3 (.int .i64 lh)
      exact Sep.lose 0 (Sep.lose 0 q3)
    have H2 : Hid (∀ {w F}, Sep w F W → Sep w (rw_ 0 3 1 (.slice ao2 n cc2) n (icells ls) :: F) (((((w'.setCell ⟨W.heap.size, 0, none⟩ (.slice ao2 n cc2)).setCell ⟨W.heap.size + 1, 0, none⟩ (.slice ao2 n cc2)).setCell ⟨W.heap.size + 1, 1, none⟩ (.int .i64 la)).setCell ⟨W.heap.size + 1, 2, none⟩ (.int .i64 lr)).setCell ⟨W.heap.size + 1, 3, none⟩ (.int .i64 lh))) := @h2
    clear h2
    clear H0 HNW HLN h1 hb hown hgrow hnn c0 hx r0
    go_wp2_with fail
    refine bodyPost_ret (v := .agg #[.slice ao2 n cc2, .int .i64 la, .int .i64 lr, .int .i64 lh]) ?_ rfl ⟨_, H2.out HS.out, ?_, rfl⟩
    · simp [results, Tryz.results56, go_sem, y0, y1, y2, y3]
    · exact (H2.out (Sep.nil (Below.refl W.heap.size W))).size
end
end Go.Proofs.YtpfnnmcokbolhaaGreat
/- Appends, of whatever is read, nil or not. -/
namespace Go.Proofs.YtpfnnmcokbolhaaGreat
open Go.RowKit
set_option pp.deepTerms true
/-- what is appended -/
def AppArg (w : World) (x : Value) (m size : Nat) (news : List Value) : Prop :=
  news.length = m * size ∧ (∀ u ∈ news, u.oneCell' = true) ∧ ((x = .slice none 0 0 ∧ m = 0) ∨ ∃ ad c, x = .slice (some ad) m c ∧ ∀ j u, news[j]? = some u → w.cell? (ad.add j) = some u)
theorem Rd.app {w : World} {v : Value} {xs : List (Int × Int)} (h : Rd w v xs) : AppArg w v xs.length 2 (wcells xs) := by
  refine ⟨wcells_len xs, fun u hu => ?_, ?_⟩
  · obtain ⟨x, -, hx⟩ := List.mem_flatMap.1 hu
    simp only [wcell, List.mem_cons, List.not_mem_nil, or_false] at hx
    rcases hx with rfl | rfl <;> rfl
  · rcases h with ⟨rfl, rfl⟩ | ⟨b, o, c, rfl, hb, hc⟩
    · exact .inl ⟨rfl, rfl⟩
    · refine .inr ⟨_, _, rfl, fun j u hu => ?_⟩
      have hl := (List.getElem?_eq_some_iff.1 hu).1
      rw [wcells_len] at hl
      have hadd : (⟨b, o, none⟩ : Addr).add j = ⟨b, o + j, none⟩ := by cases j <;> simp [Addr.add]
      rw [hadd]
      have hi : j / 2 < xs.length := by omega
      rcases Nat.mod_two_eq_zero_or_one j with q | q
      · have e : j = j / 2 * 2 := by omega
        rw [e] at hu ⊢
        rw [wcells_fst hi] at hu
        rw [(hc _ hi).1]
        exact hu
      · have e : j = j / 2 * 2 + 1 := by omega
        rw [e] at hu ⊢
        rw [wcells_snd hi] at hu
        have := (hc _ hi).2
        rw [Nat.add_assoc] at this
        rw [this]
        exact hu
theorem Rdi.app {w : World} {v : Value} {xs : List Int} (h : Rdi w v xs) : AppArg w v xs.length 1 (icells xs) := by
  refine ⟨by simp [icells], fun u hu => ?_, ?_⟩
  · obtain ⟨x, -, rfl⟩ := List.mem_map.1 hu
    rfl
  · rcases h.ad with ⟨rfl, rfl⟩ | ⟨ad, c, rfl, hc⟩
    · exact .inl ⟨rfl, rfl⟩
    · exact .inr ⟨_, _, rfl, hc⟩
/-- one thing, in a block of its own -/
theorem AppArg.one {w : World} {B : Nat} {cs : Array Value} {T : TypeId} {fr : Nat × Nat} {c n : Nat} (hb : w.heap[B]? = some (.cells cs T fr)) (hn : cs.size = n) (h1 : ∀ u ∈ cs.toList, u.oneCell' = true) : AppArg w (.slice (some ⟨B, 0, none⟩) 1 c) 1 n cs.toList :=
  ⟨by simp [hn], h1, .inr ⟨_, _, rfl, fun j u hu => by
    have hadd : (⟨B, 0, none⟩ : Addr).add j = ⟨B, j, none⟩ := by cases j <;> simp [Addr.add]
    rw [hadd, cell_of_row w B j cs T fr hb]
    simpa using hu⟩⟩
theorem AppArg.below {w w' : World} {x : Value} {m size : Nat} {news : List Value} (h : AppArg w x m size news) (k : Below w.heap.size w w') : AppArg w' x m size news :=
  ⟨h.1, h.2.1, h.2.2.elim .inl (fun ⟨ad, c, e, q⟩ => .inr ⟨ad, c, e, fun j u hu => (k.cell (cell_lt (q j u hu))).trans (q j u hu)⟩)⟩
section
variable {P : Program} (w : World)
theorem wp_append_x {o : Oper} {a : Act} {K : Act → World → Prop} {Q : Exit → Act → World → Prop} (s x : Operand) (t : TypeId)
    (ho : o.op = .call { callee := .builtin .append, args := #[s, x], argTypes := #[t, t] })
    (base : Nat) (e : TypeId) (i : TypeInfo) (z : Value) (size bytes : Nat) (ht : P.underlying t = some (.slice e)) (hi : P.info? e = some i) (hz : i.zero = some z)
    (hsize : i.size = size) (hby : i.bytes = bytes) (hzs : z.cells.size = size) (hsz : 0 < size)
    (v : Value) (n : Nat) (xs : List Value) (hs : a.eval s = v) (hown : w.ownsRow base e size v n xs)
    (m : Nat) (news : List Value) (xv : Value) (hxv : a.eval x = xv) (hx : AppArg w xv m size news)
    (h63 : n + m ≤ maxLen) (hbytes : (n + m) * bytes ≤ 140737488355328) (hbase : base ≤ w.heap.size)
    (h : ∀ ao cap w', w'.ownsRow base e size (.slice ao (n + m) cap) (n + m) (xs ++ news) → w.grownBy w' v.ownBlock → ((Value.slice ao (n + m) cap).ownBlock = v.ownBlock ∨ (Value.slice ao (n + m) cap).ownBlock = some w.heap.size) → K (a.put o.dst (.slice ao (n + m) cap)) w') : o.wp P a w K Q := by
  obtain ⟨hl, h1, hx⟩ := hx
  rw [← hxv] at hx
  rcases hx with ⟨hx, rfl⟩ | ⟨ad, c, hx, hnews⟩
  · have hr := run_append_owned_none (P := P) (w := w) base t o.type e i size ht hi v n xs hown
    have hn0 : news = [] := List.eq_nil_of_length_eq_zero (by rw [hl]; simp)
    subst hn0
    obtain ⟨ao, cap, rfl⟩ := own_shape hown
    have := h ao cap w (by simpa using hown) ⟨rfl, rfl, rfl, Nat.le_refl _, fun _ _ _ => rfl⟩ (.inl (by simp [Value.ownBlock]))
    unfold Oper.wp execOp
    simp only [ho, resolve, invoke, builtin, Sem.run_bind, Sem.run_pure, Result.andThen_ok, List.map_toArray, List.map_cons, List.map_nil, hs, hx, hr]
    have this' : K (a.put o.dst (.slice ao n cap)) w := by simpa using this
    exact this'
  · obtain ⟨v', w', hr, h2, h3, -, h5⟩ := run_append_own_at (P := P) w base t o.type e i z size bytes ht hi hz hsize hby hzs hsz v n xs hown ad m c news hl hnews h1 h63 hbytes hbase
    obtain ⟨ao, cap, rfl⟩ := own_shape h2
    unfold Oper.wp execOp
    simp only [ho, resolve, invoke, builtin, Sem.run_bind, Sem.run_pure, Result.andThen_ok, List.map_toArray, List.map_cons, List.map_nil, hs, hx, hr]
    exact h ao cap w' h2 h3 h5
theorem wpList_append_x {ops : Array Oper} {rest : List Oper} {o : Oper} {a : Act} {Q : Exit → Act → World → Prop} (hgd : o.guard = none) (s x : Operand) (t : TypeId)
    (ho : o.op = .call { callee := .builtin .append, args := #[s, x], argTypes := #[t, t] })
    (base : Nat) (e : TypeId) (i : TypeInfo) (z : Value) (size bytes : Nat) (ht : P.underlying t = some (.slice e)) (hi : P.info? e = some i) (hz : i.zero = some z)
    (hsize : i.size = size) (hby : i.bytes = bytes) (hzs : z.cells.size = size) (hsz : 0 < size)
    (v : Value) (n : Nat) (xs : List Value) (hs : a.eval s = v) (hown : w.ownsRow base e size v n xs)
    (m : Nat) (news : List Value) (xv : Value) (hxv : a.eval x = xv) (hx : AppArg w xv m size news)
    (h63 : n + m ≤ maxLen) (hbytes : (n + m) * bytes ≤ 140737488355328) (hbase : base ≤ w.heap.size)
    (h : ∀ ao cap w', w'.ownsRow base e size (.slice ao (n + m) cap) (n + m) (xs ++ news) → w.grownBy w' v.ownBlock → ((Value.slice ao (n + m) cap).ownBlock = v.ownBlock ∨ (Value.slice ao (n + m) cap).ownBlock = some w.heap.size) → wpList P ops Q rest (a.put o.dst (.slice ao (n + m) cap)) w') : wpList P ops Q (o :: rest) a w :=
  wpList_plain hgd fun _ hK => wp_append_x w s x t ho base e i z size bytes ht hi hz hsize hby hzs hsz v n xs hs hown m news xv hxv hx h63 hbytes hbase fun ao cap w' h2 h3 h4 => hK _ _ (h ao cap w' h2 h3 h4)
theorem step_append_x {ops : Array Oper} {o : Oper} {a : Act} {K : Act → World → Prop} {Q : Exit → Act → World → Prop} {E : Prop} (hgd : o.guard = none) (s x : Operand) (t : TypeId)
    (ho : o.op = .call { callee := .builtin .append, args := #[s, x], argTypes := #[t, t] })
    (base : Nat) (e : TypeId) (i : TypeInfo) (z : Value) (size bytes : Nat) (ht : P.underlying t = some (.slice e)) (hi : P.info? e = some i) (hz : i.zero = some z)
    (hsize : i.size = size) (hby : i.bytes = bytes) (hzs : z.cells.size = size) (hsz : 0 < size)
    (v : Value) (n : Nat) (xs : List Value) (hs : a.eval s = v) (hown : w.ownsRow base e size v n xs)
    (m : Nat) (news : List Value) (xv : Value) (hxv : a.eval x = xv) (hx : AppArg w xv m size news)
    (h63 : n + m ≤ maxLen) (hbytes : (n + m) * bytes ≤ 140737488355328) (hbase : base ≤ w.heap.size)
    (h : ∀ ao cap w', w'.ownsRow base e size (.slice ao (n + m) cap) (n + m) (xs ++ news) → w.grownBy w' v.ownBlock → ((Value.slice ao (n + m) cap).ownBlock = v.ownBlock ∨ (Value.slice ao (n + m) cap).ownBlock = some w.heap.size) → K (a.put o.dst (.slice ao (n + m) cap)) w') :
    if Region.wanted o (yielded ops a.tmps) = true then Oper.wp P o a w K Q else E := by
  have hw : Region.wanted o (yielded ops a.tmps) = true := by simp [Region.wanted, hgd]
  rw [if_pos hw]
  exact wp_append_x w s x t ho base e i z size bytes ht hi hz hsize hby hzs hsz v n xs hs hown m news xv hxv hx h63 hbytes hbase h
end
section
variable {w W w2 : World} {F : List Asr}
/-- an append to a row of the call's own -/
theorem Sep.app {base : Nat} {T : TypeId} {n : Nat} {v : Value} {k m : Nat} {xs news : List Value} {ao : Option Addr} {cap : Nat} (h : Sep w (rw_ base T n v k xs :: F) W) (hown : w2.ownsRow base T n (.slice ao (k + m) cap) (k + m) (xs ++ news)) (hg : W.grownBy w2 v.ownBlock)
    (hat : (Value.slice ao (k + m) cap).ownBlock = v.ownBlock ∨ (Value.slice ao (k + m) cap).ownBlock = some W.heap.size) : Sep w (rw_ base T n (.slice ao (k + m) cap) (k + m) (xs ++ news) :: F) w2 := h.grown' hown hg hat
end
theorem infoM : (Tryz.prog.info? 56).map (fun i => (i.zero, i.size, i.bytes)) = some (some (.agg #[.slice none 0 0, .int .i64 0, .int .i64 0, .int .i64 0, .slice none 0 0, .slice none 0 0, .int .i64 0]), 7, 104) := by kernel_rfl
theorem infoP : (Tryz.prog.info? 115).map (fun i => (i.zero, i.size, i.bytes)) = some (some (.agg #[.int .i64 0, .int .i64 0, .int .i64 0, .int .i64 0, .int .i64 0]), 5, 40) := by kernel_rfl
end Go.Proofs.YtpfnnmcokbolhaaGreat
