/- Parts Ue, put together. -/
import Derived.Test.YtpfnnmcokbolhaaGreatMd17
/- The twin's begun. -/
namespace Go.Proofs.YtpfnnmcokbolhaaGreat
open Go.RowKit
set_option pp.deepTerms true
section
variable {w W : World} {F G : List Asr} {t b p k g c : Nat} {sz ca many : Int} {C : Ch} {lv pv : Value} {ml l : List Mv} {x : Mv} {Q : List (Int × Pf)}
theorem tw_many (h : Sep w (twL t b lv pv ml Q many ++ G) W) (n : Int) : Sep w (twL t b lv pv ml Q n ++ G) (W.setCell ⟨t, 3, none⟩ (.int .i64 n)) := Sep.store h 3 (.int .i64 n)
theorem Sep.lit (h : Sep w F W) (T : TypeId) (n : Nat) : Sep w (rw_ 0 T n (.slice (some ⟨W.heap.size, 0, none⟩) 0 0) 0 [] :: F) (W.alloc (.cells #[] T)) :=
  h.row ((Below.refl _ _).alloc (Nat.le_refl _) _) (World.ownsRow_lit W (base := W.heap.size) (e := T) (size := n) #[] 0 (Nat.le_refl _) (by decide) (by simp))
def mdO (v1 : Value) (l : Lay) (v2 : Value) (n : Int) : Obj := .cells #[v1, .int .i64 l.args, .int .i64 l.res, .int .i64 l.height, v2, .slice none 0 0, .int .i64 n] 56 (0, 0)
/-- begun's parts: what is made in whatever order, the twin, the layout's box -/
def stP (P1 P2 P3 : Asr) (T : List Asr) (B : Nat) (sv : Value) (l : Lay) (G : List Asr) : List Asr := P1 :: P2 :: P3 :: (T ++ (bx B (layO sv l) :: G))
section
variable {P1 P2 P3 : Asr} {T : List Asr} {B q : Nat} {sv : Value} {la : Lay}
theorem st_G (h : Sep w (stP P1 P2 P3 T B sv la G) W) : Sep w G W := Sep.sub h (List.Sublist.cons _ (List.Sublist.cons _ (List.Sublist.cons _ ((List.sublist_cons_self _ _).trans (List.sublist_append_right _ _)))))
theorem st_S (h : Sep w (stP P1 P2 P3 (twL t b lv pv ml Q many) B sv la G) W) : W.cell? ⟨B, 0, none⟩ = some sv ∧ W.cell? ⟨B, 1, none⟩ = some (.int .i64 la.args) ∧ W.cell? ⟨B, 2, none⟩ = some (.int .i64 la.res) ∧ W.cell? ⟨B, 3, none⟩ = some (.int .i64 la.height) ∧ W.cell? ⟨t, 3, none⟩ = some (.int .i64 many) := by
  obtain ⟨d0, d1, d2, d3⟩ := layO_cells (q := B) (v := sv) (f := la) h (by simp [stP])
  exact ⟨d0, d1, d2, d3, (tw_k (Sep.sub h ((List.sublist_cons_self _ _).trans ((List.sublist_cons_self _ _).trans (List.sublist_cons_self _ _))))).2.2.2.1⟩
theorem st_call (h : Sep w (stP P1 P2 P3 T B sv la G) W) (hs : Rdi W sv la.slots) (hn : la.slots.length ≤ 100000) : Calls Tryz.prog 56 #[layV sv la] W fun e w' => ∃ a2 c2, Sep w (stP (rw_ 0 3 1 (.slice a2 la.slots.length c2) la.slots.length (icells la.slots)) P2 P3 T B sv la G) w' ∧ e = .returned (.agg #[.slice a2 la.slots.length c2, .int .i64 la.args, .int .i64 la.res, .int .i64 la.height]) := by
  refine (copy22_any h hs hn).mono ?_
  rintro e w' ⟨v', h1, -, rfl⟩
  obtain ⟨a2, c2, rfl⟩ := own_shape (Sep.owns h1 (List.Mem.head _))
  exact ⟨a2, c2, Sep.lose 1 h1, rfl⟩
theorem st_lit (h : Sep w (stP P1 P2 P3 T B sv la G) W) : Sep w (stP P1 (rw_ 0 34 2 (.slice (some ⟨W.heap.size, 0, none⟩) 0 0) 0 []) P3 T B sv la G) (W.alloc (.cells #[] 34)) := by
  have h1 := Sep.lose 2 (Sep.lit h 34 2)
  exact h1.perm (List.Perm.swap _ _ _)
theorem st_row {v : Value} {n : Nat} {xs : List Value} (h : Sep w (stP P1 (rw_ 0 34 2 v n xs) P3 T B sv la G) W) : W.ownsRow 0 34 2 v n xs := Sep.owns h (List.Mem.tail _ (List.Mem.head _))
theorem st_app {w2 : World} {v : Value} {n m : Nat} {xs news : List Value} {ao : Option Addr} {cap : Nat} (h : Sep w (stP P1 (rw_ 0 34 2 v n xs) P3 T B sv la G) W) (hown : w2.ownsRow 0 34 2 (.slice ao (n + m) cap) (n + m) (xs ++ news)) (hg : W.grownBy w2 v.ownBlock)
    (hat : (Value.slice ao (n + m) cap).ownBlock = v.ownBlock ∨ (Value.slice ao (n + m) cap).ownBlock = some W.heap.size) : Sep w (stP P1 (rw_ 0 34 2 (.slice ao (n + m) cap) (n + m) (xs ++ news)) P3 T B sv la G) w2 := by
  have h1 := Sep.app (Sep.pick 1 h rfl) hown hg hat
  exact h1.perm (List.Perm.swap _ _ _)
theorem st_alloc (h : Sep w (stP P1 P2 P3 T B sv la G) W) (o : Obj) : Sep w (stP P1 P2 (bx W.heap.size o) T B sv la G) (W.alloc o) := by
  have h1 := Sep.lose 3 (h.alloc o)
  exact Sep.rot [_] [_, _] h1
theorem st_end (h : Sep w (stP P1 P2 (bx q (.cells #[.slice none 0 0, .int .i64 0, .int .i64 0, .int .i64 0, .slice none 0 0, .slice none 0 0, .int .i64 0] 56)) T B sv la G) W) (v1 : Value) (l2 : Lay) (v2 : Value) (n : Int) :
    Hid (Sep w (stP P1 P2 (bx q (mdO v1 l2 v2 n)) T B sv la G) (((((((W.setCell ⟨q, 0, none⟩ v1).setCell ⟨q, 1, none⟩ (.int .i64 l2.args)).setCell ⟨q, 2, none⟩ (.int .i64 l2.res)).setCell ⟨q, 3, none⟩ (.int .i64 l2.height)).setCell ⟨q, 4, none⟩ v2).setCell ⟨q, 5, none⟩ (.slice none 0 0)).setCell ⟨q, 6, none⟩ (.int .i64 n))) ∧
    (∀ j, W.frozen? ⟨q, j, none⟩ = false) ∧ W.cell? ⟨q, 0, none⟩ = some (.slice none 0 0) ∧ W.cell? ⟨q, 1, none⟩ = some (.int .i64 0) ∧ W.cell? ⟨q, 2, none⟩ = some (.int .i64 0) ∧ W.cell? ⟨q, 3, none⟩ = some (.int .i64 0) ∧ W.cell? ⟨q, 4, none⟩ = some (.slice none 0 0) ∧ W.cell? ⟨q, 5, none⟩ = some (.slice none 0 0) ∧ W.cell? ⟨q, 6, none⟩ = some (.int .i64 0) := by
  have hm : bx q (.cells #[.slice none 0 0, .int .i64 0, .int .i64 0, .int .i64 0, .slice none 0 0, .slice none 0 0, .int .i64 0] 56) ∈ stP P1 P2 (bx q (.cells #[.slice none 0 0, .int .i64 0, .int .i64 0, .int .i64 0, .slice none 0 0, .slice none 0 0, .int .i64 0] 56)) T B sv la G := by simp [stP]
  have B1 := Sep.at h hm
  refine ⟨?_, fun j => Sep.free h hm j, ?_, ?_, ?_, ?_, ?_, ?_, ?_⟩
  · have h1 := Sep.store (Sep.store (Sep.store (Sep.store (Sep.store (Sep.store (Sep.store (Sep.pick 2 h rfl) 0 v1) 1 (.int .i64 l2.args)) 2 (.int .i64 l2.res)) 3 (.int .i64 l2.height)) 4 v2) 5 (.slice none 0 0)) 6 (.int .i64 n)
    exact Sep.rot [_] [_, _] h1
  all_goals (rw [cell_of_row _ _ _ _ _ _ B1]; rfl)
end
theorem bg_G {x1 x2 x3 : Asr} {T : List Asr} {B : Nat} {o : Obj} (h : Sep w (x1 :: x2 :: x3 :: (T ++ (bx B o :: G))) W) : Sep w G W := Sep.sub h (List.Sublist.cons _ (List.Sublist.cons _ (List.Sublist.cons _ ((List.sublist_cons_self _ _).trans (List.sublist_append_right _ _)))))
theorem wcells_snoc (vs : List (Int × Int)) (v : Int × Int) : wcells (vs ++ [v]) = wcells vs ++ [.int .i64 v.1, .int .i64 v.2] := by simp [wcells, wcell]
theorem bg_row {x2 : Asr} {v2 : Value} {k : Nat} {vs : List (Int × Int)} (h : Sep w (vrow v2 vs :: x2 :: F) W) (hk : vs.length = k) : W.ownsRow 0 34 2 v2 k (wcells vs) := by
  rw [← hk]
  exact Sep.owns h (List.Mem.head _)
theorem bg_step {q k : Nat} {v1 v2 : Value} {la : Lay} {kk : Int} {vs : List (Int × Int)} {u : Int × Int} {w2 : World} {a2 : Option Addr} {c2 : Nat} (h : Sep w (vrow v2 vs :: bx q (mdO v1 la v2 kk) :: F) W) (hk : vs.length = k) (hown : w2.ownsRow 0 34 2 (.slice a2 (k + 1) c2) (k + 1) (wcells vs ++ [.int .i64 u.1, .int .i64 u.2])) (hg : W.grownBy w2 v2.ownBlock)
    (hat : (Value.slice a2 (k + 1) c2).ownBlock = v2.ownBlock ∨ (Value.slice a2 (k + 1) c2).ownBlock = some W.heap.size) : Sep w (vrow (.slice a2 (k + 1) c2) (vs ++ [u]) :: bx q (mdO v1 la (.slice a2 (k + 1) c2) kk) :: F) (w2.setCell ⟨q, 4, none⟩ (.slice a2 (k + 1) c2)) ∧ w2.cell? ⟨q, 4, none⟩ = some v2 ∧ ∀ j, w2.frozen? ⟨q, j, none⟩ = false := by
  subst hk
  have h1 := Sep.app (m := 1) h hown hg hat
  have h2 := Sep.store (h1.perm (List.Perm.swap _ _ _)) 4 (.slice a2 (vs.length + 1) c2)
  have h3 := h2.perm (List.Perm.swap _ _ _)
  refine ⟨?_, ?_, fun j => Sep.free h1 (b := q) (List.Mem.tail _ (List.Mem.head _)) j⟩
  · unfold vrow
    rw [wcells_snoc, List.length_append]
    exact h3
  · exact Sep.cell h1 (b := q) (List.Mem.tail _ (List.Mem.head _)) rfl
theorem bg_end {q B : Nat} {lv2 av lv' : Value} {o1 o2 : Obj} {md : Md} (h : Sep w (rw_ 0 56 7 lv' (ml.length + 1) (mcells ml ++ [lv2, .int .i64 md.lay.args, .int .i64 md.lay.res, .int .i64 md.lay.height, av, .slice none 0 0, .int .i64 md.which]) :: vrow av md.slots :: bx q o1 :: rw_ 0 3 1 lv2 md.lay.slots.length (icells md.lay.slots) :: twB t b lv pv many :: twQ pv Q :: (ml.map mrow ++ (bx B o2 :: G))) W) (hops : md.ops = []) :
    Sep w (twL t b lv' pv (⟨lv2, av, .slice none 0 0, md⟩ :: ml) Q many ++ G) (W.setCell ⟨t, 1, none⟩ lv') := by
  have h0 := Sep.sub h (List.Sublist.append (List.Sublist.refl (_ :: _ :: _ :: _ :: _ :: _ :: ml.map mrow)) (List.sublist_cons_self _ _))
  have h1 : Sep w (twB t b lv pv many :: rw_ 0 56 7 lv' (ml.length + 1) (mcells ml ++ [lv2, .int .i64 md.lay.args, .int .i64 md.lay.res, .int .i64 md.lay.height, av, .slice none 0 0, .int .i64 md.which]) :: vrow av md.slots :: bx q o1 :: rw_ 0 3 1 lv2 md.lay.slots.length (icells md.lay.slots) :: twQ pv Q :: (ml.map mrow ++ G)) W := Sep.pick 4 h0 rfl
  have h2 := Sep.lose 3 (Sep.store h1 1 lv')
  have h3 := h2.rnil 0 34 2
  have h4 : Sep w (rw_ 0 3 1 lv2 md.lay.slots.length (icells md.lay.slots) :: vrow av md.slots :: rw_ 0 34 2 (.slice none 0 0) 0 [] :: twB t b lv' pv many :: rw_ 0 56 7 lv' (ml.length + 1) (mcells ml ++ [lv2, .int .i64 md.lay.args, .int .i64 md.lay.res, .int .i64 md.lay.height, av, .slice none 0 0, .int .i64 md.which]) :: twQ pv Q :: (ml.map mrow ++ G)) (W.setCell ⟨t, 1, none⟩ lv') := Sep.pick 4 (Sep.pick 3 h3 rfl) rfl
  have h5 : Sep w (vrow av md.slots :: vrow (.slice none 0 0) md.ops :: rw_ 0 3 1 lv2 md.lay.slots.length (icells md.lay.slots) :: twB t b lv' pv many :: twM lv' (⟨lv2, av, .slice none 0 0, md⟩ :: ml) :: twQ pv Q :: (ml.map mrow ++ G)) (W.setCell ⟨t, 1, none⟩ lv') := by
    have e1 : twM lv' (⟨lv2, av, .slice none 0 0, md⟩ :: ml) = rw_ 0 56 7 lv' (ml.length + 1) (mcells ml ++ [lv2, .int .i64 md.lay.args, .int .i64 md.lay.res, .int .i64 md.lay.height, av, .slice none 0 0, .int .i64 md.which]) := by unfold twM; rw [mcells_cons]; rfl
    rw [e1, hops]
    exact Sep.rot [_] [_, _] h4
  have h6 := h5.sepI
  have h7 : Sep w (lrow ⟨lv2, av, .slice none 0 0, md⟩ :: Asr.sep (vrow av md.slots) (vrow (.slice none 0 0) md.ops) :: twB t b lv' pv many :: twM lv' (⟨lv2, av, .slice none 0 0, md⟩ :: ml) :: twQ pv Q :: (ml.map mrow ++ G)) (W.setCell ⟨t, 1, none⟩ lv') := h6.perm (List.Perm.swap _ _ _)
  have h8 : Sep w (mrow ⟨lv2, av, .slice none 0 0, md⟩ :: twB t b lv' pv many :: twM lv' (⟨lv2, av, .slice none 0 0, md⟩ :: ml) :: twQ pv Q :: (ml.map mrow ++ G)) (W.setCell ⟨t, 1, none⟩ lv') := h7.sepI
  exact Sep.rot [_] [_, _, _] h8
theorem mdO_cells {q : Nat} {v1 v2 : Value} {la : Lay} {n : Int} {L : List Asr} (h : Sep w L W) (hm : bx q (mdO v1 la v2 n) ∈ L) : W.cell? ⟨q, 0, none⟩ = some v1 ∧ W.cell? ⟨q, 1, none⟩ = some (.int .i64 la.args) ∧ W.cell? ⟨q, 2, none⟩ = some (.int .i64 la.res) ∧ W.cell? ⟨q, 3, none⟩ = some (.int .i64 la.height) ∧ W.cell? ⟨q, 4, none⟩ = some v2 ∧ W.cell? ⟨q, 5, none⟩ = some (.slice none 0 0) ∧ W.cell? ⟨q, 6, none⟩ = some (.int .i64 n) := by
  have B := Sep.at h hm
  exact ⟨by rw [cell_of_row _ _ 0 _ _ _ B]; rfl, by rw [cell_of_row _ _ 1 _ _ _ B]; rfl, by rw [cell_of_row _ _ 2 _ _ _ B]; rfl, by rw [cell_of_row _ _ 3 _ _ _ B]; rfl, by rw [cell_of_row _ _ 4 _ _ _ B]; rfl, by rw [cell_of_row _ _ 5 _ _ _ B]; rfl, by rw [cell_of_row _ _ 6 _ _ _ B]; rfl⟩
theorem fillV_app : ∀ {ts : List Int} {vs : List (Int × Int)}, vs.length ≤ ts.length → fillV ts vs = vs ++ (ts.drop vs.length).map fun t => (t, 0)
  | [], [], _ => rfl
  | [], _ :: _, h => by simp at h
  | t :: ts, [], _ => by
    have := fillV_app (ts := ts) (vs := []) (by simp)
    simp only [fillV]
    rw [this]
    simp
  | t :: ts, v :: vs, h => by
    have := fillV_app (ts := ts) (vs := vs) (by simpa using h)
    simp only [fillV]
    rw [this]
    simp
set_option maxRecDepth 100000 in
set_option maxHeartbeats 4000000 in
theorem tbegun_any (h : Sep w (twL t b lv pv ml Q many ++ G) W) {sv av : Value} {l : Lay} {args : List (Int × Int)} (hsl : ∀ W', Sep w G W' → Rdi W' sv l.slots) (hav : ∀ W', Sep w G W' → Rd W' av args) (hcap : SlOk sv) (hk : layOk l = true) (hargs : args.length ≤ l.slots.length) (hml : ml.length ≤ 1000) (hm0 : 0 ≤ many ∧ many ≤ 1000) (link : Int) :
    Calls Tryz.prog 28 #[.pointer (some ⟨t, 0, none⟩), layV sv l, av] W fun e w' => (∃ lv' x, Sep w (twL t b lv' pv (x :: ml) Q (many + 1) ++ G) w' ∧ x.m = ⟨l, fillV l.slots args, [], many + 1, link⟩) ∧ ∃ u, e = .returned u := by
  obtain ⟨hkn, hn, -, -, -, -, h5, h6⟩ := (layOk_iff l).1 hk
  obtain ⟨i0, hi, hz0, hz1, hz2⟩ := info_parts infoV
  obtain ⟨j0, hj, hy0, hy1, hy2⟩ := info_parts infoM
  obtain ⟨ao, c, hsv⟩ := (hsl _ (Sep.sub h (List.sublist_append_right _ G))).shape
  subst hsv
  have hcc := hcap _ _ _ rfl
  obtain ⟨B, hB⟩ : ∃ B, W.heap.size = B := ⟨_, rfl⟩
  have h1 : Sep w (twL t b lv pv ml Q many ++ (bx B (layO (.slice ao l.slots.length c) l) :: G)) (W.alloc (layO (.slice ao l.slots.length c) l)) := by
    have := h.alloc (layO (.slice ao l.slots.length c) l)
    rw [hB] at this
    exact Sep.rot [_] (twL t b lv pv ml Q many) this
  obtain ⟨X1, hX1⟩ : ∃ X1, X1 = W.alloc (layO (.slice ao l.slots.length c) l) := ⟨_, rfl⟩
  rw [← hX1] at h1
  obtain ⟨-, -, -, k3, z3⟩ := tw_k h1
  have k3 := k3
  have z3 := z3 3
  have H2 : Hid (Sep w (stP (pf True) (pf True) (pf True) (twL t b lv pv ml Q (many + 1)) B (.slice ao l.slots.length c) l G) (X1.setCell ⟨t, 3, none⟩ (.int .i64 (many + 1)))) := Sep.pfI trivial (Sep.pfI trivial (Sep.pfI trivial (tw_many h1 (many + 1))))
  have HSL := Hid.mk hsl
  have HAV := Hid.mk hav
  have HL := Hid.mk hk
  have ww : IntKind.i64.wrap (many + 1) = many + 1 := by rw [IntKind.wrap_i64]; omega
  clear h h1 hsl hav hk
  unfold layV
  go_enter Tryz.func28, Tryz.ntmps28
  go_upto_region 1 with (fail)
  have hX1' : W.alloc (.cells #[.slice ao l.slots.length c, .int .i64 l.args, .int .i64 l.res, .int .i64 l.height] 31) = X1 := hX1.symm
  rw [hX1']
  clear hX1 hX1'
  go_upto_region 2 with (fail)
  obtain ⟨X2, hX2⟩ : ∃ X2, X2 = X1.setCell ⟨t, 3, none⟩ (.int .i64 (many + 1)) := ⟨_, rfl⟩
  rw [← hX2] at H2 ⊢
  clear hX2 k3 z3
  go_cut [6] (fun v6 X => ∃ q lv2 av2, v6 = .pointer (some ⟨q, 0, none⟩) ∧ Hid (Sep w (stP (rw_ 0 3 1 lv2 l.slots.length (icells l.slots)) (vrow av2 args) (bx q (mdO lv2 l av2 (many + 1))) (twL t b lv pv ml Q (many + 1)) B (.slice ao l.slots.length c) l G) X))
  case first =>
    have s0 := H2.out.drew
    go_wp2_with fail
    refine wp_region_held_drew (S := (fun X => X.cell? ⟨B, 0, none⟩ = some (.slice ao l.slots.length c) ∧ X.cell? ⟨B, 1, none⟩ = some (.int .i64 l.args) ∧ X.cell? ⟨B, 2, none⟩ = some (.int .i64 l.res) ∧ X.cell? ⟨B, 3, none⟩ = some (.int .i64 l.height) ∧ X.cell? ⟨t, 3, none⟩ = some (.int .i64 (many + 1)))) (by kernel_rfl) (st_S s0) (fun hHeld => ?_)
    refine wpAnyH_take (i := 0) (v := ?_) rfl (by kernel_rfl) (by kernel_rfl) (by kernel_rfl) (fun _ _ _ h => h) (Or.inl ⟨by rfl, ?_⟩) (by assumption) ?_
    rotate_left
    · (intro w hSw; (try dsimp only at hSw); go_simp <;> with_reducible rfl)
    (try simp only [Act.put, List.getElem_toArray, List.getElem_cons_zero, List.getElem_cons_succ, List.setIfInBounds_toArray, List.set_cons_zero, List.set_cons_succ])
    refine wpAnyH_take (i := 3) (v := ?_) rfl (by kernel_rfl) (by kernel_rfl) (by kernel_rfl) (fun _ _ _ h => h) (Or.inl ⟨by rfl, ?_⟩) (by assumption) ?_
    rotate_left
    · (intro w hSw; (try dsimp only at hSw); go_simp <;> with_reducible rfl)
    (try simp only [Act.put, List.getElem_toArray, List.getElem_cons_zero, List.getElem_cons_succ, List.setIfInBounds_toArray, List.set_cons_zero, List.set_cons_succ])
    refine wpAnyH_take (i := 5) (v := ?_) rfl (by kernel_rfl) (by kernel_rfl) (by kernel_rfl) (fun _ _ _ h => h) (Or.inl ⟨by rfl, ?_⟩) (by assumption) ?_
    rotate_left
    · (intro w hSw; (try dsimp only at hSw); go_simp <;> with_reducible rfl)
    (try simp only [Act.put, List.getElem_toArray, List.getElem_cons_zero, List.getElem_cons_succ, List.setIfInBounds_toArray, List.set_cons_zero, List.set_cons_succ])
    refine wpAnyH_take (i := 6) (v := ?_) rfl (by kernel_rfl) (by kernel_rfl) (by kernel_rfl) (fun _ _ _ h => h) (Or.inl ⟨by rfl, ?_⟩) (by assumption) ?_
    rotate_left
    · (intro w hSw; (try dsimp only at hSw); go_simp <;> with_reducible rfl)
    (try simp only [Act.put, List.getElem_toArray, List.getElem_cons_zero, List.getElem_cons_succ, List.setIfInBounds_toArray, List.set_cons_zero, List.set_cons_succ])
    refine wpAnyH_take (i := 7) (v := ?_) rfl (by kernel_rfl) (by kernel_rfl) (by kernel_rfl) (fun _ _ _ h => h) (Or.inl ⟨by rfl, ?_⟩) (by assumption) ?_
    rotate_left
    · (intro w hSw; (try dsimp only at hSw); go_simp <;> with_reducible rfl)
    (try simp only [Act.put, List.getElem_toArray, List.getElem_cons_zero, List.getElem_cons_succ, List.setIfInBounds_toArray, List.set_cons_zero, List.set_cons_succ])
    refine wpAnyH_take (i := 8) (v := ?_) rfl (by kernel_rfl) (by kernel_rfl) (by kernel_rfl) (fun _ _ _ h => h) (Or.inl ⟨by rfl, ?_⟩) (by assumption) ?_
    rotate_left
    · (intro w hSw; (try dsimp only at hSw); go_simp <;> with_reducible rfl)
    (try simp only [Act.put, List.getElem_toArray, List.getElem_cons_zero, List.getElem_cons_succ, List.setIfInBounds_toArray, List.set_cons_zero, List.set_cons_succ])
    obtain ⟨w0, hw0⟩ : ∃ X, X = X2.drew := ⟨_, rfl⟩
    rw [← hw0] at s0 hHeld ⊢
    clear hw0
    refine wpAnyH_ready (rs := [1, 2, 10]) (by kernel_rfl) (by simp) ?_
    refine AllReadyH.cons rfl (fun K hK => ?_) (AllReadyH.cons rfl (fun K hK => ?_) (AllReadyH.cons rfl (fun K hK => ?_) AllReadyH.nil))
    · go_simp
      refine (st_call s0 (HSL.out _ (st_G s0)) (by omega)).mono ?_
      rintro e w1 ⟨lv2, lc2, s1, rfl⟩
      refine hK.out _ _ (st_S s1) (fun hHeld => ?_)
      clear hK K
      (try simp only [Act.put, List.getElem_toArray, List.getElem_cons_zero, List.getElem_cons_succ, List.setIfInBounds_toArray, List.set_cons_zero, List.set_cons_succ])
      refine wpAnyH_ready (rs := [2, 10]) (by kernel_rfl) (by simp) ?_
      refine AllReadyH.cons rfl (fun K hK => ?_) (AllReadyH.cons rfl (fun K hK => ?_) AllReadyH.nil)
      · go_simp
        have s2 := st_lit s1
        obtain ⟨w2, hw2⟩ : ∃ X, X = (w1).alloc (.cells #[] 34) := ⟨_, rfl⟩
        rw [← hw2] at s2 ⊢
        clear hw2
        refine hK.out _ _ (st_S s2) (fun hHeld => ?_)
        clear hK K
        (try simp only [Act.put, List.getElem_toArray, List.getElem_cons_zero, List.getElem_cons_succ, List.setIfInBounds_toArray, List.set_cons_zero, List.set_cons_succ])
        refine wpAnyH_ready (rs := [4, 10]) (by kernel_rfl) (by simp) ?_
        refine AllReadyH.cons rfl (fun K hK => ?_) (AllReadyH.cons rfl (fun K hK => ?_) AllReadyH.nil)
        · refine step_append_x _ (by rfl) _ _ _ (by rfl) 0 34 i0 (.agg #[.int .i64 0, .int .i64 0]) 2 16 Tryz.underlying32 hi hz0 hz1 hz2 rfl (by omega) _ 0 [] (by rfl) (st_row s2) args.length (wcells args) av (by rfl) (HAV.out _ (st_G s2)).app (by unfold maxLen; omega) (by omega) (Nat.zero_le _) ?_
          intro av2 cap2 w3 hown2 hg2 hat2
          have s3 := st_app s2 hown2 hg2 hat2
          clear hown2 hg2 hat2
          simp only [Nat.zero_add, List.nil_append] at s3 ⊢
          refine hK.out _ _ (st_S s3) (fun hHeld => ?_)
          clear hK K
          (try simp only [Act.put, List.getElem_toArray, List.getElem_cons_zero, List.getElem_cons_succ, List.setIfInBounds_toArray, List.set_cons_zero, List.set_cons_succ])
          refine wpAnyH_take (i := 9) (v := ?_) rfl (by kernel_rfl) (by kernel_rfl) (by kernel_rfl) (fun _ _ _ h => h) (Or.inl ⟨by rfl, ?_⟩) (by assumption) ?_
          rotate_left
          · (intro w hSw; (try dsimp only at hSw); go_simp <;> with_reducible rfl)
          (try simp only [Act.put, List.getElem_toArray, List.getElem_cons_zero, List.getElem_cons_succ, List.setIfInBounds_toArray, List.set_cons_zero, List.set_cons_succ])
          refine wpAnyH_ready (rs := [10]) (by kernel_rfl) (by simp) ?_
          refine AllReadyH.cons rfl (fun K hK => ?_) AllReadyH.nil
          · go_simp
            have s4 := st_alloc s3 (.cells #[.slice none 0 0, .int .i64 0, .int .i64 0, .int .i64 0, .slice none 0 0, .slice none 0 0, .int .i64 0] 56)
            obtain ⟨w4, hw4⟩ : ∃ X, X = (w3).alloc (.cells #[.slice none 0 0, .int .i64 0, .int .i64 0, .int .i64 0, .slice none 0 0, .slice none 0 0, .int .i64 0] 56) := ⟨_, rfl⟩
            rw [← hw4] at s4 ⊢
            clear hw4
            refine hK.out _ _ (st_S s4) (fun hHeld => ?_)
            clear hK K
            (try simp only [Act.put, List.getElem_toArray, List.getElem_cons_zero, List.getElem_cons_succ, List.setIfInBounds_toArray, List.set_cons_zero, List.set_cons_succ])
            refine wpAnyH_ready (rs := [11]) (by kernel_rfl) (by simp) ?_
            refine AllReadyH.cons rfl (fun K hK => ?_) AllReadyH.nil
            obtain ⟨HE, hz, y0, y1, y2, y3, y4, y5, y6⟩ := st_end s4 (.slice lv2 l.slots.length lc2) l (.slice av2 args.length cap2) (many + 1)
            clear HSL HAV H2 s4
            go_simp
            refine hK.out _ _ (st_S HE.out) (fun hHeld => ?_)
            clear hK K
            refine wpAnyH_done (by kernel_rfl) ?_ _
            go_wp2_with fail
            go_meet
            case rel => exact ⟨_, _, _, rfl, HE⟩
        · go_simp
          have s3 := st_alloc s2 (.cells #[.slice none 0 0, .int .i64 0, .int .i64 0, .int .i64 0, .slice none 0 0, .slice none 0 0, .int .i64 0] 56)
          obtain ⟨w3, hw3⟩ : ∃ X, X = (w2).alloc (.cells #[.slice none 0 0, .int .i64 0, .int .i64 0, .int .i64 0, .slice none 0 0, .slice none 0 0, .int .i64 0] 56) := ⟨_, rfl⟩
          rw [← hw3] at s3 ⊢
          clear hw3
          refine hK.out _ _ (st_S s3) (fun hHeld => ?_)
          clear hK K
          (try simp only [Act.put, List.getElem_toArray, List.getElem_cons_zero, List.getElem_cons_succ, List.setIfInBounds_toArray, List.set_cons_zero, List.set_cons_succ])
          refine wpAnyH_ready (rs := [4]) (by kernel_rfl) (by simp) ?_
          refine AllReadyH.cons rfl (fun K hK => ?_) AllReadyH.nil
          · refine step_append_x _ (by rfl) _ _ _ (by rfl) 0 34 i0 (.agg #[.int .i64 0, .int .i64 0]) 2 16 Tryz.underlying32 hi hz0 hz1 hz2 rfl (by omega) _ 0 [] (by rfl) (st_row s3) args.length (wcells args) av (by rfl) (HAV.out _ (st_G s3)).app (by unfold maxLen; omega) (by omega) (Nat.zero_le _) ?_
            intro av2 cap2 w4 hown2 hg2 hat2
            have s4 := st_app s3 hown2 hg2 hat2
            clear hown2 hg2 hat2
            simp only [Nat.zero_add, List.nil_append] at s4 ⊢
            refine hK.out _ _ (st_S s4) (fun hHeld => ?_)
            clear hK K
            (try simp only [Act.put, List.getElem_toArray, List.getElem_cons_zero, List.getElem_cons_succ, List.setIfInBounds_toArray, List.set_cons_zero, List.set_cons_succ])
            refine wpAnyH_take (i := 9) (v := ?_) rfl (by kernel_rfl) (by kernel_rfl) (by kernel_rfl) (fun _ _ _ h => h) (Or.inl ⟨by rfl, ?_⟩) (by assumption) ?_
            rotate_left
            · (intro w hSw; (try dsimp only at hSw); go_simp <;> with_reducible rfl)
            (try simp only [Act.put, List.getElem_toArray, List.getElem_cons_zero, List.getElem_cons_succ, List.setIfInBounds_toArray, List.set_cons_zero, List.set_cons_succ])
            refine wpAnyH_ready (rs := [11]) (by kernel_rfl) (by simp) ?_
            refine AllReadyH.cons rfl (fun K hK => ?_) AllReadyH.nil
            obtain ⟨HE, hz, y0, y1, y2, y3, y4, y5, y6⟩ := st_end s4 (.slice lv2 l.slots.length lc2) l (.slice av2 args.length cap2) (many + 1)
            clear HSL HAV H2 s4
            go_simp
            refine hK.out _ _ (st_S HE.out) (fun hHeld => ?_)
            clear hK K
            refine wpAnyH_done (by kernel_rfl) ?_ _
            go_wp2_with fail
            go_meet
            case rel => exact ⟨_, _, _, rfl, HE⟩
      · go_simp
        have s2 := st_alloc s1 (.cells #[.slice none 0 0, .int .i64 0, .int .i64 0, .int .i64 0, .slice none 0 0, .slice none 0 0, .int .i64 0] 56)
        obtain ⟨w2, hw2⟩ : ∃ X, X = (w1).alloc (.cells #[.slice none 0 0, .int .i64 0, .int .i64 0, .int .i64 0, .slice none 0 0, .slice none 0 0, .int .i64 0] 56) := ⟨_, rfl⟩
        rw [← hw2] at s2 ⊢
        clear hw2
        refine hK.out _ _ (st_S s2) (fun hHeld => ?_)
        clear hK K
        (try simp only [Act.put, List.getElem_toArray, List.getElem_cons_zero, List.getElem_cons_succ, List.setIfInBounds_toArray, List.set_cons_zero, List.set_cons_succ])
        refine wpAnyH_ready (rs := [2]) (by kernel_rfl) (by simp) ?_
        refine AllReadyH.cons rfl (fun K hK => ?_) AllReadyH.nil
        · go_simp
          have s3 := st_lit s2
          obtain ⟨w3, hw3⟩ : ∃ X, X = (w2).alloc (.cells #[] 34) := ⟨_, rfl⟩
          rw [← hw3] at s3 ⊢
          clear hw3
          refine hK.out _ _ (st_S s3) (fun hHeld => ?_)
          clear hK K
          (try simp only [Act.put, List.getElem_toArray, List.getElem_cons_zero, List.getElem_cons_succ, List.setIfInBounds_toArray, List.set_cons_zero, List.set_cons_succ])
          refine wpAnyH_ready (rs := [4]) (by kernel_rfl) (by simp) ?_
          refine AllReadyH.cons rfl (fun K hK => ?_) AllReadyH.nil
          · refine step_append_x _ (by rfl) _ _ _ (by rfl) 0 34 i0 (.agg #[.int .i64 0, .int .i64 0]) 2 16 Tryz.underlying32 hi hz0 hz1 hz2 rfl (by omega) _ 0 [] (by rfl) (st_row s3) args.length (wcells args) av (by rfl) (HAV.out _ (st_G s3)).app (by unfold maxLen; omega) (by omega) (Nat.zero_le _) ?_
            intro av2 cap2 w4 hown2 hg2 hat2
            have s4 := st_app s3 hown2 hg2 hat2
            clear hown2 hg2 hat2
            simp only [Nat.zero_add, List.nil_append] at s4 ⊢
            refine hK.out _ _ (st_S s4) (fun hHeld => ?_)
            clear hK K
            (try simp only [Act.put, List.getElem_toArray, List.getElem_cons_zero, List.getElem_cons_succ, List.setIfInBounds_toArray, List.set_cons_zero, List.set_cons_succ])
            refine wpAnyH_take (i := 9) (v := ?_) rfl (by kernel_rfl) (by kernel_rfl) (by kernel_rfl) (fun _ _ _ h => h) (Or.inl ⟨by rfl, ?_⟩) (by assumption) ?_
            rotate_left
            · (intro w hSw; (try dsimp only at hSw); go_simp <;> with_reducible rfl)
            (try simp only [Act.put, List.getElem_toArray, List.getElem_cons_zero, List.getElem_cons_succ, List.setIfInBounds_toArray, List.set_cons_zero, List.set_cons_succ])
            refine wpAnyH_ready (rs := [11]) (by kernel_rfl) (by simp) ?_
            refine AllReadyH.cons rfl (fun K hK => ?_) AllReadyH.nil
            obtain ⟨HE, hz, y0, y1, y2, y3, y4, y5, y6⟩ := st_end s4 (.slice lv2 l.slots.length lc2) l (.slice av2 args.length cap2) (many + 1)
            clear HSL HAV H2 s4
            go_simp
            refine hK.out _ _ (st_S HE.out) (fun hHeld => ?_)
            clear hK K
            refine wpAnyH_done (by kernel_rfl) ?_ _
            go_wp2_with fail
            go_meet
            case rel => exact ⟨_, _, _, rfl, HE⟩
    · go_simp
      have s1 := st_lit s0
      obtain ⟨w1, hw1⟩ : ∃ X, X = (w0).alloc (.cells #[] 34) := ⟨_, rfl⟩
      rw [← hw1] at s1 ⊢
      clear hw1
      refine hK.out _ _ (st_S s1) (fun hHeld => ?_)
      clear hK K
      (try simp only [Act.put, List.getElem_toArray, List.getElem_cons_zero, List.getElem_cons_succ, List.setIfInBounds_toArray, List.set_cons_zero, List.set_cons_succ])
      refine wpAnyH_ready (rs := [1, 10]) (by kernel_rfl) (by simp) ?_
      refine AllReadyH.cons rfl (fun K hK => ?_) (AllReadyH.cons rfl (fun K hK => ?_) AllReadyH.nil)
      · go_simp
        refine (st_call s1 (HSL.out _ (st_G s1)) (by omega)).mono ?_
        rintro e w2 ⟨lv2, lc2, s2, rfl⟩
        refine hK.out _ _ (st_S s2) (fun hHeld => ?_)
        clear hK K
        (try simp only [Act.put, List.getElem_toArray, List.getElem_cons_zero, List.getElem_cons_succ, List.setIfInBounds_toArray, List.set_cons_zero, List.set_cons_succ])
        refine wpAnyH_ready (rs := [4, 10]) (by kernel_rfl) (by simp) ?_
        refine AllReadyH.cons rfl (fun K hK => ?_) (AllReadyH.cons rfl (fun K hK => ?_) AllReadyH.nil)
        · refine step_append_x _ (by rfl) _ _ _ (by rfl) 0 34 i0 (.agg #[.int .i64 0, .int .i64 0]) 2 16 Tryz.underlying32 hi hz0 hz1 hz2 rfl (by omega) _ 0 [] (by rfl) (st_row s2) args.length (wcells args) av (by rfl) (HAV.out _ (st_G s2)).app (by unfold maxLen; omega) (by omega) (Nat.zero_le _) ?_
          intro av2 cap2 w3 hown2 hg2 hat2
          have s3 := st_app s2 hown2 hg2 hat2
          clear hown2 hg2 hat2
          simp only [Nat.zero_add, List.nil_append] at s3 ⊢
          refine hK.out _ _ (st_S s3) (fun hHeld => ?_)
          clear hK K
          (try simp only [Act.put, List.getElem_toArray, List.getElem_cons_zero, List.getElem_cons_succ, List.setIfInBounds_toArray, List.set_cons_zero, List.set_cons_succ])
          refine wpAnyH_take (i := 9) (v := ?_) rfl (by kernel_rfl) (by kernel_rfl) (by kernel_rfl) (fun _ _ _ h => h) (Or.inl ⟨by rfl, ?_⟩) (by assumption) ?_
          rotate_left
          · (intro w hSw; (try dsimp only at hSw); go_simp <;> with_reducible rfl)
          (try simp only [Act.put, List.getElem_toArray, List.getElem_cons_zero, List.getElem_cons_succ, List.setIfInBounds_toArray, List.set_cons_zero, List.set_cons_succ])
          refine wpAnyH_ready (rs := [10]) (by kernel_rfl) (by simp) ?_
          refine AllReadyH.cons rfl (fun K hK => ?_) AllReadyH.nil
          · go_simp
            have s4 := st_alloc s3 (.cells #[.slice none 0 0, .int .i64 0, .int .i64 0, .int .i64 0, .slice none 0 0, .slice none 0 0, .int .i64 0] 56)
            obtain ⟨w4, hw4⟩ : ∃ X, X = (w3).alloc (.cells #[.slice none 0 0, .int .i64 0, .int .i64 0, .int .i64 0, .slice none 0 0, .slice none 0 0, .int .i64 0] 56) := ⟨_, rfl⟩
            rw [← hw4] at s4 ⊢
            clear hw4
            refine hK.out _ _ (st_S s4) (fun hHeld => ?_)
            clear hK K
            (try simp only [Act.put, List.getElem_toArray, List.getElem_cons_zero, List.getElem_cons_succ, List.setIfInBounds_toArray, List.set_cons_zero, List.set_cons_succ])
            refine wpAnyH_ready (rs := [11]) (by kernel_rfl) (by simp) ?_
            refine AllReadyH.cons rfl (fun K hK => ?_) AllReadyH.nil
            obtain ⟨HE, hz, y0, y1, y2, y3, y4, y5, y6⟩ := st_end s4 (.slice lv2 l.slots.length lc2) l (.slice av2 args.length cap2) (many + 1)
            clear HSL HAV H2 s4
            go_simp
            refine hK.out _ _ (st_S HE.out) (fun hHeld => ?_)
            clear hK K
            refine wpAnyH_done (by kernel_rfl) ?_ _
            go_wp2_with fail
            go_meet
            case rel => exact ⟨_, _, _, rfl, HE⟩
        · go_simp
          have s3 := st_alloc s2 (.cells #[.slice none 0 0, .int .i64 0, .int .i64 0, .int .i64 0, .slice none 0 0, .slice none 0 0, .int .i64 0] 56)
          obtain ⟨w3, hw3⟩ : ∃ X, X = (w2).alloc (.cells #[.slice none 0 0, .int .i64 0, .int .i64 0, .int .i64 0, .slice none 0 0, .slice none 0 0, .int .i64 0] 56) := ⟨_, rfl⟩
          rw [← hw3] at s3 ⊢
          clear hw3
          refine hK.out _ _ (st_S s3) (fun hHeld => ?_)
          clear hK K
          (try simp only [Act.put, List.getElem_toArray, List.getElem_cons_zero, List.getElem_cons_succ, List.setIfInBounds_toArray, List.set_cons_zero, List.set_cons_succ])
          refine wpAnyH_ready (rs := [4]) (by kernel_rfl) (by simp) ?_
          refine AllReadyH.cons rfl (fun K hK => ?_) AllReadyH.nil
          · refine step_append_x _ (by rfl) _ _ _ (by rfl) 0 34 i0 (.agg #[.int .i64 0, .int .i64 0]) 2 16 Tryz.underlying32 hi hz0 hz1 hz2 rfl (by omega) _ 0 [] (by rfl) (st_row s3) args.length (wcells args) av (by rfl) (HAV.out _ (st_G s3)).app (by unfold maxLen; omega) (by omega) (Nat.zero_le _) ?_
            intro av2 cap2 w4 hown2 hg2 hat2
            have s4 := st_app s3 hown2 hg2 hat2
            clear hown2 hg2 hat2
            simp only [Nat.zero_add, List.nil_append] at s4 ⊢
            refine hK.out _ _ (st_S s4) (fun hHeld => ?_)
            clear hK K
            (try simp only [Act.put, List.getElem_toArray, List.getElem_cons_zero, List.getElem_cons_succ, List.setIfInBounds_toArray, List.set_cons_zero, List.set_cons_succ])
            refine wpAnyH_take (i := 9) (v := ?_) rfl (by kernel_rfl) (by kernel_rfl) (by kernel_rfl) (fun _ _ _ h => h) (Or.inl ⟨by rfl, ?_⟩) (by assumption) ?_
            rotate_left
            · (intro w hSw; (try dsimp only at hSw); go_simp <;> with_reducible rfl)
            (try simp only [Act.put, List.getElem_toArray, List.getElem_cons_zero, List.getElem_cons_succ, List.setIfInBounds_toArray, List.set_cons_zero, List.set_cons_succ])
            refine wpAnyH_ready (rs := [11]) (by kernel_rfl) (by simp) ?_
            refine AllReadyH.cons rfl (fun K hK => ?_) AllReadyH.nil
            obtain ⟨HE, hz, y0, y1, y2, y3, y4, y5, y6⟩ := st_end s4 (.slice lv2 l.slots.length lc2) l (.slice av2 args.length cap2) (many + 1)
            clear HSL HAV H2 s4
            go_simp
            refine hK.out _ _ (st_S HE.out) (fun hHeld => ?_)
            clear hK K
            refine wpAnyH_done (by kernel_rfl) ?_ _
            go_wp2_with fail
            go_meet
            case rel => exact ⟨_, _, _, rfl, HE⟩
      · go_simp
        have s2 := st_alloc s1 (.cells #[.slice none 0 0, .int .i64 0, .int .i64 0, .int .i64 0, .slice none 0 0, .slice none 0 0, .int .i64 0] 56)
        obtain ⟨w2, hw2⟩ : ∃ X, X = (w1).alloc (.cells #[.slice none 0 0, .int .i64 0, .int .i64 0, .int .i64 0, .slice none 0 0, .slice none 0 0, .int .i64 0] 56) := ⟨_, rfl⟩
        rw [← hw2] at s2 ⊢
        clear hw2
        refine hK.out _ _ (st_S s2) (fun hHeld => ?_)
        clear hK K
        (try simp only [Act.put, List.getElem_toArray, List.getElem_cons_zero, List.getElem_cons_succ, List.setIfInBounds_toArray, List.set_cons_zero, List.set_cons_succ])
        refine wpAnyH_ready (rs := [1]) (by kernel_rfl) (by simp) ?_
        refine AllReadyH.cons rfl (fun K hK => ?_) AllReadyH.nil
        · go_simp
          refine (st_call s2 (HSL.out _ (st_G s2)) (by omega)).mono ?_
          rintro e w3 ⟨lv2, lc2, s3, rfl⟩
          refine hK.out _ _ (st_S s3) (fun hHeld => ?_)
          clear hK K
          (try simp only [Act.put, List.getElem_toArray, List.getElem_cons_zero, List.getElem_cons_succ, List.setIfInBounds_toArray, List.set_cons_zero, List.set_cons_succ])
          refine wpAnyH_ready (rs := [4]) (by kernel_rfl) (by simp) ?_
          refine AllReadyH.cons rfl (fun K hK => ?_) AllReadyH.nil
          · refine step_append_x _ (by rfl) _ _ _ (by rfl) 0 34 i0 (.agg #[.int .i64 0, .int .i64 0]) 2 16 Tryz.underlying32 hi hz0 hz1 hz2 rfl (by omega) _ 0 [] (by rfl) (st_row s3) args.length (wcells args) av (by rfl) (HAV.out _ (st_G s3)).app (by unfold maxLen; omega) (by omega) (Nat.zero_le _) ?_
            intro av2 cap2 w4 hown2 hg2 hat2
            have s4 := st_app s3 hown2 hg2 hat2
            clear hown2 hg2 hat2
            simp only [Nat.zero_add, List.nil_append] at s4 ⊢
            refine hK.out _ _ (st_S s4) (fun hHeld => ?_)
            clear hK K
            (try simp only [Act.put, List.getElem_toArray, List.getElem_cons_zero, List.getElem_cons_succ, List.setIfInBounds_toArray, List.set_cons_zero, List.set_cons_succ])
            refine wpAnyH_take (i := 9) (v := ?_) rfl (by kernel_rfl) (by kernel_rfl) (by kernel_rfl) (fun _ _ _ h => h) (Or.inl ⟨by rfl, ?_⟩) (by assumption) ?_
            rotate_left
            · (intro w hSw; (try dsimp only at hSw); go_simp <;> with_reducible rfl)
            (try simp only [Act.put, List.getElem_toArray, List.getElem_cons_zero, List.getElem_cons_succ, List.setIfInBounds_toArray, List.set_cons_zero, List.set_cons_succ])
            refine wpAnyH_ready (rs := [11]) (by kernel_rfl) (by simp) ?_
            refine AllReadyH.cons rfl (fun K hK => ?_) AllReadyH.nil
            obtain ⟨HE, hz, y0, y1, y2, y3, y4, y5, y6⟩ := st_end s4 (.slice lv2 l.slots.length lc2) l (.slice av2 args.length cap2) (many + 1)
            clear HSL HAV H2 s4
            go_simp
            refine hK.out _ _ (st_S HE.out) (fun hHeld => ?_)
            clear hK K
            refine wpAnyH_done (by kernel_rfl) ?_ _
            go_wp2_with fail
            go_meet
            case rel => exact ⟨_, _, _, rfl, HE⟩
    · go_simp
      have s1 := st_alloc s0 (.cells #[.slice none 0 0, .int .i64 0, .int .i64 0, .int .i64 0, .slice none 0 0, .slice none 0 0, .int .i64 0] 56)
      obtain ⟨w1, hw1⟩ : ∃ X, X = (w0).alloc (.cells #[.slice none 0 0, .int .i64 0, .int .i64 0, .int .i64 0, .slice none 0 0, .slice none 0 0, .int .i64 0] 56) := ⟨_, rfl⟩
      rw [← hw1] at s1 ⊢
      clear hw1
      refine hK.out _ _ (st_S s1) (fun hHeld => ?_)
      clear hK K
      (try simp only [Act.put, List.getElem_toArray, List.getElem_cons_zero, List.getElem_cons_succ, List.setIfInBounds_toArray, List.set_cons_zero, List.set_cons_succ])
      refine wpAnyH_ready (rs := [1, 2]) (by kernel_rfl) (by simp) ?_
      refine AllReadyH.cons rfl (fun K hK => ?_) (AllReadyH.cons rfl (fun K hK => ?_) AllReadyH.nil)
      · go_simp
        refine (st_call s1 (HSL.out _ (st_G s1)) (by omega)).mono ?_
        rintro e w2 ⟨lv2, lc2, s2, rfl⟩
        refine hK.out _ _ (st_S s2) (fun hHeld => ?_)
        clear hK K
        (try simp only [Act.put, List.getElem_toArray, List.getElem_cons_zero, List.getElem_cons_succ, List.setIfInBounds_toArray, List.set_cons_zero, List.set_cons_succ])
        refine wpAnyH_ready (rs := [2]) (by kernel_rfl) (by simp) ?_
        refine AllReadyH.cons rfl (fun K hK => ?_) AllReadyH.nil
        · go_simp
          have s3 := st_lit s2
          obtain ⟨w3, hw3⟩ : ∃ X, X = (w2).alloc (.cells #[] 34) := ⟨_, rfl⟩
          rw [← hw3] at s3 ⊢
          clear hw3
          refine hK.out _ _ (st_S s3) (fun hHeld => ?_)
          clear hK K
          (try simp only [Act.put, List.getElem_toArray, List.getElem_cons_zero, List.getElem_cons_succ, List.setIfInBounds_toArray, List.set_cons_zero, List.set_cons_succ])
          refine wpAnyH_ready (rs := [4]) (by kernel_rfl) (by simp) ?_
          refine AllReadyH.cons rfl (fun K hK => ?_) AllReadyH.nil
          · refine step_append_x _ (by rfl) _ _ _ (by rfl) 0 34 i0 (.agg #[.int .i64 0, .int .i64 0]) 2 16 Tryz.underlying32 hi hz0 hz1 hz2 rfl (by omega) _ 0 [] (by rfl) (st_row s3) args.length (wcells args) av (by rfl) (HAV.out _ (st_G s3)).app (by unfold maxLen; omega) (by omega) (Nat.zero_le _) ?_
            intro av2 cap2 w4 hown2 hg2 hat2
            have s4 := st_app s3 hown2 hg2 hat2
            clear hown2 hg2 hat2
            simp only [Nat.zero_add, List.nil_append] at s4 ⊢
            refine hK.out _ _ (st_S s4) (fun hHeld => ?_)
            clear hK K
            (try simp only [Act.put, List.getElem_toArray, List.getElem_cons_zero, List.getElem_cons_succ, List.setIfInBounds_toArray, List.set_cons_zero, List.set_cons_succ])
            refine wpAnyH_take (i := 9) (v := ?_) rfl (by kernel_rfl) (by kernel_rfl) (by kernel_rfl) (fun _ _ _ h => h) (Or.inl ⟨by rfl, ?_⟩) (by assumption) ?_
            rotate_left
            · (intro w hSw; (try dsimp only at hSw); go_simp <;> with_reducible rfl)
            (try simp only [Act.put, List.getElem_toArray, List.getElem_cons_zero, List.getElem_cons_succ, List.setIfInBounds_toArray, List.set_cons_zero, List.set_cons_succ])
            refine wpAnyH_ready (rs := [11]) (by kernel_rfl) (by simp) ?_
            refine AllReadyH.cons rfl (fun K hK => ?_) AllReadyH.nil
            obtain ⟨HE, hz, y0, y1, y2, y3, y4, y5, y6⟩ := st_end s4 (.slice lv2 l.slots.length lc2) l (.slice av2 args.length cap2) (many + 1)
            clear HSL HAV H2 s4
            go_simp
            refine hK.out _ _ (st_S HE.out) (fun hHeld => ?_)
            clear hK K
            refine wpAnyH_done (by kernel_rfl) ?_ _
            go_wp2_with fail
            go_meet
            case rel => exact ⟨_, _, _, rfl, HE⟩
      · go_simp
        have s2 := st_lit s1
        obtain ⟨w2, hw2⟩ : ∃ X, X = (w1).alloc (.cells #[] 34) := ⟨_, rfl⟩
        rw [← hw2] at s2 ⊢
        clear hw2
        refine hK.out _ _ (st_S s2) (fun hHeld => ?_)
        clear hK K
        (try simp only [Act.put, List.getElem_toArray, List.getElem_cons_zero, List.getElem_cons_succ, List.setIfInBounds_toArray, List.set_cons_zero, List.set_cons_succ])
        refine wpAnyH_ready (rs := [1]) (by kernel_rfl) (by simp) ?_
        refine AllReadyH.cons rfl (fun K hK => ?_) AllReadyH.nil
        · go_simp
          refine (st_call s2 (HSL.out _ (st_G s2)) (by omega)).mono ?_
          rintro e w3 ⟨lv2, lc2, s3, rfl⟩
          refine hK.out _ _ (st_S s3) (fun hHeld => ?_)
          clear hK K
          (try simp only [Act.put, List.getElem_toArray, List.getElem_cons_zero, List.getElem_cons_succ, List.setIfInBounds_toArray, List.set_cons_zero, List.set_cons_succ])
          refine wpAnyH_ready (rs := [4]) (by kernel_rfl) (by simp) ?_
          refine AllReadyH.cons rfl (fun K hK => ?_) AllReadyH.nil
          · refine step_append_x _ (by rfl) _ _ _ (by rfl) 0 34 i0 (.agg #[.int .i64 0, .int .i64 0]) 2 16 Tryz.underlying32 hi hz0 hz1 hz2 rfl (by omega) _ 0 [] (by rfl) (st_row s3) args.length (wcells args) av (by rfl) (HAV.out _ (st_G s3)).app (by unfold maxLen; omega) (by omega) (Nat.zero_le _) ?_
            intro av2 cap2 w4 hown2 hg2 hat2
            have s4 := st_app s3 hown2 hg2 hat2
            clear hown2 hg2 hat2
            simp only [Nat.zero_add, List.nil_append] at s4 ⊢
            refine hK.out _ _ (st_S s4) (fun hHeld => ?_)
            clear hK K
            (try simp only [Act.put, List.getElem_toArray, List.getElem_cons_zero, List.getElem_cons_succ, List.setIfInBounds_toArray, List.set_cons_zero, List.set_cons_succ])
            refine wpAnyH_take (i := 9) (v := ?_) rfl (by kernel_rfl) (by kernel_rfl) (by kernel_rfl) (fun _ _ _ h => h) (Or.inl ⟨by rfl, ?_⟩) (by assumption) ?_
            rotate_left
            · (intro w hSw; (try dsimp only at hSw); go_simp <;> with_reducible rfl)
            (try simp only [Act.put, List.getElem_toArray, List.getElem_cons_zero, List.getElem_cons_succ, List.setIfInBounds_toArray, List.set_cons_zero, List.set_cons_succ])
            refine wpAnyH_ready (rs := [11]) (by kernel_rfl) (by simp) ?_
            refine AllReadyH.cons rfl (fun K hK => ?_) AllReadyH.nil
            obtain ⟨HE, hz, y0, y1, y2, y3, y4, y5, y6⟩ := st_end s4 (.slice lv2 l.slots.length lc2) l (.slice av2 args.length cap2) (many + 1)
            clear HSL HAV H2 s4
            go_simp
            refine hK.out _ _ (st_S HE.out) (fun hHeld => ?_)
            clear hK K
            refine wpAnyH_done (by kernel_rfl) ?_ _
            go_wp2_with fail
            go_meet
            case rel => exact ⟨_, _, _, rfl, HE⟩
  case rest =>
    obtain ⟨q, lv2, av2, rfl, hcut⟩ := hcut
    have h3 : Sep w (vrow av2 args :: bx q (mdO lv2 l av2 (many + 1)) :: rw_ 0 3 1 lv2 l.slots.length (icells l.slots) :: (twL t b lv pv ml Q (many + 1) ++ (bx B (layO (.slice ao l.slots.length c) l) :: G))) wc := Sep.rot [_] [_, _] hcut.out
    have H3 := Hid.mk h3
    obtain ⟨d0, -⟩ := layO_cells (q := B) (v := .slice ao l.slots.length c) (f := l) h3 (by simp)
    have hrd := HSL.out _ (bg_G h3)
    have hav := HAV.out _ (bg_G h3)
    obtain ⟨aa, ac, hav'⟩ := hav.shape
    have HEN : Hid (∀ W' : World, (∃ av', Sep w (vrow av' (fillV l.slots args) :: bx q (mdO lv2 l av' (many + 1)) :: rw_ 0 3 1 lv2 l.slots.length (icells l.slots) :: (twL t b lv pv ml Q (many + 1) ++ (bx B (layO (.slice ao l.slots.length c) l) :: G))) W') → True) := fun _ _ => trivial
    clear hcut h3 HEN hav H2
    subst hav'
    obtain ⟨n, hn'⟩ : ∃ n, l.slots.length = n := ⟨_, rfl⟩
    obtain ⟨m, hm⟩ : ∃ m, args.length = m := ⟨_, rfl⟩
    have HN := Hid.mk hn'
    have HM := Hid.mk hm
    have HAR := Hid.mk hargs
    rw [hn'] at d0 hrd hcc hn
    rw [hm]
    have HFA : Hid (m = n → fillV l.slots args = args) := fun e => by
      rw [fillV_app hargs, List.drop_of_length_le (by omega)]
      simp
    clear hn' hm
    apply_assumption
    by_cases hcm : c = m
    · subst hcm
      obtain rfl : c = n := by have := HAR.out; rw [HN.out, HM.out] at this; omega
      have e0 : c - c = 0 := by omega
      go_upto_block 0 with (fail)
      go_cut [] (fun X => Hid (∃ av', Sep w (vrow av' (fillV l.slots args) :: bx q (mdO lv2 l av' (many + 1)) :: rw_ 0 3 1 lv2 l.slots.length (icells l.slots) :: (twL t b lv pv ml Q (many + 1) ++ (bx B (layO (.slice ao l.slots.length c) l) :: G))) X))
      case first =>
        have HE : Hid (∃ av', Sep w (vrow av' (fillV l.slots args) :: bx q (mdO lv2 l av' (many + 1)) :: rw_ 0 3 1 lv2 l.slots.length (icells l.slots) :: (twL t b lv pv ml Q (many + 1) ++ (bx B (layO (.slice ao l.slots.length c) l) :: G))) wc) := by
          rw [HFA.out rfl]
          exact ⟨_, H3.out⟩
        clear H3 hrd HSL HAV hargs
        go_wp2_with fail
        refine wp_loop_rounds 1 ?_
        rw [rounds_succ]
        go_wp2_with fail
        go_meet
        case rel => exact HE.out
      case rest =>
        obtain ⟨av', h3⟩ := hcut.out
        obtain ⟨va, vc, rfl⟩ := own_shape (h3.owns (List.Mem.head _))
        obtain ⟨vl, vlc, rfl⟩ := own_shape (h3.owns (v := lv2) (List.Mem.tail _ (List.Mem.tail _ (List.Mem.head _))))
        obtain ⟨lo, lc, rfl⟩ := own_shape (Sep.owns (base := 0) (T := 56) (n := 7) (v := lv) (m := ml.length) (xs := mcells ml) h3 (by simp [twL, twM]))
        obtain ⟨s0, s1, s2, s3, s4, s5, s6⟩ := mdO_cells h3 (q := q) (List.Mem.tail _ (List.Mem.head _))
        have k1 := Sep.cell h3 (b := t) (j := 1) (List.Mem.tail _ (List.Mem.tail _ (List.Mem.tail _ (List.Mem.head _)))) rfl
        have H4 := Hid.mk h3
        have HRW : Hid (wc.ownsRow 0 56 7 (.slice lo ml.length lc) ml.length (mcells ml)) := Sep.owns h3 (by simp [twL, twM])
        obtain ⟨fn, hfn⟩ : ∃ fn, (fillV l.slots args).length = fn := ⟨_, rfl⟩
        obtain ⟨lm, hlm⟩ : ∃ lm, ml.length = lm := ⟨_, rfl⟩
        have HLM := Hid.mk hlm
        rw [hfn] at s4
        have HFN := Hid.mk hfn
        rw [hlm] at k1 HRW hml
        clear hcut h3 hfn hlm H3 HAV
        apply_assumption
        go_upto_region 9 with (fail)
        refine wp_region_L 10 (fun X => X.cell? ⟨t, 1, none⟩ = some (.slice lo lm lc) ∧ X.cell? ⟨q, 0, none⟩ = some (.slice vl l.slots.length vlc) ∧ X.cell? ⟨q, 1, none⟩ = some (.int .i64 l.args) ∧ X.cell? ⟨q, 2, none⟩ = some (.int .i64 l.res) ∧ X.cell? ⟨q, 3, none⟩ = some (.int .i64 l.height) ∧ X.cell? ⟨q, 4, none⟩ = some (.slice va fn vc) ∧ X.cell? ⟨q, 5, none⟩ = some (.slice none 0 0) ∧ X.cell? ⟨q, 6, none⟩ = some (.int .i64 (many + 1))) (by kernel_rfl) ⟨k1, s0, s1, s2, s3, s4, s5, s6⟩ (fun hHeld => ?_)
        refine wpAnyL_take (i := 0) (v := ?_) rfl (by kernel_rfl) (by kernel_rfl) (by kernel_rfl) (by kernel_rfl) (fun _ _ _ h => h) (Or.inl ⟨by rfl, ?_⟩) (by assumption) ?_
        rotate_left
        · (intro w hSw; (try dsimp only at hSw); go_simp <;> with_reducible rfl)
        (try simp only [Act.put, List.getElem_toArray, List.getElem_cons_zero, List.getElem_cons_succ, List.setIfInBounds_toArray, List.set_cons_zero, List.set_cons_succ])
        refine wpAnyL_take (i := 1) (v := ?_) rfl (by kernel_rfl) (by kernel_rfl) (by kernel_rfl) (by kernel_rfl) (fun _ _ _ h => h) (Or.inl ⟨by rfl, ?_⟩) (by assumption) ?_
        rotate_left
        · (intro w hSw; (try dsimp only at hSw); go_simp <;> with_reducible rfl)
        (try simp only [Act.put, List.getElem_toArray, List.getElem_cons_zero, List.getElem_cons_succ, List.setIfInBounds_toArray, List.set_cons_zero, List.set_cons_succ])
        refine wpAnyL_take (i := 2) (v := ?_) rfl (by kernel_rfl) (by kernel_rfl) (by kernel_rfl) (by kernel_rfl) (fun _ _ _ h => h) (Or.inl ⟨by rfl, ?_⟩) (by assumption) ?_
        rotate_left
        · (intro w hSw; (try dsimp only at hSw); go_simp <;> with_reducible rfl)
        (try simp only [Act.put, List.getElem_toArray, List.getElem_cons_zero, List.getElem_cons_succ, List.setIfInBounds_toArray, List.set_cons_zero, List.set_cons_succ])
        refine wpAnyL_take (i := 3) (v := ?_) rfl (by kernel_rfl) (by kernel_rfl) (by kernel_rfl) (by kernel_rfl) (fun _ _ _ h => h) (Or.inl ⟨by rfl, ?_⟩) (by assumption) ?_
        rotate_left
        · (intro w hSw; (try dsimp only at hSw); go_simp <;> with_reducible rfl)
        (try simp only [Act.put, List.getElem_toArray, List.getElem_cons_zero, List.getElem_cons_succ, List.setIfInBounds_toArray, List.set_cons_zero, List.set_cons_succ])
        refine wpAnyL_take (i := 4) (v := ?_) rfl (by kernel_rfl) (by kernel_rfl) (by kernel_rfl) (by kernel_rfl) (fun _ _ _ h => h) (Or.inl ⟨by rfl, ?_⟩) (by assumption) ?_
        rotate_left
        · (intro w hSw; (try dsimp only at hSw); go_simp <;> with_reducible rfl)
        (try simp only [Act.put, List.getElem_toArray, List.getElem_cons_zero, List.getElem_cons_succ, List.setIfInBounds_toArray, List.set_cons_zero, List.set_cons_succ])
        refine wpAnyL_take (i := 5) (v := ?_) rfl (by kernel_rfl) (by kernel_rfl) (by kernel_rfl) (by kernel_rfl) (fun _ _ _ h => h) (Or.inl ⟨by rfl, ?_⟩) (by assumption) ?_
        rotate_left
        · (intro w hSw; (try dsimp only at hSw); go_simp <;> with_reducible rfl)
        (try simp only [Act.put, List.getElem_toArray, List.getElem_cons_zero, List.getElem_cons_succ, List.setIfInBounds_toArray, List.set_cons_zero, List.set_cons_succ])
        refine wpAnyL_only (i := 6) (by kernel_rfl) rfl (fun K hK => ?_)
        go_simp
        refine hK _ _ (fun _ => ⟨alloc_cell k1, alloc_cell s0, alloc_cell s1, alloc_cell s2, alloc_cell s3, alloc_cell s4, alloc_cell s5, alloc_cell s6⟩) (fun hHeld0 => ?_)
        have hHeld := hHeld0 rfl
        clear hK K hHeld0
        (try simp only [Act.put, List.getElem_toArray, List.getElem_cons_zero, List.getElem_cons_succ, List.setIfInBounds_toArray, List.set_cons_zero, List.set_cons_succ])
        have hnw := heap_alloc_new wc (.cells #[.slice vl l.slots.length vlc, .int .i64 l.args, .int .i64 l.res, .int .i64 l.height, .slice va fn vc, .slice none 0 0, .int .i64 (many + 1)] 56)
        refine wpAnyL_only (i := 7) (by kernel_rfl) rfl (fun K hK => ?_)
        refine step_append_x _ (by rfl) _ _ _ (by rfl) 0 56 j0 (.agg #[.slice none 0 0, .int .i64 0, .int .i64 0, .int .i64 0, .slice none 0 0, .slice none 0 0, .int .i64 0]) 7 104 Tryz.underlying41 hj hy0 hy1 hy2 rfl (by omega) _ lm (mcells ml) (by rfl) ((HRW.out.alloc _).drew) 1 (#[.slice vl l.slots.length vlc, .int .i64 l.args, .int .i64 l.res, .int .i64 l.height, .slice va fn vc, .slice none 0 0, .int .i64 (many + 1)] : Array Value).toList _ (by rfl) (AppArg.one (w := (wc.alloc (.cells #[.slice vl l.slots.length vlc, .int .i64 l.args, .int .i64 l.res, .int .i64 l.height, .slice va fn vc, .slice none 0 0, .int .i64 (many + 1)] 56)).drew) hnw rfl (by simp [Value.oneCell'])) (by unfold maxLen; omega) (by omega) (Nat.zero_le _) ?_
        intro g2 cap2 w12 hown2 hg2 hat2
        have h4 : Sep w (rw_ 0 56 7 (.slice lo lm lc) lm (mcells ml) :: vrow (.slice va fn vc) (fillV l.slots args) :: bx q (mdO (.slice vl l.slots.length vlc) l (.slice va fn vc) (many + 1)) :: rw_ 0 3 1 (.slice vl l.slots.length vlc) l.slots.length (icells l.slots) :: twB t b (.slice lo lm lc) pv (many + 1) :: twQ pv Q :: (ml.map mrow ++ (bx B (layO (.slice ao l.slots.length c) l) :: G))) wc := by
          have := Sep.pick 4 H4.out rfl
          rw [HLM.out, HFN.out] at this
          have e : twM (.slice lo lm lc) ml = rw_ 0 56 7 (.slice lo lm lc) lm (mcells ml) := by unfold twM; rw [HLM.out]
          rw [e] at this
          exact this
        have h5 := Sep.app (Sep.keep h4 (((Below.refl _ _).alloc (Nat.le_refl _) (.cells #[.slice vl l.slots.length vlc, .int .i64 l.args, .int .i64 l.res, .int .i64 l.height, .slice va fn vc, .slice none 0 0, .int .i64 (many + 1)] 56)).drew)) hown2 hg2 hat2
        have hE := bg_end (md := ⟨l, fillV l.slots args, [], many + 1, link⟩) (by rw [HLM.out]; exact h5) rfl
        have k1' := Sep.cell h5 (b := t) (j := 1) (List.Mem.tail _ (List.Mem.tail _ (List.Mem.tail _ (List.Mem.tail _ (List.Mem.head _))))) rfl
        have z1' := Sep.free h5 (b := t) (List.Mem.tail _ (List.Mem.tail _ (List.Mem.tail _ (List.Mem.tail _ (List.Mem.head _))))) 1
        obtain ⟨t0, t1, t2, t3, t4, t5, t6⟩ := mdO_cells h5 (q := q) (List.Mem.tail _ (List.Mem.tail _ (List.Mem.head _)))
        have HE := Hid.mk hE
        clear hE h5 h4 hown2 hg2 hat2 HRW H4 hnw
        refine hK _ _ (fun _ => ⟨k1', t0, t1, t2, t3, t4, t5, t6⟩) (fun hHeld0 => ?_)
        have hHeld := hHeld0 rfl
        clear hK K hHeld0
        (try simp only [Act.put, List.getElem_toArray, List.getElem_cons_zero, List.getElem_cons_succ, List.setIfInBounds_toArray, List.set_cons_zero, List.set_cons_succ])
        refine wpAnyL_only (i := 8) (by kernel_rfl) rfl (fun K hK => ?_)
        go_simp
        refine hK _ _ (fun _ => ⟨k1', t0, t1, t2, t3, t4, t5, t6⟩) (fun hHeld0 => ?_)
        have hHeld := hHeld0 rfl
        clear hK K hHeld0
        (try simp only [Act.put, List.getElem_toArray, List.getElem_cons_zero, List.getElem_cons_succ, List.setIfInBounds_toArray, List.set_cons_zero, List.set_cons_succ])
        refine wpAnyL_only (i := 9) (by kernel_rfl) rfl (fun K hK => ?_)
        go_simp
        refine hK _ _ (fun _ => ⟨k1', t0, t1, t2, t3, t4, t5, t6⟩) (fun hHeld0 => ?_)
        have hHeld := hHeld0 rfl
        clear hK K hHeld0
        (try simp only [Act.put, List.getElem_toArray, List.getElem_cons_zero, List.getElem_cons_succ, List.setIfInBounds_toArray, List.set_cons_zero, List.set_cons_succ])
        refine wpAnyL_only (i := 10) (by kernel_rfl) rfl (fun K hK => ?_)
        go_simp
        refine hK _ _ (fun q => by cases q) (fun hHeld0 => ?_)
        clear hK K hHeld0
        refine wpAnyL_done (by kernel_rfl) ?_
        go_end0
        exact ⟨⟨_, _, HE.out, rfl⟩, _, rfl⟩
    · have hle : m ≤ n := by have := HAR.out; rw [HN.out, HM.out] at this; omega
      rcases hrd with ⟨e9, -⟩ | ⟨bb, oo, c', e9, hbb, hcs⟩ | ⟨⟨bb, oo, sp⟩, c', e9, -⟩
      · simp only [Value.slice.injEq] at e9
        omega
      · rw [HN.out] at e9
        simp only [Value.slice.injEq, true_and] at e9
        obtain ⟨rfl, rfl⟩ := e9
        have HSC : Hid (∀ W', Sep w G W' → ∀ (k : Nat) (hk : k < l.slots.length), W'.cell? ⟨bb, oo + k, none⟩ = some (.int .i64 l.slots[k])) := fun W' q k hk => by
          rcases HSL.out W' q with ⟨e9, -⟩ | ⟨b', o', c', e9, -, hc⟩ | ⟨ad9, c9, e9, e8⟩
          · simp at e9
          · simp only [Value.slice.injEq, Option.some.injEq, Addr.mk.injEq, and_true] at e9
            obtain ⟨⟨rfl, rfl⟩, -⟩ := e9
            exact hc k hk
          · rw [e8] at hk
            simp at hk
        clear hcs hbb
        go_upto_block 0 with (fail)
        go_cut [] (fun X => Hid (∃ av', Sep w (vrow av' (fillV l.slots args) :: bx q (mdO lv2 l av' (many + 1)) :: rw_ 0 3 1 lv2 l.slots.length (icells l.slots) :: (twL t b lv pv ml Q (many + 1) ++ (bx B (layO (.slice (some ⟨bb, oo, none⟩) l.slots.length c) l) :: G))) X))
        case first =>
          by_cases hmn : m = n
          · have HE : Hid (∃ av', Sep w (vrow av' (fillV l.slots args) :: bx q (mdO lv2 l av' (many + 1)) :: rw_ 0 3 1 lv2 l.slots.length (icells l.slots) :: (twL t b lv pv ml Q (many + 1) ++ (bx B (layO (.slice (some ⟨bb, oo, none⟩) l.slots.length c) l) :: G))) wc) := by
              rw [HFA.out hmn]
              exact ⟨_, H3.out⟩
            have e0 : n - m = 0 := by omega
            clear H3 HSL HAV hargs
            go_wp2_with fail
            refine wp_loop_rounds 1 ?_
            rw [rounds_succ]
            go_wp2_with fail
            go_meet
            case rel => exact HE.out
          · have hlt : m < n := by have := HAR.out; rw [HN.out, HM.out] at this; omega
            have hargs' := hargs
            clear HSL HAV hargs
            go_wp2_with fail
            go_loopw [34] (fun i wr => ∃ j : Nat, i = .int .i64 j ∧ j ≤ n - m ∧ Hid (∃ av', Sep w (vrow av' ((fillV l.slots args).take (m + j)) :: bx q (mdO lv2 l av' (many + 1)) :: rw_ 0 3 1 lv2 l.slots.length (icells l.slots) :: (twL t b lv pv ml Q (many + 1) ++ (bx B (layO (.slice (some ⟨bb, oo, none⟩) l.slots.length c) l) :: G))) wr)) (fun i _ => n - m - (intOf i).toNat)
            case atStart =>
              refine ⟨0, rfl, by omega, ?_⟩
              have e : (fillV l.slots args).take (m + 0) = args := by
                have := HM.out
                rw [fillV_app hargs', List.take_append_of_le_length (by omega), List.take_of_length_le (by omega)]
              rw [e]
              exact ⟨_, H3.out⟩
            case round =>
              obtain ⟨j, rfl, hj, hs⟩ := hrel
              by_cases hjn : j < n - m
              · have hmj : m + j < l.slots.length := by have := HN.out; omega
                obtain ⟨t', ht⟩ : ∃ t', l.slots[m + j] = t' := ⟨_, rfl⟩
                have hkt : knownB t' = true := by
                  rw [List.all_eq_true] at hkn
                  exact hkn t' (by rw [← ht]; exact List.getElem_mem hmj)
                have c1 : wr.cell? ⟨bb, oo + m + j, none⟩ = some (.int .i64 t') := by
                  rw [Nat.add_assoc, ← ht]
                  obtain ⟨av', hs⟩ := hs.out
                  exact HSC.out _ (bg_G hs) _ hmj
                have z1 : decide ((j : Int) < ((n - m : Nat) : Int)) = true := by simp; omega
                have HZ := Hid.mk (vZero_any t' hkt wr)
                obtain ⟨av', hs⟩ := hs.out
                have htk : (fillV l.slots args).take (m + j + 1) = (fillV l.slots args).take (m + j) ++ [(t', 0)] := by
                  have e2 : (fillV l.slots args)[m + j]? = some (t', 0) := by
                    rw [fillV_app hargs', List.getElem?_append_right (by have := HM.out; omega), List.getElem?_map, List.getElem?_drop]
                    have e3 : args.length + (m + j - args.length) = m + j := by have := HM.out; omega
                    rw [e3, List.getElem?_eq_getElem hmj, ht]
                    rfl
                  rw [List.take_add_one, e2]
                  rfl
                have hvl : ((fillV l.slots args).take (m + j)).length = m + j := by
                  rw [List.length_take, fillV_len]
                  omega
                obtain ⟨vs, hvs⟩ : ∃ vs, (fillV l.slots args).take (m + j) = vs := ⟨_, rfl⟩
                rw [hvs] at hs htk hvl
                obtain ⟨va, vc, rfl⟩ := own_shape (hs.owns (List.Mem.head _))
                have HS := Hid.mk hs
                have HTK := Hid.mk htk
                rw [hvl] at HS
                clear hs htk hvs ht hkt
                go_wp2_with fail
                refine HZ.out.mono ?_
                rintro e w7 ⟨hb7, rfl⟩
                have hB2 := ((Below.refl w7.heap.size w7).alloc (Nat.le_refl _) (.cells #[.int .i64 t', .int .i64 0] 34)).alloc (by simp) (.cells #[.int .i64 t', .int .i64 0] 34)
                have h7 := HS.out.keep hb7
                have c5 := Sep.cell h7 (b := q) (j := 4) (List.Mem.tail _ (List.Mem.head _)) rfl
                have c6 := alloc_cell (o := .cells #[.int .i64 t', .int .i64 0] 34) c5
                have H8 := Hid.mk (h7.keep hB2)
                have hnw := heap_alloc_new (w7.alloc (.cells #[.int .i64 t', .int .i64 0] 34)) (.cells #[.int .i64 t', .int .i64 0] 34)
                rw [World.size_alloc] at hnw
                have HNW := Hid.mk hnw
                clear hnw
                clear HZ h7 hB2 HS c1
                go_wp2_with (at_builtin; refine wpList_append_x _ rfl (.tmp 44) (.tmp 46) 32 rfl 0 34 i0 (.agg #[.int .i64 0, .int .i64 0]) 2 16 Tryz.underlying32 hi hz0 hz1 hz2 rfl (by omega) _ (m + j) (wcells vs) rfl (bg_row H8.out hvl) 1 [.int .i64 t', .int .i64 0] _ (by rfl) (AppArg.one HNW.out rfl (by simp [Value.oneCell'])) (by unfold maxLen; omega) (by omega) (Nat.zero_le _) ?_)
                intro a2 c2 w9 hown hg hat
                obtain ⟨hE, f4, zf⟩ := bg_step (u := (t', 0)) H8.out hvl hown hg (by rw [World.size_alloc, World.size_alloc]; exact hat)
                rw [← HTK.out] at hE
                have HE := Hid.mk hE
                have zf := zf 4
                clear hE hown hg hat H8 HNW c5 c6
                go_wp2_with fail
                exact ⟨⟨j + 1, by go_num, by omega, _, HE.out⟩, by simp [intOf]; omega⟩
              · have e1 : j = n - m := by omega
                have z1 : decide ((j : Int) < ((n - m : Nat) : Int)) = false := by simp; omega
                have HE : Hid (∃ av', Sep w (vrow av' (fillV l.slots args) :: bx q (mdO lv2 l av' (many + 1)) :: rw_ 0 3 1 lv2 l.slots.length (icells l.slots) :: (twL t b lv pv ml Q (many + 1) ++ (bx B (layO (.slice (some ⟨bb, oo, none⟩) l.slots.length c) l) :: G))) wr) := by
                  have e2 : (fillV l.slots args).take (m + j) = fillV l.slots args := List.take_of_length_le (by rw [fillV_len, HN.out]; omega)
                  have := hs.out
                  rwa [e2] at this
                clear hs e1
                go_wp2_with fail
                go_meet
                case rel => exact HE.out
        case rest =>
          obtain ⟨av', h3⟩ := hcut.out
          obtain ⟨va, vc, rfl⟩ := own_shape (h3.owns (List.Mem.head _))
          obtain ⟨vl, vlc, rfl⟩ := own_shape (h3.owns (v := lv2) (List.Mem.tail _ (List.Mem.tail _ (List.Mem.head _))))
          obtain ⟨lo, lc, rfl⟩ := own_shape (Sep.owns (base := 0) (T := 56) (n := 7) (v := lv) (m := ml.length) (xs := mcells ml) h3 (by simp [twL, twM]))
          obtain ⟨s0, s1, s2, s3, s4, s5, s6⟩ := mdO_cells h3 (q := q) (List.Mem.tail _ (List.Mem.head _))
          have k1 := Sep.cell h3 (b := t) (j := 1) (List.Mem.tail _ (List.Mem.tail _ (List.Mem.tail _ (List.Mem.head _)))) rfl
          have H4 := Hid.mk h3
          have HRW : Hid (wc.ownsRow 0 56 7 (.slice lo ml.length lc) ml.length (mcells ml)) := Sep.owns h3 (by simp [twL, twM])
          obtain ⟨fn, hfn⟩ : ∃ fn, (fillV l.slots args).length = fn := ⟨_, rfl⟩
          obtain ⟨lm, hlm⟩ : ∃ lm, ml.length = lm := ⟨_, rfl⟩
          have HLM := Hid.mk hlm
          rw [hfn] at s4
          have HFN := Hid.mk hfn
          rw [hlm] at k1 HRW hml
          clear hcut h3 hfn hlm H3 HAV
          apply_assumption
          go_upto_region 9 with (fail)
          refine wp_region_L 10 (fun X => X.cell? ⟨t, 1, none⟩ = some (.slice lo lm lc) ∧ X.cell? ⟨q, 0, none⟩ = some (.slice vl l.slots.length vlc) ∧ X.cell? ⟨q, 1, none⟩ = some (.int .i64 l.args) ∧ X.cell? ⟨q, 2, none⟩ = some (.int .i64 l.res) ∧ X.cell? ⟨q, 3, none⟩ = some (.int .i64 l.height) ∧ X.cell? ⟨q, 4, none⟩ = some (.slice va fn vc) ∧ X.cell? ⟨q, 5, none⟩ = some (.slice none 0 0) ∧ X.cell? ⟨q, 6, none⟩ = some (.int .i64 (many + 1))) (by kernel_rfl) ⟨k1, s0, s1, s2, s3, s4, s5, s6⟩ (fun hHeld => ?_)
          refine wpAnyL_take (i := 0) (v := ?_) rfl (by kernel_rfl) (by kernel_rfl) (by kernel_rfl) (by kernel_rfl) (fun _ _ _ h => h) (Or.inl ⟨by rfl, ?_⟩) (by assumption) ?_
          rotate_left
          · (intro w hSw; (try dsimp only at hSw); go_simp <;> with_reducible rfl)
          (try simp only [Act.put, List.getElem_toArray, List.getElem_cons_zero, List.getElem_cons_succ, List.setIfInBounds_toArray, List.set_cons_zero, List.set_cons_succ])
          refine wpAnyL_take (i := 1) (v := ?_) rfl (by kernel_rfl) (by kernel_rfl) (by kernel_rfl) (by kernel_rfl) (fun _ _ _ h => h) (Or.inl ⟨by rfl, ?_⟩) (by assumption) ?_
          rotate_left
          · (intro w hSw; (try dsimp only at hSw); go_simp <;> with_reducible rfl)
          (try simp only [Act.put, List.getElem_toArray, List.getElem_cons_zero, List.getElem_cons_succ, List.setIfInBounds_toArray, List.set_cons_zero, List.set_cons_succ])
          refine wpAnyL_take (i := 2) (v := ?_) rfl (by kernel_rfl) (by kernel_rfl) (by kernel_rfl) (by kernel_rfl) (fun _ _ _ h => h) (Or.inl ⟨by rfl, ?_⟩) (by assumption) ?_
          rotate_left
          · (intro w hSw; (try dsimp only at hSw); go_simp <;> with_reducible rfl)
          (try simp only [Act.put, List.getElem_toArray, List.getElem_cons_zero, List.getElem_cons_succ, List.setIfInBounds_toArray, List.set_cons_zero, List.set_cons_succ])
          refine wpAnyL_take (i := 3) (v := ?_) rfl (by kernel_rfl) (by kernel_rfl) (by kernel_rfl) (by kernel_rfl) (fun _ _ _ h => h) (Or.inl ⟨by rfl, ?_⟩) (by assumption) ?_
          rotate_left
          · (intro w hSw; (try dsimp only at hSw); go_simp <;> with_reducible rfl)
          (try simp only [Act.put, List.getElem_toArray, List.getElem_cons_zero, List.getElem_cons_succ, List.setIfInBounds_toArray, List.set_cons_zero, List.set_cons_succ])
          refine wpAnyL_take (i := 4) (v := ?_) rfl (by kernel_rfl) (by kernel_rfl) (by kernel_rfl) (by kernel_rfl) (fun _ _ _ h => h) (Or.inl ⟨by rfl, ?_⟩) (by assumption) ?_
          rotate_left
          · (intro w hSw; (try dsimp only at hSw); go_simp <;> with_reducible rfl)
          (try simp only [Act.put, List.getElem_toArray, List.getElem_cons_zero, List.getElem_cons_succ, List.setIfInBounds_toArray, List.set_cons_zero, List.set_cons_succ])
          refine wpAnyL_take (i := 5) (v := ?_) rfl (by kernel_rfl) (by kernel_rfl) (by kernel_rfl) (by kernel_rfl) (fun _ _ _ h => h) (Or.inl ⟨by rfl, ?_⟩) (by assumption) ?_
          rotate_left
          · (intro w hSw; (try dsimp only at hSw); go_simp <;> with_reducible rfl)
          (try simp only [Act.put, List.getElem_toArray, List.getElem_cons_zero, List.getElem_cons_succ, List.setIfInBounds_toArray, List.set_cons_zero, List.set_cons_succ])
          refine wpAnyL_only (i := 6) (by kernel_rfl) rfl (fun K hK => ?_)
          go_simp
          refine hK _ _ (fun _ => ⟨alloc_cell k1, alloc_cell s0, alloc_cell s1, alloc_cell s2, alloc_cell s3, alloc_cell s4, alloc_cell s5, alloc_cell s6⟩) (fun hHeld0 => ?_)
          have hHeld := hHeld0 rfl
          clear hK K hHeld0
          (try simp only [Act.put, List.getElem_toArray, List.getElem_cons_zero, List.getElem_cons_succ, List.setIfInBounds_toArray, List.set_cons_zero, List.set_cons_succ])
          have hnw := heap_alloc_new wc (.cells #[.slice vl l.slots.length vlc, .int .i64 l.args, .int .i64 l.res, .int .i64 l.height, .slice va fn vc, .slice none 0 0, .int .i64 (many + 1)] 56)
          refine wpAnyL_only (i := 7) (by kernel_rfl) rfl (fun K hK => ?_)
          refine step_append_x _ (by rfl) _ _ _ (by rfl) 0 56 j0 (.agg #[.slice none 0 0, .int .i64 0, .int .i64 0, .int .i64 0, .slice none 0 0, .slice none 0 0, .int .i64 0]) 7 104 Tryz.underlying41 hj hy0 hy1 hy2 rfl (by omega) _ lm (mcells ml) (by rfl) ((HRW.out.alloc _).drew) 1 (#[.slice vl l.slots.length vlc, .int .i64 l.args, .int .i64 l.res, .int .i64 l.height, .slice va fn vc, .slice none 0 0, .int .i64 (many + 1)] : Array Value).toList _ (by rfl) (AppArg.one (w := (wc.alloc (.cells #[.slice vl l.slots.length vlc, .int .i64 l.args, .int .i64 l.res, .int .i64 l.height, .slice va fn vc, .slice none 0 0, .int .i64 (many + 1)] 56)).drew) hnw rfl (by simp [Value.oneCell'])) (by unfold maxLen; omega) (by omega) (Nat.zero_le _) ?_
          intro g2 cap2 w12 hown2 hg2 hat2
          have h4 : Sep w (rw_ 0 56 7 (.slice lo lm lc) lm (mcells ml) :: vrow (.slice va fn vc) (fillV l.slots args) :: bx q (mdO (.slice vl l.slots.length vlc) l (.slice va fn vc) (many + 1)) :: rw_ 0 3 1 (.slice vl l.slots.length vlc) l.slots.length (icells l.slots) :: twB t b (.slice lo lm lc) pv (many + 1) :: twQ pv Q :: (ml.map mrow ++ (bx B (layO (.slice (some ⟨bb, oo, none⟩) l.slots.length c) l) :: G))) wc := by
            have := Sep.pick 4 H4.out rfl
            rw [HLM.out, HFN.out] at this
            have e : twM (.slice lo lm lc) ml = rw_ 0 56 7 (.slice lo lm lc) lm (mcells ml) := by unfold twM; rw [HLM.out]
            rw [e] at this
            exact this
          have h5 := Sep.app (Sep.keep h4 (((Below.refl _ _).alloc (Nat.le_refl _) (.cells #[.slice vl l.slots.length vlc, .int .i64 l.args, .int .i64 l.res, .int .i64 l.height, .slice va fn vc, .slice none 0 0, .int .i64 (many + 1)] 56)).drew)) hown2 hg2 hat2
          have hE := bg_end (md := ⟨l, fillV l.slots args, [], many + 1, link⟩) (by rw [HLM.out]; exact h5) rfl
          have k1' := Sep.cell h5 (b := t) (j := 1) (List.Mem.tail _ (List.Mem.tail _ (List.Mem.tail _ (List.Mem.tail _ (List.Mem.head _))))) rfl
          have z1' := Sep.free h5 (b := t) (List.Mem.tail _ (List.Mem.tail _ (List.Mem.tail _ (List.Mem.tail _ (List.Mem.head _))))) 1
          obtain ⟨t0, t1, t2, t3, t4, t5, t6⟩ := mdO_cells h5 (q := q) (List.Mem.tail _ (List.Mem.tail _ (List.Mem.head _)))
          have HE := Hid.mk hE
          clear hE h5 h4 hown2 hg2 hat2 HRW H4 hnw
          refine hK _ _ (fun _ => ⟨k1', t0, t1, t2, t3, t4, t5, t6⟩) (fun hHeld0 => ?_)
          have hHeld := hHeld0 rfl
          clear hK K hHeld0
          (try simp only [Act.put, List.getElem_toArray, List.getElem_cons_zero, List.getElem_cons_succ, List.setIfInBounds_toArray, List.set_cons_zero, List.set_cons_succ])
          refine wpAnyL_only (i := 8) (by kernel_rfl) rfl (fun K hK => ?_)
          go_simp
          refine hK _ _ (fun _ => ⟨k1', t0, t1, t2, t3, t4, t5, t6⟩) (fun hHeld0 => ?_)
          have hHeld := hHeld0 rfl
          clear hK K hHeld0
          (try simp only [Act.put, List.getElem_toArray, List.getElem_cons_zero, List.getElem_cons_succ, List.setIfInBounds_toArray, List.set_cons_zero, List.set_cons_succ])
          refine wpAnyL_only (i := 9) (by kernel_rfl) rfl (fun K hK => ?_)
          go_simp
          refine hK _ _ (fun _ => ⟨k1', t0, t1, t2, t3, t4, t5, t6⟩) (fun hHeld0 => ?_)
          have hHeld := hHeld0 rfl
          clear hK K hHeld0
          (try simp only [Act.put, List.getElem_toArray, List.getElem_cons_zero, List.getElem_cons_succ, List.setIfInBounds_toArray, List.set_cons_zero, List.set_cons_succ])
          refine wpAnyL_only (i := 10) (by kernel_rfl) rfl (fun K hK => ?_)
          go_simp
          refine hK _ _ (fun q => by cases q) (fun hHeld0 => ?_)
          clear hK K hHeld0
          refine wpAnyL_done (by kernel_rfl) ?_
          go_end0
          exact ⟨⟨_, _, HE.out, rfl⟩, _, rfl⟩
      · simp only [Value.slice.injEq] at e9
        obtain ⟨rfl, hn0, rfl⟩ := e9
        subst hn0
        obtain rfl : m = 0 := by omega
        go_upto_block 0 with (fail)
        go_cut [] (fun X => Hid (∃ av', Sep w (vrow av' (fillV l.slots args) :: bx q (mdO lv2 l av' (many + 1)) :: rw_ 0 3 1 lv2 l.slots.length (icells l.slots) :: (twL t b lv pv ml Q (many + 1) ++ (bx B (layO (.slice (some ⟨bb, oo, sp⟩) l.slots.length c) l) :: G))) X))
        case first =>
          have HE : Hid (∃ av', Sep w (vrow av' (fillV l.slots args) :: bx q (mdO lv2 l av' (many + 1)) :: rw_ 0 3 1 lv2 l.slots.length (icells l.slots) :: (twL t b lv pv ml Q (many + 1) ++ (bx B (layO (.slice (some ⟨bb, oo, sp⟩) l.slots.length c) l) :: G))) wc) := by
            rw [HFA.out rfl]
            exact ⟨_, H3.out⟩
          have e0 : (0 : Nat) - 0 = 0 := rfl
          clear H3 HSL HAV hargs
          go_wp2_with fail
          refine wp_loop_rounds 1 ?_
          rw [rounds_succ]
          go_wp2_with fail
          go_meet
          case rel => exact HE.out
        case rest =>
          obtain ⟨av', h3⟩ := hcut.out
          obtain ⟨va, vc, rfl⟩ := own_shape (h3.owns (List.Mem.head _))
          obtain ⟨vl, vlc, rfl⟩ := own_shape (h3.owns (v := lv2) (List.Mem.tail _ (List.Mem.tail _ (List.Mem.head _))))
          obtain ⟨lo, lc, rfl⟩ := own_shape (Sep.owns (base := 0) (T := 56) (n := 7) (v := lv) (m := ml.length) (xs := mcells ml) h3 (by simp [twL, twM]))
          obtain ⟨s0, s1, s2, s3, s4, s5, s6⟩ := mdO_cells h3 (q := q) (List.Mem.tail _ (List.Mem.head _))
          have k1 := Sep.cell h3 (b := t) (j := 1) (List.Mem.tail _ (List.Mem.tail _ (List.Mem.tail _ (List.Mem.head _)))) rfl
          have H4 := Hid.mk h3
          have HRW : Hid (wc.ownsRow 0 56 7 (.slice lo ml.length lc) ml.length (mcells ml)) := Sep.owns h3 (by simp [twL, twM])
          obtain ⟨fn, hfn⟩ : ∃ fn, (fillV l.slots args).length = fn := ⟨_, rfl⟩
          obtain ⟨lm, hlm⟩ : ∃ lm, ml.length = lm := ⟨_, rfl⟩
          have HLM := Hid.mk hlm
          rw [hfn] at s4
          have HFN := Hid.mk hfn
          rw [hlm] at k1 HRW hml
          clear hcut h3 hfn hlm H3 HAV
          apply_assumption
          go_upto_region 9 with (fail)
          refine wp_region_L 10 (fun X => X.cell? ⟨t, 1, none⟩ = some (.slice lo lm lc) ∧ X.cell? ⟨q, 0, none⟩ = some (.slice vl l.slots.length vlc) ∧ X.cell? ⟨q, 1, none⟩ = some (.int .i64 l.args) ∧ X.cell? ⟨q, 2, none⟩ = some (.int .i64 l.res) ∧ X.cell? ⟨q, 3, none⟩ = some (.int .i64 l.height) ∧ X.cell? ⟨q, 4, none⟩ = some (.slice va fn vc) ∧ X.cell? ⟨q, 5, none⟩ = some (.slice none 0 0) ∧ X.cell? ⟨q, 6, none⟩ = some (.int .i64 (many + 1))) (by kernel_rfl) ⟨k1, s0, s1, s2, s3, s4, s5, s6⟩ (fun hHeld => ?_)
          refine wpAnyL_take (i := 0) (v := ?_) rfl (by kernel_rfl) (by kernel_rfl) (by kernel_rfl) (by kernel_rfl) (fun _ _ _ h => h) (Or.inl ⟨by rfl, ?_⟩) (by assumption) ?_
          rotate_left
          · (intro w hSw; (try dsimp only at hSw); go_simp <;> with_reducible rfl)
          (try simp only [Act.put, List.getElem_toArray, List.getElem_cons_zero, List.getElem_cons_succ, List.setIfInBounds_toArray, List.set_cons_zero, List.set_cons_succ])
          refine wpAnyL_take (i := 1) (v := ?_) rfl (by kernel_rfl) (by kernel_rfl) (by kernel_rfl) (by kernel_rfl) (fun _ _ _ h => h) (Or.inl ⟨by rfl, ?_⟩) (by assumption) ?_
          rotate_left
          · (intro w hSw; (try dsimp only at hSw); go_simp <;> with_reducible rfl)
          (try simp only [Act.put, List.getElem_toArray, List.getElem_cons_zero, List.getElem_cons_succ, List.setIfInBounds_toArray, List.set_cons_zero, List.set_cons_succ])
          refine wpAnyL_take (i := 2) (v := ?_) rfl (by kernel_rfl) (by kernel_rfl) (by kernel_rfl) (by kernel_rfl) (fun _ _ _ h => h) (Or.inl ⟨by rfl, ?_⟩) (by assumption) ?_
          rotate_left
          · (intro w hSw; (try dsimp only at hSw); go_simp <;> with_reducible rfl)
          (try simp only [Act.put, List.getElem_toArray, List.getElem_cons_zero, List.getElem_cons_succ, List.setIfInBounds_toArray, List.set_cons_zero, List.set_cons_succ])
          refine wpAnyL_take (i := 3) (v := ?_) rfl (by kernel_rfl) (by kernel_rfl) (by kernel_rfl) (by kernel_rfl) (fun _ _ _ h => h) (Or.inl ⟨by rfl, ?_⟩) (by assumption) ?_
          rotate_left
          · (intro w hSw; (try dsimp only at hSw); go_simp <;> with_reducible rfl)
          (try simp only [Act.put, List.getElem_toArray, List.getElem_cons_zero, List.getElem_cons_succ, List.setIfInBounds_toArray, List.set_cons_zero, List.set_cons_succ])
          refine wpAnyL_take (i := 4) (v := ?_) rfl (by kernel_rfl) (by kernel_rfl) (by kernel_rfl) (by kernel_rfl) (fun _ _ _ h => h) (Or.inl ⟨by rfl, ?_⟩) (by assumption) ?_
          rotate_left
          · (intro w hSw; (try dsimp only at hSw); go_simp <;> with_reducible rfl)
          (try simp only [Act.put, List.getElem_toArray, List.getElem_cons_zero, List.getElem_cons_succ, List.setIfInBounds_toArray, List.set_cons_zero, List.set_cons_succ])
          refine wpAnyL_take (i := 5) (v := ?_) rfl (by kernel_rfl) (by kernel_rfl) (by kernel_rfl) (by kernel_rfl) (fun _ _ _ h => h) (Or.inl ⟨by rfl, ?_⟩) (by assumption) ?_
          rotate_left
          · (intro w hSw; (try dsimp only at hSw); go_simp <;> with_reducible rfl)
          (try simp only [Act.put, List.getElem_toArray, List.getElem_cons_zero, List.getElem_cons_succ, List.setIfInBounds_toArray, List.set_cons_zero, List.set_cons_succ])
          refine wpAnyL_only (i := 6) (by kernel_rfl) rfl (fun K hK => ?_)
          go_simp
          refine hK _ _ (fun _ => ⟨alloc_cell k1, alloc_cell s0, alloc_cell s1, alloc_cell s2, alloc_cell s3, alloc_cell s4, alloc_cell s5, alloc_cell s6⟩) (fun hHeld0 => ?_)
          have hHeld := hHeld0 rfl
          clear hK K hHeld0
          (try simp only [Act.put, List.getElem_toArray, List.getElem_cons_zero, List.getElem_cons_succ, List.setIfInBounds_toArray, List.set_cons_zero, List.set_cons_succ])
          have hnw := heap_alloc_new wc (.cells #[.slice vl l.slots.length vlc, .int .i64 l.args, .int .i64 l.res, .int .i64 l.height, .slice va fn vc, .slice none 0 0, .int .i64 (many + 1)] 56)
          refine wpAnyL_only (i := 7) (by kernel_rfl) rfl (fun K hK => ?_)
          refine step_append_x _ (by rfl) _ _ _ (by rfl) 0 56 j0 (.agg #[.slice none 0 0, .int .i64 0, .int .i64 0, .int .i64 0, .slice none 0 0, .slice none 0 0, .int .i64 0]) 7 104 Tryz.underlying41 hj hy0 hy1 hy2 rfl (by omega) _ lm (mcells ml) (by rfl) ((HRW.out.alloc _).drew) 1 (#[.slice vl l.slots.length vlc, .int .i64 l.args, .int .i64 l.res, .int .i64 l.height, .slice va fn vc, .slice none 0 0, .int .i64 (many + 1)] : Array Value).toList _ (by rfl) (AppArg.one (w := (wc.alloc (.cells #[.slice vl l.slots.length vlc, .int .i64 l.args, .int .i64 l.res, .int .i64 l.height, .slice va fn vc, .slice none 0 0, .int .i64 (many + 1)] 56)).drew) hnw rfl (by simp [Value.oneCell'])) (by unfold maxLen; omega) (by omega) (Nat.zero_le _) ?_
          intro g2 cap2 w12 hown2 hg2 hat2
          have h4 : Sep w (rw_ 0 56 7 (.slice lo lm lc) lm (mcells ml) :: vrow (.slice va fn vc) (fillV l.slots args) :: bx q (mdO (.slice vl l.slots.length vlc) l (.slice va fn vc) (many + 1)) :: rw_ 0 3 1 (.slice vl l.slots.length vlc) l.slots.length (icells l.slots) :: twB t b (.slice lo lm lc) pv (many + 1) :: twQ pv Q :: (ml.map mrow ++ (bx B (layO (.slice (some ⟨bb, oo, sp⟩) l.slots.length c) l) :: G))) wc := by
            have := Sep.pick 4 H4.out rfl
            rw [HLM.out, HFN.out] at this
            have e : twM (.slice lo lm lc) ml = rw_ 0 56 7 (.slice lo lm lc) lm (mcells ml) := by unfold twM; rw [HLM.out]
            rw [e] at this
            exact this
          have h5 := Sep.app (Sep.keep h4 (((Below.refl _ _).alloc (Nat.le_refl _) (.cells #[.slice vl l.slots.length vlc, .int .i64 l.args, .int .i64 l.res, .int .i64 l.height, .slice va fn vc, .slice none 0 0, .int .i64 (many + 1)] 56)).drew)) hown2 hg2 hat2
          have hE := bg_end (md := ⟨l, fillV l.slots args, [], many + 1, link⟩) (by rw [HLM.out]; exact h5) rfl
          have k1' := Sep.cell h5 (b := t) (j := 1) (List.Mem.tail _ (List.Mem.tail _ (List.Mem.tail _ (List.Mem.tail _ (List.Mem.head _))))) rfl
          have z1' := Sep.free h5 (b := t) (List.Mem.tail _ (List.Mem.tail _ (List.Mem.tail _ (List.Mem.tail _ (List.Mem.head _))))) 1
          obtain ⟨t0, t1, t2, t3, t4, t5, t6⟩ := mdO_cells h5 (q := q) (List.Mem.tail _ (List.Mem.tail _ (List.Mem.head _)))
          have HE := Hid.mk hE
          clear hE h5 h4 hown2 hg2 hat2 HRW H4 hnw
          refine hK _ _ (fun _ => ⟨k1', t0, t1, t2, t3, t4, t5, t6⟩) (fun hHeld0 => ?_)
          have hHeld := hHeld0 rfl
          clear hK K hHeld0
          (try simp only [Act.put, List.getElem_toArray, List.getElem_cons_zero, List.getElem_cons_succ, List.setIfInBounds_toArray, List.set_cons_zero, List.set_cons_succ])
          refine wpAnyL_only (i := 8) (by kernel_rfl) rfl (fun K hK => ?_)
          go_simp
          refine hK _ _ (fun _ => ⟨k1', t0, t1, t2, t3, t4, t5, t6⟩) (fun hHeld0 => ?_)
          have hHeld := hHeld0 rfl
          clear hK K hHeld0
          (try simp only [Act.put, List.getElem_toArray, List.getElem_cons_zero, List.getElem_cons_succ, List.setIfInBounds_toArray, List.set_cons_zero, List.set_cons_succ])
          refine wpAnyL_only (i := 9) (by kernel_rfl) rfl (fun K hK => ?_)
          go_simp
          refine hK _ _ (fun _ => ⟨k1', t0, t1, t2, t3, t4, t5, t6⟩) (fun hHeld0 => ?_)
          have hHeld := hHeld0 rfl
          clear hK K hHeld0
          (try simp only [Act.put, List.getElem_toArray, List.getElem_cons_zero, List.getElem_cons_succ, List.setIfInBounds_toArray, List.set_cons_zero, List.set_cons_succ])
          refine wpAnyL_only (i := 10) (by kernel_rfl) rfl (fun K hK => ?_)
          go_simp
          refine hK _ _ (fun q => by cases q) (fun hHeld0 => ?_)
          clear hK K hHeld0
          refine wpAnyL_done (by kernel_rfl) ?_
          go_end0
          exact ⟨⟨_, _, HE.out, rfl⟩, _, rfl⟩
end
end Go.Proofs.YtpfnnmcokbolhaaGreat
