/- Parts Wl Gd Ge, put together. -/
import Derived.Test.YtpfnnmcokbolhaaGreatMd4
import Derived.OrdersHeld
/- Regions that draw their order and end in one store: a condition on the world that is kept until that store. -/
namespace Go.Proofs.YtpfnnmcokbolhaaGreat
open Go.RowKit
section
variable {P : Program} {ops : Array Oper} {Q : Exit → Act → World → Prop} {md : Region.Mode} {S : World → Prop} {k : Nat}
/-- whatever order is picked, S holds behind every operation until operation k has come up -/
def wpAnyL (P : Program) (md : Region.Mode) (ops : Array Oper) (Q : Exit → Act → World → Prop) (S : World → Prop) (k : Nat) : Nat → Array Bool → Act → World → Prop
  | 0, listed, a, w => Region.ready md ops listed = [] ∧ Q .normal a w
  | fuel + 1, listed, a, w =>
    (Region.ready md ops listed = [] → Q .normal a w) ∧
    ∀ i ∈ Region.ready md ops listed, wpOp P ops Q i (fun a' w' => ((listed.setIfInBounds i true).getD k true = false → S w') ∧ wpAnyL P md ops Q S k fuel (listed.setIfInBounds i true) a' w') a w
theorem wpAny_of_L : ∀ (fuel : Nat) (listed : Array Bool) (a : Act) (w : World), wpAnyL P md ops Q S k fuel listed a w → wpAny P md ops Q fuel listed a w
  | 0, _, _, _, h => h
  | fuel + 1, _, _, _, h => ⟨h.1, fun i hi => wpOp_mono (fun a' w' h' => wpAny_of_L fuel _ a' w' h'.2) (h.2 i hi)⟩
theorem wpAnyL_first {i : Nat} {oi : Oper} {v : Value} (hi : ops[i]? = some oi) (hsel : ∀ (j : Nat) (o : Oper) cs b, ops[j]? = some o → o.op ≠ .select cs b)
    (hQ : ∀ c a w, Q (.panic c) (a.put oi.dst v) w → Q (.panic c) a w) (hk : ∃ ok, ops[k]? = some ok ∧ ∃ e ∈ ok.after, Region.binds md e = true ∧ e.on = i) :
    ∀ (fuel : Nat) (listed : Array Bool) (a : Act) (w : World), listed.getD k true = false →
      (∀ j oj, ops[j]? = some oj → j ≠ i → listed.getD j true = false → (∀ e ∈ oj.after, Region.binds md e = true → e.on ≠ i) → oi.apart ops oj = true) →
      i ∈ Region.ready md ops listed → YieldsIf P ops S oi v a → S w →
      wpAnyL P md ops Q S k fuel (listed.setIfInBounds i true) (a.put oi.dst v) w → wpAnyL P md ops Q S k (fuel + 1) listed a w := by
  intro fuel
  induction fuel with
  | zero =>
    intro listed a w _ _ hr hy hS H
    refine ⟨fun h => (by rw [h] at hr; cases hr), fun j hj => ?_⟩
    by_cases hji : j = i
    · subst hji; exact hy.wpOp hi hS ⟨fun _ => hS, H⟩
    · have := ready_mono hj hji
      rw [H.1] at this
      cases this
  | succ fuel ih =>
    intro listed a w hkl hfree hr hy hS H
    refine ⟨fun h => (by rw [h] at hr; cases hr), fun j hj => ?_⟩
    by_cases hji : j = i
    · subst hji; exact hy.wpOp hi hS ⟨fun _ => hS, H⟩
    · have h1 := H.2 j (ready_mono hj hji)
      obtain ⟨hjun, oj, hoj, hall⟩ := mem_ready.1 hj
      have hnot : ∀ e ∈ oj.after, Region.binds md e = true → e.on ≠ i := fun e he hb heq => by
        have h1 := hall e he hb
        have h0 := (mem_ready.1 hr).1
        rw [heq] at h1
        rcases Nat.lt_or_ge i listed.size with h' | h'
        · simp [h'] at h0 h1; rw [h0] at h1; cases h1
        · simp [Array.getElem?_eq_none h'] at h1
      have hjk : j ≠ k := by
        rintro rfl
        obtain ⟨ok, hok, e, he, hb, hei⟩ := hk
        rw [hoj] at hok
        cases hok
        exact hnot e he hb hei
      have hik : i ≠ k := by
        rintro rfl
        obtain ⟨ok, hok, e, he, hb, hei⟩ := hk
        obtain ⟨h0, oi', hoi', hall'⟩ := mem_ready.1 hr
        rw [hok] at hoi'
        cases hoi'
        have h1 := hall' e he hb
        rw [hei] at h1
        rcases Nat.lt_or_ge i listed.size with h' | h'
        · simp [h'] at h0 h1; rw [h0] at h1; cases h1
        · simp [Array.getElem?_eq_none h'] at h1
      have hkl' : (listed.setIfInBounds j true).getD k true = false := by rw [getD_set_ne true hjk]; exact hkl
      have hkl2 : ((listed.setIfInBounds i true).setIfInBounds j true).getD k true = false := by rw [getD_set_ne true hjk, getD_set_ne true hik]; exact hkl
      have h2 := wpOp_putIf hoj (hfree j oj hoj hji hjun hnot) (fun cs b => hsel i oi cs b hi) (fun cs b => hsel j oj cs b hoj) hQ hy h1
      have hfree' : ∀ k ok, ops[k]? = some ok → k ≠ i → (listed.setIfInBounds j true).getD k true = false →
          (∀ e ∈ ok.after, Region.binds md e = true → e.on ≠ i) → oi.apart ops ok = true := fun k ok hk hki hun hno => by
        refine hfree k ok hk hki ?_ hno
        by_cases hjk : j = k
        · subst hjk; exact hjun
        · rw [getD_set_ne true hjk] at hun; exact hun
      refine wpOp_mono (fun a' w' h3 => ⟨fun _ => h3.2.1 hkl2, ih (listed.setIfInBounds j true) a' w' hkl' hfree' (ready_mono hr (Ne.symm hji)) h3.1 (h3.2.1 hkl2) ?_⟩) h2
      rw [Array.setIfInBounds_comm _ _ hji]
      exact h3.2.2
/-- operation k waits for operation i, and has not come up -/
def waitsB (md : Region.Mode) (ops : Array Oper) (listed : Array Bool) (k i : Nat) : Bool := (match ops[k]? with | some ok => ok.after.any (fun e => Region.binds md e && e.on == i) | none => false) && !(listed.getD k true)
theorem wpAnyL_take {i : Nat} {oi : Oper} {v : Value} {fuel : Nat} {listed : Array Bool} {a : Act} {w : World} (hi : ops[i]? = some oi)
    (hs : Region.noSelect ops = true) (hf : Region.free md ops listed i = true) (hr : (Region.ready md ops listed).contains i = true) (hw : waitsB md ops listed k i = true)
    (hQ : ∀ c a w, Q (.panic c) (a.put oi.dst v) w → Q (.panic c) a w) (hy : YieldsIf P ops S oi v a) (hS : S w)
    (h : wpAnyL P md ops Q S k fuel (listed.setIfInBounds i true) (a.put oi.dst v) w) : wpAnyL P md ops Q S k (fuel + 1) listed a w := by
  unfold waitsB at hw
  rw [Bool.and_eq_true] at hw
  refine wpAnyL_first hi (Region.noSelect_spec hs) hQ ?_ fuel listed a w (by simpa using hw.2) (Region.free_spec hi hf) (by simpa using hr) hy hS h
  have h1 := hw.1
  split at h1
  · rename_i ok hok
    obtain ⟨j, hj, he⟩ := Array.any_eq_true.1 h1
    rw [Bool.and_eq_true] at he
    exact ⟨ok, hok, ok.after[j], Array.getElem_mem hj, he.1, by simpa using he.2⟩
  · cases h1
/-- the only one that may come up -/
theorem wpAnyL_only {i : Nat} {o : Oper} {fuel : Nat} {listed : Array Bool} {a : Act} {w : World} (hr : Region.ready md ops listed = [i]) (ho : ops[i]? = some o)
    (h : ∀ K : Act → World → Prop, (∀ a' w', ((listed.setIfInBounds i true).getD k true = false → S w') → ((((listed.setIfInBounds i true).getD k true = false → S w')) → wpAnyL P md ops Q S k fuel (listed.setIfInBounds i true) a' w') → K a' w') →
      if Region.wanted o (yielded ops a.tmps) = true then o.wp P a w K Q else K (a.put o.dst undef) w) : wpAnyL P md ops Q S k (fuel + 1) listed a w := by
  refine ⟨fun h0 => (by rw [hr] at h0; cases h0), fun j hj => ?_⟩
  rw [hr] at hj
  obtain rfl : j = i := by simpa using hj
  unfold wpOp
  rw [ho]
  simp only
  have h2 := h (fun a' w' => ((listed.setIfInBounds j true).getD k true = false → S w') ∧ wpAnyL P md ops Q S k fuel (listed.setIfInBounds j true) a' w') (fun a' w' h1 h2 => ⟨h1, h2 h1⟩)
  by_cases hw : Region.wanted o (yielded ops a.tmps) = true
  · rw [if_pos hw] at h2 ⊢
    exact .inl h2
  · rw [if_neg hw] at h2 ⊢
    exact h2
theorem wpAnyL_done {listed : Array Bool} {a : Act} {w : World} {fuel : Nat} (hr : Region.ready md ops listed = []) (h : Q .normal a w) : wpAnyL P md ops Q S k fuel listed a w := by
  cases fuel with
  | zero => exact ⟨hr, h⟩
  | succ n => exact ⟨fun _ => h, fun i hi => by rw [hr] at hi; cases hi⟩
theorem wp_region_L {id : Nat} {a : Act} {w : World} (k : Nat) (S : World → Prop) (hm : P.follows .mixedOrders = true) (hS : S w.drew) (h : S w.drew → wpAnyL P .any ops Q S k ops.size (Array.replicate ops.size false) a w.drew) : (Code.region id ops true).wp P Q a w :=
  wp_region_any hm (wpAny_of_L _ _ _ _ (h hS))
theorem region_round_L {l n : Nat} {id : Nat} {a : Act} {w : World} (k : Nat) (S : World → Prop) (hm : P.follows .mixedOrders = true) (hL : ¬ LetsOut Q) (hd : ∀ (i : Nat) (o : Oper) c, ops[i]? = some o → o.op ≠ .defer c) (hS : S w.drew)
    (h : S w.drew → wpAnyL P .any ops Q S k ops.size (Array.replicate ops.size false) a w.drew) : (Code.region id ops true).wpIn (Fence.wide.inRound l) n P Q a w :=
  wpIn_region_any hm (any_round hL hd _ _ _ _ (wpAny_of_L _ _ _ _ (h hS)))
end
end Go.Proofs.YtpfnnmcokbolhaaGreat
/- Rows of told regions: slices.Clone, slices.Delete, and the top of a row. -/
namespace Go.Proofs.YtpfnnmcokbolhaaGreat
open Go.RowKit
set_option pp.deepTerms true
theorem nilR (w : World) (a : Option Addr) (n c n' c' : Nat) : (binOp .eql 51 (.slice a n c) (.slice none n' c')).run Tryz.prog w = .ok (.bool a.isNone) w := Lib.run_eql_slice_nil w _ _ a n c n' c' Tryz.underlying51
set_option maxRecDepth 100000 in
theorem cloneR_nil (w : World) : Calls Tryz.prog 67 #[.slice none 0 0] w fun e w' => e = .returned (.slice none 0 0) ∧ w' = w := by
  have q := nilR
  go_enter Tryz.func67, Tryz.ntmps67
  go_wp2
  go_ret
  exact ⟨rfl, rfl⟩
/-- a copy of a row is a row of the call's own (or none) -/
def ClonePost (xs : List (Int × Int)) (w : World) (e : Ending) (w' : World) : Prop :=
  Below w.heap.size w w' ∧ ∃ v, e = .returned v ∧ w'.ownsRow w.heap.size 101 2 v xs.length (wcells xs)
set_option maxRecDepth 100000 in
theorem cloneR_any {w : World} {base : Nat} {v : Value} {xs : List (Int × Int)} (h : w.ownsRow base 101 2 v xs.length (wcells xs)) (hn : xs.length ≤ 4194304) :
    Calls Tryz.prog 67 #[v] w (ClonePost xs w) := by
  obtain ⟨i0, hi, hz0, hz1, hz2⟩ := info_parts infoR
  have q := nilR
  rcases h.2 with ⟨rfl, h0⟩ | ⟨g, cap, cur, rfl, _, hg, _⟩
  · obtain rfl := List.eq_nil_of_length_eq_zero h0
    refine (cloneR_nil w).mono ?_
    rintro e w' ⟨rfl, rfl⟩
    exact ⟨Below.refl _ _, _, rfl, World.ownsRow_nil _ _ _ _⟩
  · have hgl := lt_of_heap hg
    have HC : Hid (∀ (o : Obj) j u, (wcells xs)[j]? = some u → (w.alloc o).cell? ((⟨g, 0, none⟩ : Addr).add j) = some u) := by
      intro o j u hu
      have := alloc_cell (o := o) (row_cell h hu)
      cases j <;> simpa [Addr.add] using this
    obtain ⟨n, hn'⟩ : ∃ n, xs.length = n := ⟨_, rfl⟩
    have HN := Hid.mk hn'
    rw [hn'] at hn ⊢
    clear h hg hn'
    go_enter Tryz.func67, Tryz.ntmps67
    go_wp2_with (at_builtin; refine wpList_append_own _ rfl (.tmp 5) (.tmp 6) 51 rfl w.heap.size 101 i0 (.agg #[.int .i64 0, .int .i64 0]) 2 16 Tryz.underlying51 hi hz0 hz1 hz2 rfl (by decide) _ 0 [] rfl (World.ownsRow_lit _ _ _ ?c0 ?c01 ?c02) ⟨g, 0, none⟩ n cap (wcells xs) rfl ?c1 ?c2 ?c3 ?c4 ?c5 ?c6 ?_)
    case c0 => exact Nat.le_refl _
    case c01 => exact Nat.zero_le _
    case c02 => rfl
    case c1 => rw [wcells_len, HN.out]
    case c2 => exact HC.out _
    case c3 => exact wc_one
    case c4 => unfold maxLen; omega
    case c5 => omega
    case c6 => simp
    intro v' w' hown hgrow hnn
    obtain ⟨ao, c, rfl⟩ := own_shape hown
    go_wp2
    go_ret
    refine ⟨((Below.refl _ _).alloc (Nat.le_refl _) _).grown hgrow (by simp) (by intro k hk; simp [Value.ownBlock] at hk; omega), _, rfl, ?_⟩
    rw [HN.out]
    simpa using hown
theorem zeroR (w : World) : (zeroValue 101).run Tryz.prog w = .ok (.agg #[.int .i64 0, .int .i64 0]) w := by kernel_rfl
theorem zeroR1 : (Builtin.zeroCells (Value.agg #[Value.int .i64 0, .int .i64 0]).cells 1).toList = [Value.int .i64 0, .int .i64 0] := by simp [Builtin.zeroCells, Value.cells, Array.range, Array.toList_ofFn, List.ofFn_succ]
def DelPostR (base B cap i r : Nat) (xs : List Value) (w : World) (e : Ending) (w' : World) : Prop :=
  w'.ownsRow base 101 2 (.slice (some ⟨B, 0, none⟩) (i + r) cap) (i + r) (xs.take (i * 2) ++ xs.drop ((i + 1) * 2)) ∧ Kp [B] w w' ∧ e = .returned (.slice (some ⟨B, 0, none⟩) (i + r) cap)
set_option maxRecDepth 100000 in
set_option maxHeartbeats 2000000 in
theorem delR_any {w : World} {base B cap i r : Nat} {xs : List Value} (h : w.ownsRow base 101 2 (.slice (some ⟨B, 0, none⟩) (i + 1 + r) cap) (i + 1 + r) xs) (_hn : i + 1 + r ≤ 4194304) (hone : ∀ u ∈ xs, u.oneCell' = true) :
    Calls Tryz.prog 93 #[.slice (some ⟨B, 0, none⟩) (i + 1 + r) cap, .int .i64 i, .int .i64 (i + 1)] w (DelPostR base B cap i r xs w) := by
  obtain ⟨i0, hi0, hz0, hz1, hz2⟩ := info_parts infoR
  have hcap : i + 1 + r ≤ cap := by
    rcases h.2 with ⟨q, _⟩ | ⟨_, _, _, q, _, _, hc, _⟩
    · simp at q
    · simp at q; omega
  have hne : ((i : Int) == (i : Int) + 1) = false := by simp; omega
  obtain ⟨A, hA, hnews⟩ : ∃ A : Addr, (if cap = i + 1 then some (⟨B, 0, none⟩ : Addr) else some ⟨B, (i + 1) * 2, none⟩) = some A ∧ Hid (∀ j u, (xs.drop ((i + 1) * 2))[j]? = some u → w.cell? (A.add j) = some u) := by
    by_cases hc : cap = i + 1
    · refine ⟨_, by rw [if_pos hc], fun j u hu => ?_⟩
      rw [List.drop_of_length_le (by rw [h.1]; omega)] at hu
      simp at hu
    · refine ⟨_, by rw [if_neg hc], fun j u hu => ?_⟩
      have hadd : (⟨B, (i + 1) * 2, none⟩ : Addr).add j = ⟨B, (i + 1) * 2 + j, none⟩ := by unfold Addr.add; split <;> simp_all
      rw [hadd]
      rw [List.getElem?_drop] at hu
      exact row_cell h hu
  have HL : Hid ((xs.drop ((i + 1) * 2)).length = r * 2) := by unfold Hid; rw [List.length_drop, h.1]; omega
  have HO1 : Hid (∀ u ∈ xs.drop ((i + 1) * 2), u.oneCell' = true) := fun u hu => hone u (List.mem_of_mem_drop hu)
  have HX := Hid.mk h.1
  have HH := Hid.mk h
  clear hone h
  have b1 : (i : Int) + 1 ≤ (i : Int) + 1 + r := by omega
  have b3 : (i : Int) + 1 ≤ cap := by omega
  have b0 : i ≤ cap := by omega
  have b4 : i + 1 ≤ i + 1 + r := by omega
  have b5 : i + 1 ≤ cap := by omega
  have b6 : (0 : Int) ≤ (i : Int) + 1 := by omega
  have b7 : i + r ≤ i + 1 + r := by omega
  have b8 : 1 ≤ i + 1 + r - (i + r) := by omega
  go_enter Tryz.func93, Tryz.ntmps93
  go_wp2
  go_region_law (refine step_append_in rfl (.tmp 22) (.tmp 25) 51 rfl i0 Tryz.underlying51 hi0 hz1 HH.out.drew i (by simp [Act.eval, Act.put]) A r (cap - (i + 1)) (xs.drop ((i + 1) * 2)) (by simp [Act.eval, Act.put]) HL.out hnews.out HO1.out b7 ?_; intro w2 hr2 hg2)
  go_wp2_with (with_reducible refine wpList_clear_row rfl (.tmp 31) 51 rfl Tryz.underlying51 (.agg #[.int .i64 0, .int .i64 0]) zeroR ((i + r) * 2) (i + 1 + r - (i + r)) (cap - (i + r)) rfl b8 hr2 [.int .i64 0, .int .i64 0] ?c0 ?c1 ?c2 ?_)
  case c0 => rw [show i + 1 + r - (i + r) = 1 by omega]; exact zeroR1
  case c1 => simp; omega
  case c2 => intro u hu; simp only [List.mem_cons, List.not_mem_nil, or_false] at hu; obtain rfl | rfl := hu <;> rfl
  intro w3 hr3 hg3
  go_wp2
  go_ret
  refine ⟨?_, ?_, rfl⟩
  · have := row_cut hr3 (m := i + r) (by omega)
    rwa [del_take HX.out] at this
  · exact ((((Kp.refl _ _).drew).grown hg2 (by intro q hq; simp at hq; exact .inl (by simp [hq])))).grown hg3 (by intro q hq; simp at hq; exact .inl (by simp [hq]))


theorem wcells_erase {xs : List (Int × Int)} {i : Nat} : wcells (xs.eraseIdx i) = (wcells xs).take (i * 2) ++ (wcells xs).drop ((i + 1) * 2) := by
  induction xs generalizing i with
  | nil => simp [wcells]
  | cons x xs ih =>
    cases i with
    | zero => simp [wcells, wcell]
    | succ i =>
      have e1 : (i + 1) * 2 = i * 2 + 1 + 1 := by omega
      have e2 : (i + 1 + 1) * 2 = (i + 1) * 2 + 1 + 1 := by omega
      have hw : ∀ l, wcells (x :: l) = .int .i64 x.1 :: .int .i64 x.2 :: wcells l := fun l => rfl
      rw [List.eraseIdx_cons_succ, hw, hw, ih, e2]
      rw [show (i + 1) * 2 = i * 2 + 1 + 1 by omega, List.take_succ_cons, List.take_succ_cons, List.drop_succ_cons, List.drop_succ_cons]
      rfl
/-- the top of a row -/
def topOf (xs : List (Int × Int)) : (Int × Int) × Bool := match xs.getLast? with | some x => (x, true) | none => ((0, 0), false)
set_option maxRecDepth 100000 in
set_option maxHeartbeats 2000000 in
theorem hlast_any {w : World} {b o base : Nat} {v : Value} {xs : List (Int × Int)} (hc : w.cell? ⟨b, o, none⟩ = some v) (h : w.ownsRow base 101 2 v xs.length (wcells xs)) (hn : xs.length ≤ 4194304) :
    Calls Tryz.prog 79 #[.pointer (some ⟨b, o, none⟩)] w fun e w' => Below w.heap.size w w' ∧ e = .returned (.tuple #[.agg #[.int .i64 (topOf xs).1.1, .int .i64 (topOf xs).1.2], .bool (topOf xs).2]) := by
  have hbl := cell_lt hc
  have hb2 : ∀ o1 o2, Below w.heap.size w ((w.alloc o1).alloc o2) := fun o1 o2 => ((Below.refl _ _).alloc (Nat.le_refl _) _).alloc (by simp) _
  obtain ⟨ao, c, rfl⟩ := own_shape h
  have c1 := fun o1 o2 => alloc_cell (o := o2) (alloc_cell (o := o1) hc)
  rcases Nat.eq_zero_or_pos xs.length with h0 | h0
  · obtain rfl := List.eq_nil_of_length_eq_zero h0
    simp only [List.length_nil] at c1
    have e : topOf [] = ((0, 0), false) := rfl
    rw [e]
    clear h h0 hc
    go_enter Tryz.func79, Tryz.ntmps79
    go_wp2
    refine bodyPost_ret (v := .tuple #[.agg #[.int .i64 0, .int .i64 0], .bool false]) (by simp [results, Tryz.results79, go_sem]) rfl ⟨?_, rfl⟩
    exact hb2 _ _
  · obtain ⟨k, hk⟩ : ∃ k, xs.length = k + 1 := ⟨xs.length - 1, by omega⟩
    obtain ⟨x, hx⟩ : ∃ x, xs[k]? = some x := ⟨xs[k], by simp [hk]⟩
    have e : topOf xs = (x, true) := by
      unfold topOf
      rw [List.getLast?_eq_getElem?, hk]
      simp [hx]
    rw [e]
    simp only
    obtain ⟨hkl, rfl⟩ := List.getElem?_eq_some_iff.1 hx
    obtain ⟨g, cap, e2⟩ := row_shape h h0
    simp only [Value.slice.injEq, true_and] at e2
    obtain ⟨rfl, rfl⟩ := e2
    have r0 := row_cell h (wcells_fst hkl)
    have r1 := row_cell h (wcells_snd hkl)
    obtain ⟨y1, hy1⟩ : ∃ y1, xs[k].1 = y1 := ⟨_, rfl⟩
    obtain ⟨y2, hy2⟩ : ∃ y2, xs[k].2 = y2 := ⟨_, rfl⟩
    rw [hy1] at r0 ⊢
    rw [hy2] at r1 ⊢
    rw [hk] at c1
    have d0 := fun o1 o2 => alloc_cell (o := o2) (alloc_cell (o := o1) r0)
    have d1 := fun o1 o2 => alloc_cell (o := o2) (alloc_cell (o := o1) r1)
    have w1 : IntKind.i64.wrap (((k + 1 : Nat) : Int) - 1) = (k : Int) := by rw [IntKind.wrap_i64]; omega
    have w2 : IntKind.i64.wrap ((k : Int) + 1 - 1) = (k : Int) := by rw [IntKind.wrap_i64]; omega
    have hk2 : k ≤ 4194304 := by omega
    have hk3 : k < k + 1 := by omega
    have hk4 : (k : Int) < (k : Int) + 1 := by omega
    clear hc h h0 hk hx hy1 hy2 e r0 r1 hn hkl
    go_enter Tryz.func79, Tryz.ntmps79
    go_wp2
    go_region
    all_goals
      go_wp2
      refine bodyPost_ret (v := .tuple #[.agg #[.int .i64 y1, .int .i64 y2], .bool true]) (by simp [results, Tryz.results79, go_sem]) rfl ⟨?_, rfl⟩
      exact (hb2 _ _).drew
def RowAt (w : World) (b o : Nat) (cs : Array Value) (T : TypeId) (xs : List (Int × Int)) (w' : World) : Prop :=
  ∃ v', w'.heap[b]? = some (.cells (cs.setIfInBounds o v') T (0, 0)) ∧ w'.ownsRow w.heap.size 101 2 v' xs.length (wcells xs) ∧ Kp [b] w w'
set_option maxRecDepth 100000 in
set_option maxHeartbeats 4000000 in
theorem fewer_any {w : World} {b o base : Nat} {cs : Array Value} {T : TypeId} {v : Value} {xs : List (Int × Int)} (hb : w.heap[b]? = some (.cells cs T (0, 0))) (ho : cs[o]? = some v) (h : w.ownsRow base 101 2 v xs.length (wcells xs)) (h1 : 1 ≤ xs.length) (hn : xs.length ≤ 4194304) :
    Calls Tryz.prog 87 #[.pointer (some ⟨b, o, none⟩)] w fun e w' => RowAt w b o cs T xs.dropLast w' ∧ ∃ u, e = .returned u := by
  have hc : w.cell? ⟨b, o, none⟩ = some v := by rw [cell_of_row w b o _ _ _ hb, ho]
  have hbl := cell_lt hc
  obtain ⟨k, hk⟩ : ∃ k, xs.length = k + 1 := ⟨xs.length - 1, by omega⟩
  obtain ⟨g, cap, rfl⟩ := row_shape h h1
  have HCl := Hid.mk (cloneR_any (w := w.drew) h.drew hn)
  have HB := Hid.mk hb
  have HO := Hid.mk ho
  have HK := Hid.mk hk
  have HD : Hid (xs.dropLast = xs.eraseIdx k ∧ xs.dropLast.length = k) := by
    refine ⟨?_, by simp [hk]⟩
    rw [List.eraseIdx_eq_dropLast (by omega)]
  rw [hk] at hc HCl
  have w1 : IntKind.i64.wrap (k : Int) = (k : Int) := by rw [IntKind.wrap_i64]; omega
  have hk2 : k + 1 ≤ 4194304 := by omega
  have hdr : Below w.heap.size w w.drew := (Below.refl _ _).drew
  clear h h1 hn hb hk ho
  go_enter Tryz.func87, Tryz.ntmps87
  refine wp_region_L 20 (fun W' => W'.cell? ⟨b, o, none⟩ = some (.slice (some ⟨g, 0, none⟩) (k + 1) cap)) (by kernel_rfl) hc (fun hHeld => ?_)
  refine wpAnyL_take (i := 0) (v := ?_) rfl (by kernel_rfl) (by kernel_rfl) (by kernel_rfl) (by kernel_rfl) (fun _ _ _ h => h) (Or.inl ⟨by rfl, ?_⟩) (by assumption) ?_
  rotate_left
  · (intro w hSw; (try dsimp only at hSw); go_simp <;> with_reducible rfl)
  (try simp only [Act.put, List.getElem_toArray, List.getElem_cons_zero, List.setIfInBounds_toArray, List.set_cons_zero, List.set_cons_succ])
  refine wpAnyL_take (i := 1) (v := ?_) rfl (by kernel_rfl) (by kernel_rfl) (by kernel_rfl) (by kernel_rfl) (fun _ _ _ h => h) (Or.inl ⟨by rfl, ?_⟩) (by assumption) ?_
  rotate_left
  · (intro w hSw; (try dsimp only at hSw); go_simp <;> with_reducible rfl)
  (try simp only [Act.put, List.getElem_toArray, List.getElem_cons_zero, List.getElem_cons_succ, List.setIfInBounds_toArray, List.set_cons_zero, List.set_cons_succ])
  refine wpAnyL_take (i := 2) (v := ?_) rfl (by kernel_rfl) (by kernel_rfl) (by kernel_rfl) (by kernel_rfl) (fun _ _ _ h => h) (Or.inl ⟨by rfl, ?_⟩) (by assumption) ?_
  rotate_left
  · (intro w hSw; (try dsimp only at hSw); go_simp <;> with_reducible rfl)
  (try simp only [Act.put, List.getElem_toArray, List.getElem_cons_zero, List.getElem_cons_succ, List.setIfInBounds_toArray, List.set_cons_zero, List.set_cons_succ])
  refine wpAnyL_take (i := 3) (v := ?_) rfl (by kernel_rfl) (by kernel_rfl) (by kernel_rfl) (by kernel_rfl) (fun _ _ _ h => h) (Or.inl ⟨by rfl, ?_⟩) (by assumption) ?_
  rotate_left
  · (intro w hSw; (try dsimp only at hSw); go_simp <;> with_reducible rfl)
  (try simp only [Act.put, List.getElem_toArray, List.getElem_cons_zero, List.getElem_cons_succ, List.setIfInBounds_toArray, List.set_cons_zero, List.set_cons_succ])
  refine wpAnyL_take (i := 4) (v := ?_) rfl (by kernel_rfl) (by kernel_rfl) (by kernel_rfl) (by kernel_rfl) (fun _ _ _ h => h) (Or.inl ⟨by rfl, ?_⟩) (by assumption) ?_
  rotate_left
  · (intro w hSw; (try dsimp only at hSw); go_simp <;> with_reducible rfl)
  (try simp only [Act.put, List.getElem_toArray, List.getElem_cons_zero, List.getElem_cons_succ, List.setIfInBounds_toArray, List.set_cons_zero, List.set_cons_succ])
  refine wpAnyL_take (i := 6) (v := ?_) rfl (by kernel_rfl) (by kernel_rfl) (by kernel_rfl) (by kernel_rfl) (fun _ _ _ h => h) (Or.inl ⟨by rfl, ?_⟩) (by assumption) ?_
  rotate_left
  · (intro w hSw; (try dsimp only at hSw); go_simp <;> with_reducible rfl)
  (try simp only [Act.put, List.getElem_toArray, List.getElem_cons_zero, List.getElem_cons_succ, List.setIfInBounds_toArray, List.set_cons_zero, List.set_cons_succ])
  refine wpAnyL_take (i := 7) (v := ?_) rfl (by kernel_rfl) (by kernel_rfl) (by kernel_rfl) (by kernel_rfl) (fun _ _ _ h => h) (Or.inl ⟨by rfl, ?_⟩) (by assumption) ?_
  rotate_left
  · (intro w hSw; (try dsimp only at hSw); go_simp <;> with_reducible rfl)
  (try simp only [Act.put, List.getElem_toArray, List.getElem_cons_zero, List.getElem_cons_succ, List.setIfInBounds_toArray, List.set_cons_zero, List.set_cons_succ])
  refine wpAnyL_take (i := 8) (v := ?_) rfl (by kernel_rfl) (by kernel_rfl) (by kernel_rfl) (by kernel_rfl) (fun _ _ _ h => h) (Or.inl ⟨by rfl, ?_⟩) (by assumption) ?_
  rotate_left
  · (intro w hSw; (try dsimp only at hSw); go_simp <;> with_reducible rfl)
  (try simp only [Act.put, List.getElem_toArray, List.getElem_cons_zero, List.getElem_cons_succ, List.setIfInBounds_toArray, List.set_cons_zero, List.set_cons_succ])
  refine wpAnyL_take (i := 9) (v := ?_) rfl (by kernel_rfl) (by kernel_rfl) (by kernel_rfl) (by kernel_rfl) (fun _ _ _ h => h) (Or.inl ⟨by rfl, ?_⟩) (by assumption) ?_
  rotate_left
  · (intro w hSw; (try dsimp only at hSw); go_simp <;> with_reducible rfl)
  (try simp only [Act.put, List.getElem_toArray, List.getElem_cons_zero, List.getElem_cons_succ, List.setIfInBounds_toArray, List.set_cons_zero, List.set_cons_succ])
  refine wpAnyL_take (i := 10) (v := ?_) rfl (by kernel_rfl) (by kernel_rfl) (by kernel_rfl) (by kernel_rfl) (fun _ _ _ h => h) (Or.inl ⟨by rfl, ?_⟩) (by assumption) ?_
  rotate_left
  · (intro w hSw; (try dsimp only at hSw); go_simp <;> with_reducible rfl)
  (try simp only [Act.put, List.getElem_toArray, List.getElem_cons_zero, List.getElem_cons_succ, List.setIfInBounds_toArray, List.set_cons_zero, List.set_cons_succ])
  refine wpAnyL_take (i := 11) (v := ?_) rfl (by kernel_rfl) (by kernel_rfl) (by kernel_rfl) (by kernel_rfl) (fun _ _ _ h => h) (Or.inl ⟨by rfl, ?_⟩) (by assumption) ?_
  rotate_left
  · (intro w hSw; (try dsimp only at hSw); go_simp <;> with_reducible rfl)
  (try simp only [Act.put, List.getElem_toArray, List.getElem_cons_zero, List.getElem_cons_succ, List.setIfInBounds_toArray, List.set_cons_zero, List.set_cons_succ])
  refine wpAnyL_take (i := 12) (v := ?_) rfl (by kernel_rfl) (by kernel_rfl) (by kernel_rfl) (by kernel_rfl) (fun _ _ _ h => h) (Or.inl ⟨by rfl, ?_⟩) (by assumption) ?_
  rotate_left
  · (intro w hSw; (try dsimp only at hSw); go_simp <;> with_reducible rfl)
  (try simp only [Act.put, List.getElem_toArray, List.getElem_cons_zero, List.getElem_cons_succ, List.setIfInBounds_toArray, List.set_cons_zero, List.set_cons_succ])
  refine wpAnyL_take (i := 13) (v := ?_) rfl (by kernel_rfl) (by kernel_rfl) (by kernel_rfl) (by kernel_rfl) (fun _ _ _ h => h) (Or.inl ⟨by rfl, ?_⟩) (by assumption) ?_
  rotate_left
  · (intro w hSw; (try dsimp only at hSw); go_simp <;> with_reducible rfl)
  (try simp only [Act.put, List.getElem_toArray, List.getElem_cons_zero, List.getElem_cons_succ, List.setIfInBounds_toArray, List.set_cons_zero, List.set_cons_succ])
  refine wpAnyL_take (i := 14) (v := ?_) rfl (by kernel_rfl) (by kernel_rfl) (by kernel_rfl) (by kernel_rfl) (fun _ _ _ h => h) (Or.inl ⟨by rfl, ?_⟩) (by assumption) ?_
  rotate_left
  · (intro w hSw; (try dsimp only at hSw); go_simp <;> with_reducible rfl)
  (try simp only [Act.put, List.getElem_toArray, List.getElem_cons_zero, List.getElem_cons_succ, List.setIfInBounds_toArray, List.set_cons_zero, List.set_cons_succ])
  refine wpAnyL_take (i := 15) (v := ?_) rfl (by kernel_rfl) (by kernel_rfl) (by kernel_rfl) (by kernel_rfl) (fun _ _ _ h => h) (Or.inl ⟨by rfl, ?_⟩) (by assumption) ?_
  rotate_left
  · (intro w hSw; (try dsimp only at hSw); go_simp <;> with_reducible rfl)
  (try simp only [Act.put, List.getElem_toArray, List.getElem_cons_zero, List.getElem_cons_succ, List.setIfInBounds_toArray, List.set_cons_zero, List.set_cons_succ])
  refine wpAnyL_take (i := 16) (v := ?_) rfl (by kernel_rfl) (by kernel_rfl) (by kernel_rfl) (by kernel_rfl) (fun _ _ _ h => h) (Or.inl ⟨by rfl, ?_⟩) (by assumption) ?_
  rotate_left
  · (intro w hSw; (try dsimp only at hSw); go_simp <;> with_reducible rfl)
  (try simp only [Act.put, List.getElem_toArray, List.getElem_cons_zero, List.getElem_cons_succ, List.setIfInBounds_toArray, List.set_cons_zero, List.set_cons_succ])
  clear w1
  refine wpAnyL_only (i := 5) (by kernel_rfl) rfl (fun K hK => ?_)
  go_simp
  refine HCl.out.mono ?_
  rintro e wx ⟨hbx, vx, rfl, hown⟩
  rw [HK.out] at hown
  obtain ⟨gx, cx2, rfl⟩ := row_shape hown (by omega)
  have cx := keep_dr hbx hc
  refine hK _ _ (fun _ => cx) (fun hHeld0 => ?_)
  have hHeld := hHeld0 rfl
  clear hK K hHeld0
  (try simp only [Act.put, List.getElem_toArray, List.getElem_cons_zero, List.getElem_cons_succ, List.setIfInBounds_toArray, List.set_cons_zero, List.set_cons_succ])
  refine wpAnyL_only (i := 17) (by kernel_rfl) rfl (fun K hK => ?_)
  go_simp
  refine (delR_any (base := w.drew.heap.size) (i := k) (r := 0) (xs := wcells xs) hown hk2 wc_one).mono ?_
  rintro e wy ⟨hy1, hy2, rfl⟩
  have hgx := (hown.lt gx rfl).1
  have hhx : wx.heap[b]? = some (.cells cs T (0, 0)) := below_at (undrew hbx) HB.out hbl
  have hhy : wy.heap[b]? = some (.cells cs T (0, 0)) := hy2.at hhx (by simp only [List.mem_singleton]; intro e; have hbl2 : b < w.heap.size := hbl; simp at hgx; omega)
  have cy : wy.cell? ⟨b, o, none⟩ = some (.slice (some ⟨g, 0, none⟩) (k + 1) cap) := by rw [cell_of_row wy b o _ _ _ hhy, HO.out, HK.out]
  have fy : wy.frozen? ⟨b, o, none⟩ = false := frozen_of_row wy b o _ _ hhy
  refine hK _ _ (fun _ => cy) (fun hHeld0 => ?_)
  have hHeld := hHeld0 rfl
  clear hK K hHeld0
  (try simp only [Act.put, List.getElem_toArray, List.getElem_cons_zero, List.getElem_cons_succ, List.setIfInBounds_toArray, List.set_cons_zero, List.set_cons_succ])
  refine wpAnyL_only (i := 18) (by kernel_rfl) rfl (fun K hK => ?_)
  go_simp
  refine hK _ _ (fun _ => cy) (fun hHeld0 => ?_)
  have hHeld := hHeld0 rfl
  clear hK K hHeld0
  (try simp only [Act.put, List.getElem_toArray, List.getElem_cons_zero, List.getElem_cons_succ, List.setIfInBounds_toArray, List.set_cons_zero, List.set_cons_succ])
  refine wpAnyL_only (i := 19) (by kernel_rfl) rfl (fun K hK => ?_)
  go_simp
  refine hK _ _ (fun _ => cy) (fun hHeld0 => ?_)
  have hHeld := hHeld0 rfl
  clear hK K hHeld0
  (try simp only [Act.put, List.getElem_toArray, List.getElem_cons_zero, List.getElem_cons_succ, List.setIfInBounds_toArray, List.set_cons_zero, List.set_cons_succ])
  refine wpAnyL_only (i := 20) (by kernel_rfl) rfl (fun K hK => ?_)
  go_simp
  refine hK _ _ (fun q => by cases q) (fun hHeld0 => ?_)
  clear hK K hHeld0
  refine wpAnyL_done (by kernel_rfl) ?_
  have HF : Hid (RowAt w b o cs T xs.dropLast (wy.setCell ⟨b, o, none⟩ (.slice (some ⟨gx, 0, none⟩) (k + 0) cx2))) := by
    refine ⟨.slice (some ⟨gx, 0, none⟩) (k + 0) cx2, ?_, ?_, ?_⟩
    · have := heap_setCell_same wy b o _ _ (.slice (some ⟨gx, 0, none⟩) (k + 0) cx2) hhy
      simpa using this
    · rw [HD.out.2, HD.out.1, wcells_erase]
      exact ownsRow_setCell_other hy1 (by simp only [Value.ownBlock, ne_eq, Option.some.injEq]; intro e; have hbl2 : b < w.heap.size := hbl; simp at hgx; omega) _
    · exact ((((Kp.of_below (undrew hbx) [b])).trans hy2 (fun x hx => by simp only [List.mem_singleton] at hx; subst hx; exact .inr hgx))).setCell (.inl (by simp)) _
  simp only [Nat.add_zero] at HF
  clear hbx hown hy1 hy2 hhx hhy cy fy cx
  go_end0
  exact ⟨HF.out, _, rfl⟩
end Go.Proofs.YtpfnnmcokbolhaaGreat
/- slices.Backward over told regions: the iterator's contract for whatever loop. -/
namespace Go.Proofs.YtpfnnmcokbolhaaGreat
open Go.RowKit Go.Shelf
attribute [local go_sem] Oper.semAt_some
set_option pp.deepTerms true
def benc (xs : List (Int × Int)) (x : Fin xs.length) : Array Value := #[.int .i64 x.1, .agg #[.int .i64 xs[x.1].1, .int .i64 xs[x.1].2]]
/-- all places, the last one first -/
def rev (n : Nat) : List (Fin n) := (List.finRange n).reverse
theorem rev_len (n : Nat) : (rev n).length = n := by simp [rev]
theorem rev_at {n k : Nat} (hk : k < n) : (rev n)[n - (k + 1)]'(by rw [rev_len]; omega) = ⟨k, hk⟩ := by
  unfold rev
  rw [List.getElem_reverse]
  simp only [List.length_finRange, List.getElem_finRange]
  ext
  simp
  omega
theorem rev_take {n k : Nat} (hk : k < n) : (rev n).take (n - k) = (rev n).take (n - (k + 1)) ++ [⟨k, hk⟩] := by
  rw [show n - k = n - (k + 1) + 1 by omega, List.take_succ_eq_append_getElem (by rw [rev_len]; omega), rev_at hk]
set_option maxRecDepth 100000 in
set_option maxHeartbeats 2000000 in
theorem backward1_in (n : Nat) (hn : 1 ≤ n) (l Bs n₀ cap : Nat) (ao : Option Addr) (xs : List (Int × Int)) (hcnt : xs.length ≤ 4194304) (J Jx : List (Fin xs.length) → World → Prop) (B0 : Nat) (hJ : AbidesFrom B0 J)
    (hY : ∀ pre x W, J pre W → pre.length < xs.length → YieldAt Fence.wide (n - 1) Tryz.prog l (benc xs x) W fun e W' =>
      (e = .returned (.bool true) ∧ J (pre ++ [x]) W' ∧ Below n₀ W W') ∨ (e = .returned (.bool false) ∧ Jx (pre ++ [x]) W'))
    (W : World) (hBs : W.cell? ⟨Bs, 0, none⟩ = some (.slice ao xs.length cap)) (hc : ∀ j (hj : j < xs.length), ∃ g, ao = some ⟨g, 0, none⟩ ∧ g < n₀ ∧ W.cell? ⟨g, j * 2, none⟩ = some (.int .i64 xs[j].1) ∧ W.cell? ⟨g, j * 2 + 1, none⟩ = some (.int .i64 xs[j].2))
    (hB : Bs < n₀) (hn0 : n₀ ≤ W.heap.size) (h0 : J [] W) :
    CallsIn Fence.wide n Tryz.prog 106 #[.func (.yield l) #[] #[], .pointer (some ⟨Bs, 0, none⟩)] W fun e W' => (∃ v, e = .returned v) ∧
      ((∃ ys, ys = rev xs.length ∧ J ys W') ∨ (∃ pre, pre <+: rev xs.length ∧ Jx pre W')) := by
  have w1 : IntKind.i64.wrap ((xs.length : Int) - 1) = (xs.length : Int) - 1 := by rw [IntKind.wrap_i64]; omega
  refine callsIn_of_wp Tryz.func106 rfl trivial ?_ rfl
  simp only [Tryz.ntmps106, List.size_toArray, List.length_cons, List.length_nil, Nat.reduceAdd, Nat.reduceSub, Array.replicate_succ, Array.replicate_zero, List.push_toArray, List.append_toArray, List.nil_append, List.cons_append]
  gi_wp2
  gi_loopw [3] (fun i wr => ∃ k : Nat, k ≤ xs.length ∧ i = .int .i64 ((k : Int) - 1) ∧ J ((rev xs.length).take (xs.length - k)) wr ∧ Below n₀ W wr)
    (fun i _ => (intOf i + 1).toNat)
  case atStart => exact ⟨xs.length, Nat.le_refl _, rfl, by simpa using h0, Below.refl _ _⟩
  case round =>
    clear w1
    obtain ⟨k, hk, rfl, hJs, hnx⟩ := hrel
    have c0 := (hnx.cell (p := ⟨Bs, 0, none⟩) hB).trans hBs
    rcases Nat.eq_zero_or_pos k with h0k | h0k
    · subst h0k
      gi_wp2
      go_end0
      exact ⟨⟨_, rfl⟩, .inl ⟨_, rfl, by have q := hJs; rw [List.take_of_length_le (by rw [rev_len]; omega)] at q; exact q⟩⟩
    · obtain ⟨m, rfl⟩ : ∃ m, k = m + 1 := ⟨k - 1, by omega⟩
      have hm : m < xs.length := by omega
      obtain ⟨g, rfl, hg, e0, e1⟩ := hc m hm
      have d0 := (hnx.cell (p := ⟨g, m * 2, none⟩) hg).trans e0
      have d1 := (hnx.cell (p := ⟨g, m * 2 + 1, none⟩) hg).trans e1
      have z1 : (((m + 1 : Nat) : Int) - 1) = (m : Int) := by omega
      rw [z1]
      have z2 : decide ((m : Int) ≥ 0) = true := by simp
      have HY := Hid.mk (hY _ ⟨m, hm⟩ _ hJs (by rw [List.length_take, rev_len]; omega))
      obtain ⟨fn, tmps, assign, body, hyy, hR⟩ := HY.out
      unfold benc at hyy
      clear z1 hc hY
      gi_wp2
      refine hR.mono ?_
      have hsz := hnx.size
      rintro e W3 (⟨rfl, hJ3, hk3⟩ | ⟨rfl, hJx3⟩)
      · have w2 : IntKind.i64.wrap ((m : Int) - 1) = (m : Int) - 1 := by rw [IntKind.wrap_i64]; omega
        gi_wp2
        go_roundw
        case rel => exact ⟨m, by omega, rfl, by rw [rev_take hm]; exact hJ3, hnx.trans hk3⟩
        case measure => simp [intOf]
      · gi_wp2
        refine bodyPost_ret (results_none rfl _ _ _) rfl ?_
        exact ⟨⟨_, rfl⟩, .inr ⟨_, by rw [← rev_take hm]; exact List.take_prefix _ _, hJx3⟩⟩
theorem backward_stops (n : Nat) (hn : 1 ≤ n) (Bs n₀ cap : Nat) (ao : Option Addr) (xs : List (Int × Int)) (hcnt : xs.length ≤ 4194304) (w : World) (hn₀ : n₀ ≤ w.heap.size)
    (hBs : w.cell? ⟨Bs, 0, none⟩ = some (.slice ao xs.length cap)) (hc : ∀ j (hj : j < xs.length), ∃ g, ao = some ⟨g, 0, none⟩ ∧ g < n₀ ∧ w.cell? ⟨g, j * 2, none⟩ = some (.int .i64 xs[j].1) ∧ w.cell? ⟨g, j * 2 + 1, none⟩ = some (.int .i64 xs[j].2)) (hB : Bs < n₀) :
    SeqStopsK Fence.wide n Tryz.prog 106 #[.pointer (some ⟨Bs, 0, none⟩)] (benc xs) (Below n₀) (fun ys => ys = rev xs.length) (fun pre => pre <+: rev xs.length) xs.length w := fun l J Jx W hW hJ _ hY h0 => by
  refine backward1_in n hn l Bs n₀ cap ao xs hcnt J Jx _ hJ hY W ((hW.cell (p := ⟨Bs, 0, none⟩) (Nat.lt_of_lt_of_le hB hn₀)).trans hBs) (fun j hj => ?_) hB (Nat.le_trans hn₀ hW.size) h0
  obtain ⟨g, e, hg, e0, e1⟩ := hc j hj
  exact ⟨g, e, hg, (hW.cell (p := ⟨g, j * 2, none⟩) (Nat.lt_of_lt_of_le hg hn₀)).trans e0, (hW.cell (p := ⟨g, j * 2 + 1, none⟩) (Nat.lt_of_lt_of_le hg hn₀)).trans e1⟩
theorem backward_in (n : Nat) (ao : Option Addr) (ln c : Nat) (w : World) :
    CallsIn Fence.wide n Tryz.prog 103 #[.slice ao ln c] w fun e w' => e = .returned (.func (.func 106) #[] #[.pointer (some ⟨w.heap.size, 0, none⟩)]) ∧ w' = w.alloc (.cells #[.slice ao ln c] 51) := by
  refine callsIn_of_wp Tryz.func103 rfl trivial ?_ rfl
  simp only [Tryz.ntmps103, List.size_toArray, List.length_cons, List.length_nil, Nat.reduceAdd, Nat.reduceSub, Array.replicate_succ, Array.replicate_zero, List.push_toArray, List.append_toArray, List.nil_append, List.cons_append]
  gi_wp2
  go_ret
  exact ⟨rfl, rfl⟩
theorem downwards_in (n : Nat) (hn : 1 ≤ n) {b o : Nat} {ao : Option Addr} {ln c : Nat} (w : World) (hc : w.cell? ⟨b, o, none⟩ = some (.slice ao ln c)) :
    CallsIn Fence.wide n Tryz.prog 92 #[.pointer (some ⟨b, o, none⟩)] w fun e w' => e = .returned (.func (.func 106) #[] #[.pointer (some ⟨w.heap.size, 0, none⟩)]) ∧ w' = w.alloc (.cells #[.slice ao ln c] 51) := by
  have hfn : ∀ k, Fence.wide.fn k := fun _ => trivial
  refine callsIn_of_wp Tryz.func92 rfl trivial ?_ rfl
  simp only [Tryz.ntmps92, List.size_toArray, List.length_cons, List.length_nil, Nat.reduceAdd, Nat.reduceSub, Array.replicate_succ, Array.replicate_zero, List.push_toArray, List.append_toArray, List.nil_append, List.cons_append]
  gi_wp2_with (gi_at_call 103; refine (backward_in (n - 1) _ _ _ _).mono ?_; rintro e w' ⟨rfl, rfl⟩)
  go_ret
  exact ⟨rfl, rfl⟩
end Go.Proofs.YtpfnnmcokbolhaaGreat
