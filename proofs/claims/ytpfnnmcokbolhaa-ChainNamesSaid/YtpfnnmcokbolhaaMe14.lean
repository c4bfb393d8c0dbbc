/- Parts Xw Xy Xx Ya Yb Yc Yd Wd, put together. -/
import Derived.Test.YtpfnnmcokbolhaaMe4
import Derived.Test.YtpfnnmcokbolhaaMe11
import Derived.Test.YtpfnnmcokbolhaaMe13
import Derived.Laws.StructEq
import Derived.Deep.QuietTactic
import Derived.BigQuiet
/- What Call does ahead of what is written. -/
namespace Go.Proofs.Ytpfnnmcokbolhaa
open Go.RowKit
set_option pp.deepTerms true
section
variable {w W : World} {F : List Asr} {b p k g c : Nat} {sz ca : Int} {C : Ch} {x : Value × Fr} {l : List (Value × Fr)} {S : Sp}
theorem ChT.drewN1 (h : ChT w W b p k g c x l F) : ChT w W.drew b p k g c x l F := h.keep (Below.refl _ _).drew
theorem ChT.F1 {A : Asr} (h : ChT w W b p k g c x l (A :: F)) : Sep w F W := Sep.sub h (List.sublist_append_right [_, _, _, _] F)
set_option maxRecDepth 100000 in
set_option maxHeartbeats 2000000 in
theorem ccall1_T {q3 q10 q4 q8 : Nat} {at_ a : Int} (h : ChT w W b p k g c x l (spA p S :: F)) (hl : l.length ≤ 1000)
    (hb : ∀ W', Sep w F W' → W'.cell? ⟨q3, 0, none⟩ = some (.pointer (some ⟨b, 0, none⟩)) ∧ W'.cell? ⟨q10, 0, none⟩ = some (.int .i64 at_) ∧ W'.cell? ⟨q4, 1, none⟩ = some (.int .i64 a) ∧ W'.cell? ⟨q8, 0, none⟩ = some (.pointer (some ⟨g, l.length * 7, none⟩)))
    (ha : 0 ≤ a ∧ a ≤ x.2.ops ∧ x.2.ops ≤ 64) :
    Calls Try.prog 49 #[.pointer (some ⟨q3, 0, none⟩), .pointer (some ⟨q10, 0, none⟩), .pointer (some ⟨q4, 0, none⟩), .pointer (some ⟨q8, 0, none⟩)] W fun e w' => (∃ u, e = .returned u) ∧ ChT w w' b p k g c (x.1, { x.2 with ops := x.2.ops - a }) l (spA p (S.drop at_ a).2 :: F) := by
  obtain ⟨c0, c1, c2, c3⟩ := hb _ h.F1
  have k0 := h.k0
  have HB := Hid.mk hb
  have HD := Hid.mk (drop_T h.drewN1 at_ a)
  obtain ⟨m, hm⟩ : ∃ m, l.length = m := ⟨_, rfl⟩
  have HM := Hid.mk hm
  rw [hm] at c3 hl HB
  have s1 : IntKind.i64.wrap (x.2.ops - a) = x.2.ops - a := by rw [IntKind.wrap_i64]; omega
  clear h hb hm
  go_enter Try.func49, Try.ntmps49
  go_wp2_with fail
  go_region_held3 (fun X => X.cell? ⟨q3, 0, none⟩ = some (.pointer (some ⟨b, 0, none⟩)) ∧ X.cell? ⟨b, 0, none⟩ = some (.pointer (some ⟨p, 0, none⟩)) ∧ X.cell? ⟨q10, 0, none⟩ = some (.int .i64 at_) ∧ X.cell? ⟨q4, 1, none⟩ = some (.int .i64 a)) (first | exact s9 | exact ⟨c0, k0, c1, c2⟩) (first | (go_at_call 50; refine HD.out.mono ?_; rintro e w2 ⟨h2, rfl⟩; have h3 := HB.out _ h2.F1; have s9 := And.intro h3.1 (And.intro h2.k0 (And.intro h3.2.1 h3.2.2.1))))
  have e2 := h3.2.2.1
  have e3 := h3.2.2.2
  have e5 := h2.fr.c5
  have z5 := h2.fz (l.length * 7 + 5)
  have HE := Hid.mk (h2.ops (x.2.ops - a))
  rw [HM.out] at e5 z5 HE
  clear HD HB h2 h3 s9 c0 c1 c2 c3 k0
  go_wp2_with fail
  refine wp_region_L 9 (fun X => X.cell? ⟨q8, 0, none⟩ = some (.pointer (some ⟨g, m * 7, none⟩)) ∧ X.cell? ⟨q4, 1, none⟩ = some (.int .i64 a) ∧ X.cell? ⟨g, m * 7 + 5, none⟩ = some (.int .i64 x.2.ops)) (by kernel_rfl) ⟨e3, e2, e5⟩ (fun hHeld => ?_)
  refine wpAnyL_take (i := 0) (v := ?_) rfl (by kernel_rfl) (by kernel_rfl) (by kernel_rfl) (by kernel_rfl) (fun _ _ _ h => h) (Or.inl ⟨by rfl, ?_⟩) (by assumption) ?_
  rotate_left
  · (intro w hSw; (try dsimp only at hSw); go_simp <;> with_reducible rfl)
  (try simp only [Act.put, List.getElem_toArray, List.getElem_cons_zero, List.getElem_cons_succ, List.setIfInBounds_toArray, List.set_cons_zero, List.set_cons_succ])
  refine wpAnyL_take (i := 1) (v := ?_) rfl (by kernel_rfl) (by kernel_rfl) (by kernel_rfl) (by kernel_rfl) (fun _ _ _ h => h) (Or.inl ⟨by rfl, ?_⟩) (by assumption) ?_
  rotate_left
  · (intro w hSw; (try dsimp only at hSw); go_simp <;> with_reducible rfl)
  (try simp only [Act.put, List.getElem_toArray, List.getElem_cons_zero, List.getElem_cons_succ, List.setIfInBounds_toArray, List.set_cons_zero, List.set_cons_succ])
  refine wpAnyL_take (i := 2) (v := ?_) rfl (by kernel_rfl) (by kernel_rfl) (by kernel_rfl) (by kernel_rfl) (fun _ _ _ h => h) (Or.inl ⟨by rfl, ?_⟩) (by assumption) ?_
  rotate_left
  · (intro w hSw; (try dsimp only at hSw); go_simp <;> with_reducible rfl)
  (try simp only [Act.put, List.getElem_toArray, List.getElem_cons_zero, List.getElem_cons_succ, List.setIfInBounds_toArray, List.set_cons_zero, List.set_cons_succ])
  refine wpAnyL_take (i := 3) (v := ?_) rfl (by kernel_rfl) (by kernel_rfl) (by kernel_rfl) (by kernel_rfl) (fun _ _ _ h => h) (Or.inl ⟨by rfl, ?_⟩) (by assumption) ?_
  rotate_left
  · (intro w hSw; (try dsimp only at hSw); go_simp <;> with_reducible rfl)
  (try simp only [Act.put, List.getElem_toArray, List.getElem_cons_zero, List.getElem_cons_succ, List.setIfInBounds_toArray, List.set_cons_zero, List.set_cons_succ])
  refine wpAnyL_take (i := 4) (v := ?_) rfl (by kernel_rfl) (by kernel_rfl) (by kernel_rfl) (by kernel_rfl) (fun _ _ _ h => h) (Or.inl ⟨by rfl, ?_⟩) (by assumption) ?_
  rotate_left
  · (intro w hSw; (try dsimp only at hSw); go_simp <;> with_reducible rfl)
  (try simp only [Act.put, List.getElem_toArray, List.getElem_cons_zero, List.getElem_cons_succ, List.setIfInBounds_toArray, List.set_cons_zero, List.set_cons_succ])
  refine wpAnyL_take (i := 5) (v := ?_) rfl (by kernel_rfl) (by kernel_rfl) (by kernel_rfl) (by kernel_rfl) (fun _ _ _ h => h) (Or.inl ⟨by rfl, ?_⟩) (by assumption) ?_
  rotate_left
  · (intro w hSw; (try dsimp only at hSw); go_simp <;> with_reducible rfl)
  (try simp only [Act.put, List.getElem_toArray, List.getElem_cons_zero, List.getElem_cons_succ, List.setIfInBounds_toArray, List.set_cons_zero, List.set_cons_succ])
  refine wpAnyL_take (i := 6) (v := ?_) rfl (by kernel_rfl) (by kernel_rfl) (by kernel_rfl) (by kernel_rfl) (fun _ _ _ h => h) (Or.inl ⟨by rfl, ?_⟩) (by assumption) ?_
  rotate_left
  · (intro w hSw; (try dsimp only at hSw); go_simp <;> with_reducible rfl)
  (try simp only [Act.put, List.getElem_toArray, List.getElem_cons_zero, List.getElem_cons_succ, List.setIfInBounds_toArray, List.set_cons_zero, List.set_cons_succ])
  refine wpAnyL_only (i := 7) (by kernel_rfl) rfl (fun K hK => ?_)
  go_simp
  refine hK _ _ (fun _ => hHeld) (fun hHeld0 => ?_)
  have hHeld := hHeld0 rfl
  clear hK K hHeld0
  (try simp only [Act.put, List.getElem_toArray, List.getElem_cons_zero, List.getElem_cons_succ, List.setIfInBounds_toArray, List.set_cons_zero, List.set_cons_succ])
  refine wpAnyL_take (i := 8) (v := ?_) rfl (by kernel_rfl) (by kernel_rfl) (by kernel_rfl) (by kernel_rfl) (fun _ _ _ h => h) (Or.inl ⟨by rfl, ?_⟩) (by assumption) ?_
  rotate_left
  · (intro w hSw; (try dsimp only at hSw); go_simp <;> with_reducible rfl)
  (try simp only [Act.put, List.getElem_toArray, List.getElem_cons_zero, List.getElem_cons_succ, List.setIfInBounds_toArray, List.set_cons_zero, List.set_cons_succ])
  refine wpAnyL_only (i := 9) (by kernel_rfl) rfl (fun K hK => ?_)
  go_simp
  refine hK _ _ (fun q => by cases q) (fun hHeld0 => ?_)
  clear hK K hHeld0
  refine wpAnyL_done (by kernel_rfl) ?_
  go_end0
  exact ⟨⟨_, rfl⟩, HE.out.drewN1⟩
end
end Go.Proofs.Ytpfnnmcokbolhaa
/- Regions that end in one deed (Wl): an operation that the deed waits for through others. -/
namespace Go.Proofs.Ytpfnnmcokbolhaa
open Go.RowKit
section
variable {P : Program} {ops : Array Oper} {Q : Exit → Act → World → Prop} {md : Region.Mode} {S : World → Prop} {k : Nat}
theorem not_ready {i j : Nat} {M : List Nat} {listed : Array Bool} (hM : ∀ m ∈ k :: M, ∃ ok, ops[m]? = some ok ∧ ∃ e ∈ ok.after, Region.binds md e = true ∧ e.on ∈ i :: M) (hun : ∀ m ∈ i :: M, listed.getD m true = false) (hr : j ∈ Region.ready md ops listed) : j ∉ k :: M := by
  intro hj
  obtain ⟨ok, hok, e, he, hb, hei⟩ := hM j hj
  obtain ⟨-, oj, hoj, hall⟩ := mem_ready.1 hr
  rw [hok] at hoj
  cases hoj
  have h1 := hall e he hb
  have h0 := hun e.on hei
  rcases Nat.lt_or_ge e.on listed.size with h' | h'
  · simp [h'] at h0 h1; rw [h0] at h1; cases h1
  · simp [Array.getElem?_eq_none h'] at h1
theorem wpAnyL_first2 {i : Nat} {M : List Nat} {oi : Oper} {v : Value} (hi : ops[i]? = some oi) (hsel : ∀ (j : Nat) (o : Oper) cs b, ops[j]? = some o → o.op ≠ .select cs b)
    (hQ : ∀ c a w, Q (.panic c) (a.put oi.dst v) w → Q (.panic c) a w) (hM : ∀ m ∈ k :: M, ∃ ok, ops[m]? = some ok ∧ ∃ e ∈ ok.after, Region.binds md e = true ∧ e.on ∈ i :: M) :
    ∀ (fuel : Nat) (listed : Array Bool) (a : Act) (w : World), (∀ m ∈ k :: M, listed.getD m true = false) →
      (∀ j oj, ops[j]? = some oj → j ≠ i → listed.getD j true = false → (∀ e ∈ oj.after, Region.binds md e = true → e.on ≠ i) → oi.apart ops oj = true) →
      i ∈ Region.ready md ops listed → YieldsIf P ops S oi v a → S w →
      wpAnyL P md ops Q S k fuel (listed.setIfInBounds i true) (a.put oi.dst v) w → wpAnyL P md ops Q S k (fuel + 1) listed a w := by
  intro fuel
  induction fuel with
  | zero =>
    intro listed a w _ _ hr hy hS H
    refine ⟨fun h => (by rw [h] at hr; cases hr), fun j hj => ?_⟩
    by_cases hji : j = i
    · subst hji; exact hy.wpOp hi hS ⟨fun _ => hS, H⟩
    · have := ready_mono hj hji
      rw [H.1] at this
      cases this
  | succ fuel ih =>
    intro listed a w hkl hfree hr hy hS H
    refine ⟨fun h => (by rw [h] at hr; cases hr), fun j hj => ?_⟩
    by_cases hji : j = i
    · subst hji; exact hy.wpOp hi hS ⟨fun _ => hS, H⟩
    · have h1 := H.2 j (ready_mono hj hji)
      obtain ⟨hjun, oj, hoj, hall⟩ := mem_ready.1 hj
      have hnot : ∀ e ∈ oj.after, Region.binds md e = true → e.on ≠ i := fun e he hb heq => by
        have h1 := hall e he hb
        have h0 := (mem_ready.1 hr).1
        rw [heq] at h1
        rcases Nat.lt_or_ge i listed.size with h' | h'
        · simp [h'] at h0 h1; rw [h0] at h1; cases h1
        · simp [Array.getElem?_eq_none h'] at h1
      have hiM : ∀ m ∈ i :: M, listed.getD m true = false := fun m hm => by
        rcases List.mem_cons.1 hm with rfl | hm
        · exact (mem_ready.1 hr).1
        · exact hkl m (List.mem_cons_of_mem _ hm)
      have hjM := not_ready hM hiM hj
      have hjk : j ≠ k := fun e => hjM (by rw [e]; exact List.mem_cons_self)
      have hik : i ≠ k := fun e => not_ready hM hiM hr (by rw [e]; exact List.mem_cons_self)
      have hkl' : ∀ m ∈ k :: M, (listed.setIfInBounds j true).getD m true = false := fun m hm => by
        have hjm : j ≠ m := fun e => hjM (by rw [e]; exact hm)
        rw [getD_set_ne true hjm]; exact hkl m hm
      have hkl2 : ((listed.setIfInBounds i true).setIfInBounds j true).getD k true = false := by rw [getD_set_ne true hjk, getD_set_ne true hik]; exact hkl k List.mem_cons_self
      have h2 := wpOp_putIf hoj (hfree j oj hoj hji hjun hnot) (fun cs b => hsel i oi cs b hi) (fun cs b => hsel j oj cs b hoj) hQ hy h1
      have hfree' : ∀ k ok, ops[k]? = some ok → k ≠ i → (listed.setIfInBounds j true).getD k true = false →
          (∀ e ∈ ok.after, Region.binds md e = true → e.on ≠ i) → oi.apart ops ok = true := fun k ok hk hki hun hno => by
        refine hfree k ok hk hki ?_ hno
        by_cases hjk : j = k
        · subst hjk; exact hjun
        · rw [getD_set_ne true hjk] at hun; exact hun
      refine wpOp_mono (fun a' w' h3 => ⟨fun _ => h3.2.1 hkl2, ih (listed.setIfInBounds j true) a' w' hkl' hfree' (ready_mono hr (Ne.symm hji)) h3.1 (h3.2.1 hkl2) ?_⟩) h2
      rw [Array.setIfInBounds_comm _ _ hji]
      exact h3.2.2
/-- operation m waits for one of some -/
def waitsM (md : Region.Mode) (ops : Array Oper) (m : Nat) (l : List Nat) : Bool := match ops[m]? with | some ok => ok.after.any (fun e => Region.binds md e && l.contains e.on) | none => false
def waitsA (md : Region.Mode) (ops : Array Oper) (listed : Array Bool) (k i : Nat) (M : List Nat) : Bool := (k :: M).all (fun m => waitsM md ops m (i :: M) && !(listed.getD m true))
theorem wpAnyL_take2 {i : Nat} (M : List Nat) {oi : Oper} {v : Value} {fuel : Nat} {listed : Array Bool} {a : Act} {w : World} (hi : ops[i]? = some oi)
    (hs : Region.noSelect ops = true) (hf : Region.free md ops listed i = true) (hr : (Region.ready md ops listed).contains i = true) (hw : waitsA md ops listed k i M = true)
    (hQ : ∀ c a w, Q (.panic c) (a.put oi.dst v) w → Q (.panic c) a w) (hy : YieldsIf P ops S oi v a) (hS : S w)
    (h : wpAnyL P md ops Q S k fuel (listed.setIfInBounds i true) (a.put oi.dst v) w) : wpAnyL P md ops Q S k (fuel + 1) listed a w := by
  unfold waitsA at hw
  rw [List.all_eq_true] at hw
  refine wpAnyL_first2 (M := M) hi (Region.noSelect_spec hs) hQ (fun m hm => ?_) fuel listed a w (fun m hm => ?_) (Region.free_spec hi hf) (by simpa using hr) hy hS h
  · have h1 := hw m hm
    rw [Bool.and_eq_true] at h1
    have h1 := h1.1
    unfold waitsM at h1
    split at h1
    · rename_i ok hok
      obtain ⟨j, hj, he⟩ := Array.any_eq_true.1 h1
      rw [Bool.and_eq_true] at he
      exact ⟨ok, hok, ok.after[j], Array.getElem_mem hj, he.1, by simpa using he.2⟩
    · cases h1
  · have h1 := hw m hm
    rw [Bool.and_eq_true] at h1
    simpa using h1.2
end
end Go.Proofs.Ytpfnnmcokbolhaa
/- A chain's Call. -/
namespace Go.Proofs.Ytpfnnmcokbolhaa
open Go.RowKit
set_option pp.deepTerms true
section
variable {w W : World} {F : List Asr} {b p k g c0 : Nat} {sz ca : Int} {C : Ch} {x : Value × Fr} {ll : List (Value × Fr)} {S : Sp}
/-- a box of one cell -/
def oneO (v : Value) (T : TypeId) : Obj := .cells #[v] T (0, 0)
theorem one_cell {q : Nat} {v : Value} {T : TypeId} {l : List Asr} (h : Sep w l W) (hm : bx q (oneO v T) ∈ l) : W.cell? ⟨q, 0, none⟩ = some v := by
  rw [cell_of_row _ _ 0 _ _ _ (Sep.at h hm)]; rfl
set_option maxRecDepth 100000 in
set_option maxHeartbeats 2000000 in
theorem ccall_no {sv : Value} {l : Lay} {place : Int} (h : Sep w (chP b p k sz ca C F) W) (hno : l.can place = false ∨ C.F = [])
    (hsl : ∀ W', Sep w F W' → Rdi W' sv l.slots) (hln : l.slots.length ≤ 4194304) :
    Calls Try.prog 16 #[.pointer (some ⟨b, 0, none⟩), layV sv l, .int .i64 place] W fun e w' => Sep w (chP b p k sz ca C F) w' ∧ e = .returned (.int .i64 250) := by
  have HB0 : Hid (Below W.heap.size W ((W.alloc (oneO (.pointer (some ⟨b, 0, none⟩)) 38)).alloc (layO sv l))) := ((Below.refl _ _).alloc (Nat.le_refl _) _).alloc (by simp) _
  have hbx : ∀ W', Below ((W.alloc (oneO (.pointer (some ⟨b, 0, none⟩)) 38)).alloc (layO sv l)).heap.size ((W.alloc (oneO (.pointer (some ⟨b, 0, none⟩)) 38)).alloc (layO sv l)) W' → W'.cell? ⟨W.heap.size, 0, none⟩ = some (.pointer (some ⟨b, 0, none⟩)) := fun W' q => by
    have B1 := below_at q ((Below.heap_alloc _ _ _ (by simp)).trans (heap_alloc_new W _)) (by simp; omega)
    rw [cell_of_row _ _ 0 _ _ _ B1]; rfl
  have HBX := Hid.mk hbx
  have HM := Hid.mk (cmay_any (fun W' q => chP_none h W' (HB0.out.trans (q.mono HB0.out.size))) (hsl _ (chP_F (h.keep HB0.out))) hln place)
  have HK := Hid.mk (fun W' (q : Below W.heap.size W W') => h.keep q)
  obtain ⟨ao, c, hsv⟩ := (hsl _ (chP_F h)).shape
  subst hsv
  unfold layV at HM ⊢
  cases hcan : l.can place
  · rw [hcan] at HM
    simp only [Bool.false_eq_true, ↓reduceIte] at HM
    clear h hsl hbx hcan hno
    go_enter Try.func16, Try.ntmps16
    go_wp2_with fail
    refine HM.out.mono ?_
    rintro e w1 ⟨hb1, rfl⟩
    have HE := Hid.mk (HK.out _ (HB0.out.trans (hb1.mono HB0.out.size)))
    clear HM hb1
    go_wp2_with fail
    go_ret
    exact ⟨HE.out, rfl⟩
  · have hF : C.F = [] := hno.resolve_left (by rw [hcan]; simp)
    rw [hcan] at HM
    simp only [↓reduceIte] at HM
    have HTN : Hid (∀ W', Below W.heap.size W W' → Calls Try.prog 41 #[.pointer (some ⟨b, 0, none⟩)] W' fun e w' => w' = W' ∧ e = .returned (.tuple #[.pointer none, .int .i64 250])) := fun W' q => ctop_none (chP_top (h.keep q) hF)
    clear h hsl hbx hcan hno
    go_enter Try.func16, Try.ntmps16
    go_wp2_with fail
    refine HM.out.mono ?_
    rintro e w1 ⟨hb1, rfl⟩
    have e0 := HBX.out _ hb1
    have HB1 := Hid.mk (HB0.out.trans (hb1.mono HB0.out.size))
    clear HM hb1
    go_wp2_with fail
    refine (HTN.out _ HB1.out).mono ?_
    rintro e w2 ⟨rfl, rfl⟩
    have HE := Hid.mk (HK.out _ (HB1.out.alloc HB1.out.size (.cells #[.pointer none] 94)))
    clear HTN
    go_wp2_with fail
    go_ret
    exact ⟨HE.out, rfl⟩
set_option maxRecDepth 100000 in
set_option maxHeartbeats 4000000 in
theorem ccall_yes {sv : Value} {l : Lay} {place : Int} (h : ChT w W b p k g c0 x ll (spA p C.S :: lkA k p sz ca C.L :: F)) (hF : C.F = x.2 :: ll.map Prod.snd) (ok : ChOk C) (hl0 : 0 ≤ C.S.last) (hcan : l.can place = true)
    (hsl : ∀ W', Sep w F W' → Rdi W' sv l.slots) (hcap : SlOk sv) :
    Calls Try.prog 16 #[.pointer (some ⟨b, 0, none⟩), layV sv l, .int .i64 place] W fun e w' => Sep w (chP b p k sz ca (callC sz C l place).2 F) w' ∧ e = .returned (.int .i64 (callC sz C l place).1) := by
  obtain ⟨hk, p0, p1⟩ := can_iff hcan
  obtain ⟨-, hn, a0, a1, r0, r1, h5, h6⟩ := (layOk_iff l).1 hk
  have hx := ok.fr x.2 (by rw [hF]; simp)
  have hxl := ok.low x.2 (by rw [hF]; simp)
  have hll : ll.length ≤ 1000 := by have := ok.few; rw [hF] at this; simp at this; omega
  obtain ⟨-, hxn, -, -, -, -, hx5, hx6⟩ := (layOk_iff x.2.lay).1 hx.lay
  have hxb := hx.b0
  have hxo0 := hx.n0
  have hxo1 := hx.n1
  obtain ⟨ao, c, hsv⟩ := (hsl _ (Sep.sub h (List.sublist_append_right [_, _, _, _, _] F))).shape
  subst hsv
  have hcc := hcap _ _ _ rfl
  obtain ⟨m, hm⟩ : ∃ m, ll.length = m := ⟨_, rfl⟩
  have h1 := (h.more (oneO (.pointer (some ⟨b, 0, none⟩)) 38)).more (layO (.slice ao l.slots.length c) l)
  simp only [World.size_alloc] at h1
  have hsub1 : ∀ W', ChT w W' b p k g c0 x ll (spA p C.S :: lkA k p sz ca C.L :: bx (W.heap.size + 1) (layO (.slice ao l.slots.length c) l) :: bx W.heap.size (oneO (.pointer (some ⟨b, 0, none⟩)) 38) :: F) → Sep w F W' := fun W' q => Sep.sub q (List.sublist_append_right [_, _, _, _, _, _, _] F)
  have hnone : ∀ W' : World, Below ((W.alloc (oneO (.pointer (some ⟨b, 0, none⟩)) 38)).alloc (layO (.slice ao l.slots.length c) l)).heap.size ((W.alloc (oneO (.pointer (some ⟨b, 0, none⟩)) 38)).alloc (layO (.slice ao l.slots.length c) l)) W' → Calls Try.prog 35 #[.pointer (some ⟨b, 0, none⟩)] W' fun e w' => e = .returned (.bool false) ∧ w' = W' := fun W' q => cnone_any (h1.keep q).k0
  have HM := cmay_any hnone (hsl _ (hsub1 _ h1)) (by omega) place
  rw [if_pos hcan] at HM
  have HM := Hid.mk HM
  unfold layV at HM ⊢
  have HSL := Hid.mk hsl
  have H1 := Hid.mk h1
  have HX := Hid.mk hx
  have HOK := Hid.mk ok
  have HLK := Hid.mk hk
  have HFF := Hid.mk hF
  have HMM := Hid.mk hm
  have HS1 := Hid.mk hsub1
  obtain ⟨⟨r, C'⟩, hr⟩ : ∃ r, callC sz C l place = r := ⟨_, rfl⟩
  rw [hr]
  unfold callC at hr
  rw [if_pos hcan, hF] at hr
  simp only at hr
  have HR := Hid.mk hr
  rw [hm] at hll
  clear h h1 hsl hsub1 hnone hx ok hk hF hcan hcap hm hr
  go_enter Try.func16, Try.ntmps16
  go_wp2_with fail
  refine HM.out.mono ?_
  rintro e w1 ⟨hb1, rfl⟩
  have h1 := H1.out.keep hb1
  have c3 := one_cell (q := W.heap.size) (v := .pointer (some ⟨b, 0, none⟩)) (T := 38) h1 (by simp)
  have HT := Hid.mk (ctop_some h1 (by have := HMM.out; omega))
  rw [HMM.out] at HT
  clear HM H1 hb1 h1
  go_wp2_with fail
  refine HT.out.mono ?_
  rintro e w2 ⟨h2, hb2, rfl⟩
  have h3 := h2.more (oneO (.pointer (some ⟨g, m * 7, none⟩)) 94)
  obtain ⟨q8, hq8⟩ : ∃ q8, w2.heap.size = q8 := ⟨_, rfl⟩
  have HQ8 := Hid.mk hq8
  obtain ⟨W3, hW3⟩ : ∃ W3, W3 = w2.alloc (oneO (.pointer (some ⟨g, m * 7, none⟩)) 94) := ⟨_, rfl⟩
  rw [← hW3, hq8] at h3
  have hl3 : W3.cell? ⟨W.heap.size, 0, none⟩ = some (.pointer (some ⟨b, 0, none⟩)) := one_cell (T := 38) h3 (by simp)
  obtain ⟨d0, d1, d2, d3⟩ := layO_cells (q := W.heap.size + 1) (v := .slice ao l.slots.length c) (f := l) h3 (by simp)
  have c8 : W3.cell? ⟨q8, 0, none⟩ = some (.pointer (some ⟨g, m * 7, none⟩)) := one_cell (T := 94) h3 (by simp)
  have e5 := h3.fr.c5
  rw [HMM.out] at e5
  have H3 := Hid.mk h3
  clear HT h2 hb2 h3 c3
  go_upto_region 7 with (fail)
  have hW3' : w2.alloc (.cells #[.pointer (some ⟨g, m * 7, none⟩)] 94) = W3 := hW3.symm
  rw [hW3']
  clear hW3 hW3'
  by_cases q1 : x.2.ops < l.args
  · have z1 : decide (x.2.ops < l.args) = true := by simpa using q1
    have hr := HR.out
    rw [if_pos q1] at hr
    simp only [Prod.mk.injEq] at hr
    obtain ⟨rfl, rfl⟩ := hr
    have HE : Hid (Sep w (chP b p k sz ca C F) W3) := chP_back (g := g) (c := c0) (x := x) (l := ll) H3.out.lose3.lose3.lose3 HFF.out
    clear HR H3 q1
    go_wp2_with fail
    go_quiet (fail)
    go_wp2_with fail
    go_ret
    exact ⟨HE.out.keep (below_drewN (Below.refl _ _) _), rfl⟩
  · have z1 : decide (x.2.ops < l.args) = false := by simpa using q1
    have hr := HR.out
    rw [if_neg q1] at hr
    have HR := Hid.mk hr
    clear hr
    go_wp2_with fail
    go_quiet (fail)
    obtain ⟨W4, hW4⟩ : ∃ W4, W4 = W3.drewN nq := ⟨_, rfl⟩
    have h4 := H3.out.drewN nq
    rw [← hW4] at h4 ⊢
    have hl3 : W4.cell? ⟨W.heap.size, 0, none⟩ = some (.pointer (some ⟨b, 0, none⟩)) := one_cell (T := 38) h4 (by simp)
    obtain ⟨d0, d1, d2, d3⟩ := layO_cells (q := W.heap.size + 1) (v := .slice ao l.slots.length c) (f := l) h4 (by simp)
    have c8 : W4.cell? ⟨q8, 0, none⟩ = some (.pointer (some ⟨g, m * 7, none⟩)) := one_cell (T := 94) h4 (by simp)
    have HFE := ffree_any h4.fr HX.out a0 (by omega : l.args ≤ x.2.ops)
    rw [HMM.out] at HFE
    have HFE := Hid.mk HFE
    have H4 := Hid.mk h4
    clear H3 hW4 h4 e5
    go_wp2_with fail
    refine HFE.out.mono ?_
    rintro e w5 ⟨hb5, rfl⟩
    have h6 := (H4.out.keep hb5).more (oneO (.int .i64 (x.2.free l.args)) 2)
    obtain ⟨W6, hW6⟩ : ∃ W6, W6 = w5.alloc (oneO (.int .i64 (x.2.free l.args)) 2) := ⟨_, rfl⟩
    have hW6' : w5.alloc (.cells #[.int .i64 (x.2.free l.args)] 2) = W6 := hW6.symm
    obtain ⟨q10, hq10⟩ : ∃ q10, w5.heap.size = q10 := ⟨_, rfl⟩
    rw [← hW6, hq10] at h6
    have HQ10 := Hid.mk hq10
    have hb3 : W6.cell? ⟨W.heap.size, 0, none⟩ = some (.pointer (some ⟨b, 0, none⟩)) := one_cell (T := 38) h6 (by simp)
    obtain ⟨f0, f1, f2, f3⟩ := layO_cells (q := W.heap.size + 1) (v := .slice ao l.slots.length c) (f := l) h6 (by simp)
    have g8 : W6.cell? ⟨q8, 0, none⟩ = some (.pointer (some ⟨g, m * 7, none⟩)) := one_cell (T := 94) h6 (by simp)
    have g10 : W6.cell? ⟨q10, 0, none⟩ = some (.int .i64 (x.2.free l.args)) := one_cell (T := 2) h6 (by simp)
    have k0 := h6.k0
    have H6 := Hid.mk h6
    obtain ⟨⟨o, er⟩, ho⟩ : ∃ t, C.S.run (x.2.free l.args) l.args = t := ⟨_, rfl⟩
    have hol : (o.getD []).length ≤ 64 := by
      have := run_len C.S (x.2.free l.args) l.args
      rw [ho] at this
      exact Nat.le_trans this (by omega)
    have HRU := run_T h6.drewN1 (x.2.free l.args) l.args
    rw [ho] at HRU
    have hr := HR.out
    rw [ho] at hr
    have HR := Hid.mk hr
    have HRU := Hid.mk HRU
    clear HFE H4 hb5 h6 hl3 d0 d1 d2 d3 c8 hr hq10 hW6 ho
    go_upto_region 10 with (fail)
    try rw [hW6']
    try rw [HQ10.out]
    clear hW6'
    go_region_held3 (fun X => X.cell? ⟨W.heap.size, 0, none⟩ = some (.pointer (some ⟨b, 0, none⟩)) ∧ X.cell? ⟨b, 0, none⟩ = some (.pointer (some ⟨p, 0, none⟩)) ∧ X.cell? ⟨q10, 0, none⟩ = some (.int .i64 (x.2.free l.args)) ∧ X.cell? ⟨W.heap.size + 1, 1, none⟩ = some (.int .i64 l.args)) (first | exact s9 | exact ⟨hb3, k0, g10, f1⟩) (first | (go_at_call 48; refine HRU.out.mono ?_; rintro e w7 ⟨v, h7, hb7, rfl⟩; have s9 := And.intro (keep_dr hb7 hb3) (And.intro (keep_dr hb7 k0) (And.intro (keep_dr hb7 g10) (keep_dr hb7 f1)))))
    obtain ⟨vs, hvs⟩ : ∃ vs, o.getD [] = vs := ⟨_, rfl⟩
    have h7 : ChT w w7 b p k g c0 x ll (spA p C.S :: lkA k p sz ca C.L :: vrow v vs :: bx q10 (oneO (.int .i64 (x.2.free l.args)) 2) :: bx q8 (oneO (.pointer (some ⟨g, m * 7, none⟩)) 94) :: bx (W.heap.size + 1) (layO (.slice ao l.slots.length c) l) :: bx W.heap.size (oneO (.pointer (some ⟨b, 0, none⟩)) 38) :: F) := by rw [← hvs]; exact h7
    obtain ⟨av, cv, rfl⟩ := vrow_shape h7
    obtain ⟨a, ha⟩ := Int.eq_ofNat_of_zero_le a0
    have HA := Hid.mk ha
    have han : a ≤ l.slots.length := by omega
    have hca : a ≤ c := by omega
    have hta : l.args.toNat = a := by rw [ha]; simp
    have hr := HR.out
    simp only [hvs] at hr
    have HR := Hid.mk hr
    have HSUB : Hid (∀ {D E G H I} {W'}, ChT w W' b p k g c0 x ll (spA p C.S :: lkA k p sz ca C.L :: D :: E :: G :: H :: I :: F) → Sep w F W') := fun {D E G H I W'} q => Sep.sub q (List.sublist_append_right [_, _, _, _, _, _, _, _, _, _] F)
    obtain ⟨f0, f1, f2, f3⟩ := layO_cells (q := W.heap.size + 1) (v := .slice ao l.slots.length c) (f := l) h7 (by simp)
    have HFT := fits_any ((HSL.out _ (HSUB.out h7)).take han) (Rd.of_row (Sep.owns (base := 0) (T := 34) (n := 2) (v := .slice av vs.length cv) (m := vs.length) (xs := wcells vs) h7 (by simp [vrow])) rfl) (by rw [hvs] at hol; omega)
    rw [← hta] at HFT
    have HFT := Hid.mk HFT
    have H7 := Hid.mk h7
    rw [HA.out] at f1
    clear hr ha H6 HRU s9 h7 hb7 hb3 k0 g10 g8 hta
    by_cases q2 : er = 0
    · subst q2
      cases hfit : fitsB (l.slots.take l.args.toNat) vs
      · have hr := HR.out
        rw [if_neg (by rw [hfit]; simp)] at hr
        rw [hfit] at HFT
        simp only [Prod.mk.injEq] at hr
        obtain ⟨rfl, rfl⟩ := hr
        clear HR hfit
        go_wp2_with fail
        refine HFT.out.mono ?_
        rintro e w8 ⟨hb8, rfl⟩
        have HE : Hid (Sep w (chP b p k sz ca C F) w8) := chP_back (g := g) (c := c0) (x := x) (l := ll) (H7.out.keep hb8).lose3.lose3.lose3.lose3.lose3 HFF.out
        clear HFT H7 hb8
        go_wp2_with fail
        go_ret
        exact ⟨HE.out, rfl⟩
      · have hr := HR.out
        have HR2 : Hid (beginC sz C l (x.2.free l.args) (place * 128 + x.2.ops) vs (callF l (x.2.free l.args)) = (r, C')) := by unfold Hid; simpa [hfit] using hr
        rw [hfit] at HFT
        clear hfit hr HR
        go_wp2_with fail
        refine HFT.out.mono ?_
        rintro e w8 ⟨hb8, rfl⟩
        have h8 := H7.out.keep hb8
        have c3 : w8.cell? ⟨W.heap.size, 0, none⟩ = some (.pointer (some ⟨b, 0, none⟩)) := one_cell (T := 38) h8 (by simp)
        obtain ⟨f0, f1, f2, f3⟩ := layO_cells (q := W.heap.size + 1) (v := .slice ao l.slots.length c) (f := l) h8 (by simp)
        have g8 : w8.cell? ⟨q8, 0, none⟩ = some (.pointer (some ⟨g, m * 7, none⟩)) := one_cell (T := 94) h8 (by simp)
        have g10 : w8.cell? ⟨q10, 0, none⟩ = some (.int .i64 (x.2.free l.args)) := one_cell (T := 2) h8 (by simp)
        have e5 := h8.fr.c5
        rw [HMM.out] at e5
        have hfree : 0 ≤ x.2.free l.args ∧ x.2.free l.args ≤ 1152921504606850000 := by unfold Fr.free; omega
        have hlk : 0 ≤ place * 128 + x.2.ops ∧ place * 128 + x.2.ops ≤ 1048576 := by omega
        have hops : l.args ≤ x.2.ops ∧ x.2.ops ≤ 64 := by omega
        have hbeg := cbegin_O (k := k) (p := p) (b := b) (sz := sz) (ca := ca) (C := C) (W := w8.drew) (F := vrow (.slice av vs.length cv) vs :: bx q10 (oneO (.int .i64 (x.2.free l.args)) 2) :: bx q8 (oneO (.pointer (some ⟨g, m * 7, none⟩)) 94) :: bx (W.heap.size + 1) (layO (.slice ao l.slots.length c) l) :: bx W.heap.size (oneO (.pointer (some ⟨b, 0, none⟩)) 38) :: F) (lv := .slice (some ⟨g, 0, none⟩) (ll.length + 1 : Nat) c0) (FV := x :: ll) (FV2 := (x.1, { x.2 with ops := x.2.ops - l.args }) :: ll) (σ := fun S => (S.drop (x.2.free l.args) l.args).2) (first := callF l (x.2.free l.args)) (sv := .slice ao l.slots.length c) (av := .slice av vs.length cv) (l := l) (at_ := x.2.free l.args) (link := place * 128 + x.2.ops) (args := vs) (fid := 49) (caps := #[.pointer (some ⟨W.heap.size, 0, none⟩), .pointer (some ⟨q10, 0, none⟩), .pointer (some ⟨W.heap.size + 1, 0, none⟩), .pointer (some ⟨q8, 0, none⟩)])
          h8.drewN1 HFF.out HOK.out HLK.out (fun W' q => HSL.out _ (Sep.sub q (List.sublist_append_right [_, _, _, _, _] F))) (fun W' q => Rd.of_row (Sep.owns (base := 0) (T := 34) (n := 2) (v := .slice av vs.length cv) (m := vs.length) (xs := wcells vs) q (List.Mem.head _)) rfl) (by rw [hvs] at hol; omega) hfree hlk (pushL_base HOK.out hl0) (fun S L => rfl) rfl (.inr ⟨rfl, _, _, _, _, rfl⟩)
          (fun A B S' L' W' q4 => (ccall1_T (S := S') (F := lkA k p sz ca L' :: A :: B :: vrow (.slice av vs.length cv) vs :: bx q10 (oneO (.int .i64 (x.2.free l.args)) 2) :: bx q8 (oneO (.pointer (some ⟨g, m * 7, none⟩)) 94) :: bx (W.heap.size + 1) (layO (.slice ao l.slots.length c) l) :: bx W.heap.size (oneO (.pointer (some ⟨b, 0, none⟩)) 38) :: F) (x := x) (l := ll) (g := g) (c := c0) (b := b) (p := p) (k := k) (a := l.args) (at_ := x.2.free l.args) q4 (by have := HMM.out; omega) (fun W'' q5 => ⟨one_cell (T := 38) q5 (by simp), one_cell (T := 2) q5 (by simp), (layO_cells (q := W.heap.size + 1) (v := .slice ao l.slots.length c) (f := l) q5 (by simp)).2.1, by rw [HMM.out]; exact one_cell (T := 94) q5 (by simp)⟩) ⟨a0, hops⟩).mono (fun e w' r => r))
        rw [HR2.out] at hbeg
        unfold layV at hbeg
        have HBG := Hid.mk hbeg
        have s1 : IntKind.i64.wrap (place * 128) = place * 128 := by rw [IntKind.wrap_i64]; omega
        have s2 : IntKind.i64.wrap (place * 128 + x.2.ops) = place * 128 + x.2.ops := by rw [IntKind.wrap_i64]; omega
        have HCL : Hid (∀ {W'}, Sep w (chP b p k sz ca C' (vrow (.slice av vs.length cv) vs :: bx q10 (oneO (.int .i64 (x.2.free l.args)) 2) :: bx q8 (oneO (.pointer (some ⟨g, m * 7, none⟩)) 94) :: bx (W.heap.size + 1) (layO (.slice ao l.slots.length c) l) :: bx W.heap.size (oneO (.pointer (some ⟨b, 0, none⟩)) 38) :: F)) W' → (W'.cell? ⟨W.heap.size, 0, none⟩ = some (.pointer (some ⟨b, 0, none⟩)) ∧ W'.cell? ⟨q10, 0, none⟩ = some (.int .i64 (x.2.free l.args)) ∧ W'.cell? ⟨q8, 0, none⟩ = some (.pointer (some ⟨g, m * 7, none⟩)) ∧ (W'.cell? ⟨W.heap.size + 1, 0, none⟩ = some (.slice ao l.slots.length c) ∧ W'.cell? ⟨W.heap.size + 1, 1, none⟩ = some (.int .i64 l.args) ∧ W'.cell? ⟨W.heap.size + 1, 2, none⟩ = some (.int .i64 l.res) ∧ W'.cell? ⟨W.heap.size + 1, 3, none⟩ = some (.int .i64 l.height)))) := fun {W'} q => ⟨one_cell (T := 38) q (by simp [chP]), one_cell (T := 2) q (by simp [chP]), one_cell (T := 94) q (by simp [chP]), layO_cells (q := W.heap.size + 1) (v := .slice ao l.slots.length c) (f := l) q (by simp [chP])⟩
        clear HFT H7 hb8 h8 hbeg HSL
        go_wp2_with fail
        refine wp_region_L 12 (fun X => X.cell? ⟨W.heap.size, 0, none⟩ = some (.pointer (some ⟨b, 0, none⟩)) ∧ X.cell? ⟨q10, 0, none⟩ = some (.int .i64 (x.2.free l.args)) ∧ X.cell? ⟨q8, 0, none⟩ = some (.pointer (some ⟨g, m * 7, none⟩)) ∧ (X.cell? ⟨W.heap.size + 1, 0, none⟩ = some (.slice ao l.slots.length c) ∧ X.cell? ⟨W.heap.size + 1, 1, none⟩ = some (.int .i64 l.args) ∧ X.cell? ⟨W.heap.size + 1, 2, none⟩ = some (.int .i64 l.res) ∧ X.cell? ⟨W.heap.size + 1, 3, none⟩ = some (.int .i64 l.height)) ∧ X.cell? ⟨g, m * 7 + 5, none⟩ = some (.int .i64 x.2.ops)) (by kernel_rfl) ⟨c3, g10, g8, ⟨f0, f1, f2, f3⟩, e5⟩ (fun hHeld => ?_)
        refine wpAnyL_take2 [] (i := 0) (v := ?_) rfl (by kernel_rfl) (by kernel_rfl) (by kernel_rfl) (by kernel_rfl) (fun _ _ _ h => h) (Or.inl ⟨by rfl, ?_⟩) (by assumption) ?_
        rotate_left
        · (intro w hSw; (try dsimp only at hSw); go_simp <;> with_reducible rfl)
        (try simp only [Act.put, List.getElem_toArray, List.getElem_cons_zero, List.getElem_cons_succ, List.setIfInBounds_toArray, List.set_cons_zero, List.set_cons_succ])
        refine wpAnyL_take2 [] (i := 1) (v := ?_) rfl (by kernel_rfl) (by kernel_rfl) (by kernel_rfl) (by kernel_rfl) (fun _ _ _ h => h) (Or.inl ⟨by rfl, ?_⟩) (by assumption) ?_
        rotate_left
        · (intro w hSw; (try dsimp only at hSw); go_simp <;> with_reducible rfl)
        (try simp only [Act.put, List.getElem_toArray, List.getElem_cons_zero, List.getElem_cons_succ, List.setIfInBounds_toArray, List.set_cons_zero, List.set_cons_succ])
        refine wpAnyL_take2 [] (i := 2) (v := ?_) rfl (by kernel_rfl) (by kernel_rfl) (by kernel_rfl) (by kernel_rfl) (fun _ _ _ h => h) (Or.inl ⟨by rfl, ?_⟩) (by assumption) ?_
        rotate_left
        · (intro w hSw; (try dsimp only at hSw); go_simp <;> with_reducible rfl)
        (try simp only [Act.put, List.getElem_toArray, List.getElem_cons_zero, List.getElem_cons_succ, List.setIfInBounds_toArray, List.set_cons_zero, List.set_cons_succ])
        refine wpAnyL_take2 [4, 9] (i := 3) (v := ?_) rfl (by kernel_rfl) (by kernel_rfl) (by kernel_rfl) (by kernel_rfl) (fun _ _ _ h => h) (Or.inl ⟨by rfl, ?_⟩) (by assumption) ?_
        rotate_left
        · (intro w hSw; (try dsimp only at hSw); go_simp <;> with_reducible rfl)
        (try simp only [Act.put, List.getElem_toArray, List.getElem_cons_zero, List.getElem_cons_succ, List.setIfInBounds_toArray, List.set_cons_zero, List.set_cons_succ])
        refine wpAnyL_take2 [9] (i := 4) (v := ?_) rfl (by kernel_rfl) (by kernel_rfl) (by kernel_rfl) (by kernel_rfl) (fun _ _ _ h => h) (Or.inl ⟨by rfl, ?_⟩) (by assumption) ?_
        rotate_left
        · (intro w hSw; (try dsimp only at hSw); go_simp <;> with_reducible rfl)
        (try simp only [Act.put, List.getElem_toArray, List.getElem_cons_zero, List.getElem_cons_succ, List.setIfInBounds_toArray, List.set_cons_zero, List.set_cons_succ])
        refine wpAnyL_take2 [6, 7, 8, 9] (i := 5) (v := ?_) rfl (by kernel_rfl) (by kernel_rfl) (by kernel_rfl) (by kernel_rfl) (fun _ _ _ h => h) (Or.inl ⟨by rfl, ?_⟩) (by assumption) ?_
        rotate_left
        · (intro w hSw; (try dsimp only at hSw); go_simp <;> with_reducible rfl)
        (try simp only [Act.put, List.getElem_toArray, List.getElem_cons_zero, List.getElem_cons_succ, List.setIfInBounds_toArray, List.set_cons_zero, List.set_cons_succ])
        refine wpAnyL_take2 [7, 8, 9] (i := 6) (v := ?_) rfl (by kernel_rfl) (by kernel_rfl) (by kernel_rfl) (by kernel_rfl) (fun _ _ _ h => h) (Or.inl ⟨by rfl, ?_⟩) (by assumption) ?_
        rotate_left
        · (intro w hSw; (try dsimp only at hSw); go_simp <;> with_reducible rfl)
        (try simp only [Act.put, List.getElem_toArray, List.getElem_cons_zero, List.getElem_cons_succ, List.setIfInBounds_toArray, List.set_cons_zero, List.set_cons_succ])
        refine wpAnyL_take2 [8, 9] (i := 7) (v := ?_) rfl (by kernel_rfl) (by kernel_rfl) (by kernel_rfl) (by kernel_rfl) (fun _ _ _ h => h) (Or.inl ⟨by rfl, ?_⟩) (by assumption) ?_
        rotate_left
        · (intro w hSw; (try dsimp only at hSw); go_simp <;> with_reducible rfl)
        (try simp only [Act.put, List.getElem_toArray, List.getElem_cons_zero, List.getElem_cons_succ, List.setIfInBounds_toArray, List.set_cons_zero, List.set_cons_succ])
        refine wpAnyL_take2 [9] (i := 8) (v := ?_) rfl (by kernel_rfl) (by kernel_rfl) (by kernel_rfl) (by kernel_rfl) (fun _ _ _ h => h) (Or.inl ⟨by rfl, ?_⟩) (by assumption) ?_
        rotate_left
        · (intro w hSw; (try dsimp only at hSw); go_simp <;> with_reducible rfl)
        (try simp only [Act.put, List.getElem_toArray, List.getElem_cons_zero, List.getElem_cons_succ, List.setIfInBounds_toArray, List.set_cons_zero, List.set_cons_succ])
        refine wpAnyL_take2 [] (i := 9) (v := ?_) rfl (by kernel_rfl) (by kernel_rfl) (by kernel_rfl) (by kernel_rfl) (fun _ _ _ h => h) (Or.inl ⟨by rfl, ?_⟩) (by assumption) ?_
        rotate_left
        · (intro w hSw; (try dsimp only at hSw); go_simp <;> with_reducible rfl)
        (try simp only [Act.put, List.getElem_toArray, List.getElem_cons_zero, List.getElem_cons_succ, List.setIfInBounds_toArray, List.set_cons_zero, List.set_cons_succ])
        refine wpAnyL_take2 [] (i := 10) (v := ?_) rfl (by kernel_rfl) (by kernel_rfl) (by kernel_rfl) (by kernel_rfl) (fun _ _ _ h => h) (Or.inl ⟨by rfl, ?_⟩) (by assumption) ?_
        rotate_left
        · (intro w hSw; (try dsimp only at hSw); go_simp <;> with_reducible rfl)
        (try simp only [Act.put, List.getElem_toArray, List.getElem_cons_zero, List.getElem_cons_succ, List.setIfInBounds_toArray, List.set_cons_zero, List.set_cons_succ])
        refine wpAnyL_take2 [] (i := 11) (v := ?_) rfl (by kernel_rfl) (by kernel_rfl) (by kernel_rfl) (by kernel_rfl) (fun _ _ _ h => h) (Or.inl ⟨by rfl, ?_⟩) (by assumption) ?_
        rotate_left
        · (intro w hSw; (try dsimp only at hSw); go_simp <;> with_reducible rfl)
        (try simp only [Act.put, List.getElem_toArray, List.getElem_cons_zero, List.getElem_cons_succ, List.setIfInBounds_toArray, List.set_cons_zero, List.set_cons_succ])
        refine wpAnyL_only (i := 12) (by kernel_rfl) rfl (fun K hK => ?_)
        go_simp
        refine HBG.out.mono ?_
        rintro e w9 ⟨h9, rfl⟩
        have HE : Hid (Sep w (chP b p k sz ca C' F) w9) := Sep.lose 3 (Sep.lose 3 (Sep.lose 3 (Sep.lose 3 (Sep.lose 3 h9))))
        refine hK _ _ (fun q => by cases q) (fun hHeld0 => ?_)
        clear hK K hHeld0
        (try simp only [Act.put, List.getElem_toArray, List.getElem_cons_zero, List.getElem_cons_succ, List.setIfInBounds_toArray, List.set_cons_zero, List.set_cons_succ])
        refine wpAnyL_only (i := 13) (by kernel_rfl) rfl (fun K hK => ?_)
        go_simp
        refine hK _ _ (fun q => by cases q) (fun hHeld0 => ?_)
        clear hK K hHeld0
        (try simp only [Act.put, List.getElem_toArray, List.getElem_cons_zero, List.getElem_cons_succ, List.setIfInBounds_toArray, List.set_cons_zero, List.set_cons_succ])
        refine wpAnyL_done (by kernel_rfl) ?_
        clear HBG HCL h9
        go_wp2_with fail
        go_ret
        exact ⟨HE.out, rfl⟩
    · have z2 : (er != 0) = true := by simpa using q2
      have hr := HR.out
      rw [if_neg (fun y => q2 y.1)] at hr
      simp only [Prod.mk.injEq] at hr
      obtain ⟨rfl, rfl⟩ := hr
      have HE : Hid (Sep w (chP b p k sz ca C F) w7) := chP_back (g := g) (c := c0) (x := x) (l := ll) H7.out.lose3.lose3.lose3.lose3.lose3 HFF.out
      clear HR H7 HFT q2
      go_wp2_with fail
      go_ret
      exact ⟨HE.out, rfl⟩
end
end Go.Proofs.Ytpfnnmcokbolhaa
/- chain.New, and the laws' small functions. -/
namespace Go.Proofs.Ytpfnnmcokbolhaa
open Go.RowKit
set_option pp.deepTerms true
section
variable {w W : World} {F : List Asr} {b p k : Nat} {sz ca : Int}
theorem newC_ok (hs : segOk sz ca = true) : newC sz = (0, ⟨⟨[⟨1, List.replicate sz.toNat (0, 0)⟩], sz⟩, ⟨[(1, sz)], []⟩, []⟩) := by
  have h := hs
  simp only [segOk, rangeB, Bool.and_eq_true, decide_eq_true_eq] at h
  have hm : max sz 1 = sz := by omega
  have ht : Sp.take ⟨[], 0⟩ sz = ((1, 0), ⟨[⟨1, List.replicate sz.toNat (0, 0)⟩], sz⟩) := by
    unfold Sp.take
    rw [if_neg (by simp [total]; omega)]
    simp [nextBase]
    omega
  unfold newC pushL
  simp [fitAt, rev, hm, ht]
theorem ch_new (h : Sep w F W) (p k : Nat) : Sep w (chA W.heap.size p k [] :: F) (W.alloc (.cells #[.pointer (some ⟨p, 0, none⟩), .pointer (some ⟨k, 0, none⟩), .slice none 0 0] 78)) := by
  have h1 := h.alloc (.cells #[.pointer (some ⟨p, 0, none⟩), .pointer (some ⟨k, 0, none⟩), .slice none 0 0] 78)
  have h2 := (Sep.pfI (P := True) trivial h1).rnil 0 99 7
  exact ch_close (l := []) (lv := .slice none 0 0) (Sep.rot [_, _] [_] h2 |>.perm (List.Perm.refl _)) rfl
set_option maxRecDepth 100000 in
set_option maxHeartbeats 1000000 in
theorem cnew_ok (h : Sep w (spA p ⟨[], 0⟩ :: F) W) (hs : segOk sz ca = true) : Calls Try.prog 11 #[.pointer (some ⟨p, 0, none⟩), .agg #[.int .i64 sz, .int .i64 ca]] W fun e w' => ∃ b k, Sep w (chP b p k sz ca (newC sz).2 F) w' ∧ e = .returned (.tuple #[.pointer (some ⟨b, 0, none⟩), .int .i64 0]) := by
  have h1 := h.keep ((Below.refl _ _).alloc (Nat.le_refl _) (.cells #[.int .i64 sz, .int .i64 ca] 23))
  have HN := Hid.mk (snew_sep h1 p sz ca hs)
  have hp := newC_ok hs
  unfold newC at hp ⊢
  simp only [Prod.mk.injEq] at hp
  clear h h1
  go_enter Try.func11, Try.ntmps11
  go_wp2_with fail
  refine HN.out.mono ?_
  rintro e w1 ⟨k, h1, rfl⟩
  have HP := push_sep (h1.perm (List.Perm.swap _ _ _)) 1 (by simp) (by simp) (by simp)
  rw [hp.1] at HP
  have HP := Hid.mk HP
  clear HN h1 hp
  go_wp2_with fail
  refine HP.out.mono ?_
  rintro e w2 ⟨h2, rfl⟩
  have H2 := Hid.mk (h2.keep ((Below.refl _ _).alloc (Nat.le_refl _) (.cells #[.int .i64 (pushL ⟨[], 0⟩ ⟨[], []⟩ sz 1).1.1.1, .int .i64 (pushL ⟨[], 0⟩ ⟨[], []⟩ sz 1).1.1.2] 88)))
  clear HP h2
  go_wp2_with fail
  go_ret2
  have h3 := ch_new H2.out p k
  simp only [World.size_alloc] at h3
  exact ⟨_, k, h3, rfl⟩
theorem cnew_bad (h : Sep w F W) (hs : segOk sz ca = false) : Calls Try.prog 11 #[.pointer (some ⟨p, 0, none⟩), .agg #[.int .i64 sz, .int .i64 ca]] W fun e w' => Sep w F w' ∧ e = .returned (.tuple #[.pointer none, .int .i64 250]) := by
  have h1 := h.keep ((Below.refl _ _).alloc (Nat.le_refl _) (.cells #[.int .i64 sz, .int .i64 ca] 23))
  have HN := Hid.mk (snew_bad h1 p sz ca hs)
  clear h h1
  go_enter Try.func11, Try.ntmps11
  go_wp2_with fail
  refine HN.out.mono ?_
  rintro e w1 ⟨h1, rfl⟩
  have H1 := Hid.mk h1
  clear HN h1
  go_wp2_with fail
  go_ret2
  exact ⟨H1.out, rfl⟩
theorem num_any (n : Int) (W : World) : Calls Try.prog 15 #[.int .i64 n] W fun e w' => Below W.heap.size W w' ∧ e = .returned (.agg #[.int .i64 1, .int .i64 n]) := by
  go_enter Try.func15, Try.ntmps15
  go_wp2
  refine bodyPost_ret (v := .agg #[.int .i64 1, .int .i64 n]) (by simp [results, Try.results15, go_sem]) rfl ⟨(Below.refl _ _).alloc (Nat.le_refl _) _, rfl⟩
end
end Go.Proofs.Ytpfnnmcokbolhaa
/- The chapter's examples (alive) in plain words. -/
namespace Go.Proofs.Ytpfnnmcokbolhaa
def someL : Lay := ⟨List.replicate 60 1, 1, 1, 60⟩
def frOkB (f : Fr) : Bool := layOk f.lay && rangeB f.ops 0 f.lay.height && rangeB f.base 0 1152921504606846976
def chOkB (C : Ch) : Bool := C.F.all frOkB && decide (C.F.length ≤ 1000) && decide (C.S.last ≤ 1152921504606846976) && decide (C.L.live.length + C.L.kept.length ≤ 1000000) &&
  (C.L.live ++ C.L.kept).all fun r => rangeB r.1 0 1152921504606846976 && rangeB r.2 0 1048576
theorem chOk_of {C : Ch} (h : chOkB C = true) : ChOk C := by
  simp only [chOkB, Bool.and_eq_true, decide_eq_true_eq, List.all_eq_true, frOkB, rangeB] at h
  obtain ⟨⟨⟨⟨h1, h2⟩, h3⟩, h4⟩, h5⟩ := h
  exact ⟨fun f hf => by obtain ⟨⟨a, b, c⟩, d, e⟩ := h1 f hf; exact ⟨a, b, c, d, by omega⟩, h2, h3, fun f hf => (h1 f hf).2.2, h4, fun r hr => by obtain ⟨⟨a, b⟩, c, d⟩ := h5 r hr; exact ⟨a, b, c, d⟩⟩
def aN : Ch := (newC 256).2
def aR : Ch := (runC 256 aN someL [(1, 5)] 3).2
def aP1 : Ch := (pushC aR (1, 7)).2
def aC1 : Ch := (callC 256 aP1 someL 9).2
def aP2 : Ch := (pushC aC1 (1, 7)).2
def aC2 : Ch := (callC 256 aP2 someL 9).2
def aP3 : Ch := (pushC aC2 (1, 7)).2
def aC3 : Ch := (callC 256 aP3 someL 9).2
def aS : Ch := (storeC aC3 1 (1, 8)).2
def aT : Ch := (retC 1 aS).2
def aO : Ch := (popC aT).2
theorem al_run : (runC 256 aN someL [(1, 5)] 3).1 = 0 := by decide +kernel
theorem al_ok0 : chOkB aN = true := by decide +kernel
theorem al_ok1 : chOkB aR = true := by decide +kernel
theorem al_load0 : loadC aR 0 = ((1, 5), 0) := by decide +kernel
theorem al_load1 : loadC aR 1 = ((1, 0), 0) := by decide +kernel
theorem al_place : placeC aR = ((3, 0), 0) := by decide +kernel
theorem al_ret : (retC 1 aS).1 = 0 ∧ chOkB aT = true ∧ (popC aT).1 = ((1, 8), 0) ∧ aO.L.live.length = 1 ∧ aO.L.kept.length = 1 ∧ aO.F.length = 3 := by decide +kernel
theorem al_p1 : (pushC aR (1, 7)).1 = 0 ∧ (callC 256 aP1 someL 9).1 = 0 ∧ chOkB aP1 = true ∧ chOkB aC1 = true := by decide +kernel
theorem al_p2 : (pushC aC1 (1, 7)).1 = 0 ∧ (callC 256 aP2 someL 9).1 = 0 ∧ chOkB aP2 = true ∧ chOkB aC2 = true := by decide +kernel
theorem al_p3 : (pushC aC2 (1, 7)).1 = 0 ∧ (callC 256 aP3 someL 9).1 = 0 ∧ chOkB aP3 = true ∧ chOkB aC3 = true := by decide +kernel
theorem al_store : (storeC aC3 1 (1, 8)).1 = 0 ∧ chOkB aS = true ∧ chOkB aO = true := by decide +kernel
theorem al_linkB : (aR.F.all fun f => rangeB (aR.S.get f.link).1.2 0 1048576) = true := by decide +kernel
theorem fst0 {α : Type} {x : Int × α} (h : x.1 = 0) : x = (0, x.2) := by rw [← h]
theorem al_ep1 : pushC aR (1, 7) = (0, aP1) := fst0 al_p1.1
theorem al_ec1 : callC 256 aP1 someL 9 = (0, aC1) := fst0 al_p1.2.1
theorem al_ep2 : pushC aC1 (1, 7) = (0, aP2) := fst0 al_p2.1
theorem al_ec2 : callC 256 aP2 someL 9 = (0, aC2) := fst0 al_p2.2.1
theorem al_ep3 : pushC aC2 (1, 7) = (0, aP3) := fst0 al_p3.1
theorem al_ec3 : callC 256 aP3 someL 9 = (0, aC3) := fst0 al_p3.2.1
theorem al_es : storeC aC3 1 (1, 8) = (0, aS) := fst0 al_store.1
theorem al_et : retC 1 aS = (0, aT) := fst0 al_ret.1
theorem fst1 {α β : Type} {x : α × β} {a : α} (h : x.1 = a) : x = (a, x.2) := by rw [← h]
theorem al_eo : popC aT = (((1, 8), 0), aO) := fst1 al_ret.2.2.1
theorem al_lens : aC3.L.live.length = 2 ∧ aC3.L.kept.length = 0 ∧ aC3.F ≠ [] := by decide +kernel
end Go.Proofs.Ytpfnnmcokbolhaa
/- The chapter's layout. -/
namespace Go.Proofs.Ytpfnnmcokbolhaa
open Go.RowKit
set_option pp.deepTerms true
theorem one_new1 (W : World) (a : Value) (T : TypeId) : ∀ j u, [a][j]? = some u → (W.alloc (.cells #[a] T)).cell? ((⟨W.heap.size, 0, none⟩ : Addr).add j) = some u := by
  intro j u hu
  match j, hu with
  | 0, hu => simpa [Addr.add] using hu
theorem slOk_row {W : World} {base T s m : Nat} {v : Value} {xs : List Value} (h : W.ownsRow base T s v m xs) : SlOk v := by
  rcases h.2 with ⟨rfl, _⟩ | ⟨g, cap, cur, rfl, _, _, hc, _⟩
  · intro ao _ c e
    simp only [Value.slice.injEq] at e
    omega
  · intro ao n c e
    simp only [Value.slice.injEq] at e
    omega
theorem icells_snoc (j : Nat) : icells (List.replicate j 1) ++ [.int .i64 1] = icells (List.replicate (j + 1) 1) := by
  simp [icells, List.replicate_succ']
set_option maxRecDepth 100000 in
set_option maxHeartbeats 2000000 in
theorem some_sep {w W : World} {F : List Asr} (h : Sep w F W) : Calls Try.prog 30 #[] W fun e w' => ∃ v, Sep w (rw_ 0 3 1 v 60 (icells someL.slots) :: F) w' ∧ e = .returned (layV v someL) := by
  obtain ⟨i0, hi, hz0, hz1, hz2⟩ := info_parts infoI
  have h0 := ((h.alloc (layO (.slice none 0 0) ⟨[], 0, 0, 0⟩)).alloc (layO (.slice none 0 0) ⟨[], 1, 1, 60⟩)).rnil 0 3 1
  simp only [World.size_alloc] at h0
  have H0 := Hid.mk h0
  clear h h0
  go_enter Try.func30, Try.ntmps30
  go_wp2_with fail
  go_loopw [2] (fun i wr => ∃ (j : Nat) (v : Value), i = .int .i64 j ∧ j ≤ 60 ∧ Hid (Sep w (rw_ 0 3 1 v j (icells (List.replicate j 1)) :: bx (W.heap.size + 1) (layO v ⟨[], 1, 1, 60⟩) :: bx W.heap.size (layO (.slice none 0 0) ⟨[], 0, 0, 0⟩) :: F) wr)) (fun i _ => 60 - (intOf i).toNat)
  case atStart => exact ⟨0, .slice none 0 0, rfl, by omega, H0.out⟩
  case round =>
    obtain ⟨j, v, rfl, hj, hs⟩ := hrel
    have hrow := hs.out.owns (base := 0) (T := 3) (n := 1) (v := v) (m := j) (xs := icells (List.replicate j 1)) (List.Mem.head _)
    obtain ⟨ao, c, rfl⟩ := own_shape hrow
    obtain ⟨d0, d1, d2, d3⟩ := layO_cells (q := W.heap.size + 1) (v := .slice ao j c) (f := ⟨[], 1, 1, 60⟩) hs.out (List.Mem.tail _ (List.Mem.head _))
    by_cases hlt : j < 60
    · have z : decide ((j : Int) < 60) = true := decide_eq_true (by omega)
      go_wp2_with (at_builtin; refine wpList_append_lies _ rfl _ _ 29 rfl 0 3 i0 (.int .i64 0) 1 8 Try.underlying29 hi hz0 hz1 hz2 rfl (by decide) _ _ _ rfl (hrow.alloc _) _ 1 1 [.int .i64 1] rfl rfl (one_new1 _ _ _) ?c3 (by omega) ?c4 ?c5 (Nat.zero_le _) _ rfl ?_)
      case c3 => simp [Value.oneCell']
      case c4 => unfold maxLen; omega
      case c5 => omega
      intro g2 cap2 w2 hown2 hg2 hat2 hlt2
      have h2 := Sep.grown (ob := .cells #[.int .i64 1] 3) hs.out (v' := .slice (some ⟨g2, 0, none⟩) (j + 1) cap2) (m' := j + 1) (xs' := icells (List.replicate j 1) ++ [.int .i64 1]) hown2 hg2 (hat2.elim (fun q => .inl (by rw [q]; rfl)) (fun q => .inr (by rw [q]; rfl)))
      rw [icells_snoc] at h2
      obtain ⟨e0, -, -, -⟩ := layO_cells (q := W.heap.size + 1) (v := .slice ao j c) (f := ⟨[], 1, 1, 60⟩) h2 (List.Mem.tail _ (List.Mem.head _))
      have z0 := Sep.free (b := W.heap.size + 1) (cs := #[.slice ao j c, .int .i64 1, .int .i64 1, .int .i64 60]) (T := 31) h2 (List.Mem.tail _ (List.Mem.head _)) 0
      have h3 := Sep.store (h2.perm (List.Perm.swap _ _ _)) 0 (.slice (some ⟨g2, 0, none⟩) (j + 1) cap2)
      have H3 := Hid.mk (h3.perm (List.Perm.swap _ _ _))
      clear hs hrow hown2 hg2 hat2 hlt2 h2 h3 H0
      go_wp2_with fail
      exact ⟨⟨j + 1, _, by go_num, by omega, H3.out⟩, by simp [intOf]; omega⟩
    · obtain rfl : j = 60 := by omega
      have z : decide (((60 : Nat) : Int) < 60) = false := by decide
      obtain ⟨f0, f1, f2, f3⟩ := layO_cells (q := W.heap.size) (v := .slice none 0 0) (f := ⟨[], 0, 0, 0⟩) hs.out (List.Mem.tail _ (List.Mem.tail _ (List.Mem.head _)))
      have B0 := hs.out.at (b := W.heap.size) (o := layO (.slice none 0 0) ⟨[], 0, 0, 0⟩) (List.Mem.tail _ (List.Mem.tail _ (List.Mem.head _)))
      have zz := fun i => frozen_of_row _ _ i _ _ B0
      have zz0 := zz 0
      have zz1 := zz 1
      have zz2 := zz 2
      have zz3 := zz 3
      have H3 := Hid.mk hs.out
      clear hs hrow H0 B0 zz
      go_wp2_with fail
      have h9 := Sep.store (Sep.store (Sep.store (Sep.store (Sep.pick 2 H3.out rfl) 0 (.slice ao 60 c)) 1 (.int .i64 1)) 2 (.int .i64 1)) 3 (.int .i64 60)
      refine bodyPost_ret (v := layV (.slice ao 60 c) someL) ?_ rfl ⟨_, Sep.lose 1 h9.tl, rfl⟩
      simp [results, Try.results30, go_sem, layV, someL, *]
end Go.Proofs.Ytpfnnmcokbolhaa
/- The chapter's examples hold. -/
namespace Go.Proofs.Ytpfnnmcokbolhaa
open Go.RowKit
set_option pp.deepTerms true
section
variable {w W : World} {F : List Asr} {b p k : Nat} {sz ca : Int} {C C' : Ch}
theorem ccall_any {sv : Value} {l : Lay} {place : Int} (h : Sep w (chP b p k sz ca C F) W) (ok : ChOk C) (hsl : ∀ W', Sep w F W' → Rdi W' sv l.slots) (hln : l.slots.length ≤ 4194304) (hcap : SlOk sv) :
    Calls Try.prog 16 #[.pointer (some ⟨b, 0, none⟩), layV sv l, .int .i64 place] W fun e w' => Sep w (chP b p k sz ca (callC sz C l place).2 F) w' ∧ e = .returned (.int .i64 (callC sz C l place).1) := by
  by_cases hno : l.can place = false ∨ C.F = []
  · have e : callC sz C l place = (250, C) := by
      unfold callC
      rcases hno with q | q
      · rw [q]; rfl
      · rw [q]; split <;> rfl
    rw [e]
    exact ccall_no h hno hsl hln
  · rw [not_or] at hno
    obtain ⟨f, fs, hF⟩ := ne_cons hno.2
    obtain ⟨g, c, x, l', h1, -, -, h4⟩ := chP_cons h hF
    exact ccall_yes h4 h1 ok (chP_last h) (by simpa using hno.1) hsl hcap
theorem al_push (h : Sep w (chP b p k sz ca C F) W) (ok : ChOk C) {v1 v2 : Int} (hC : pushC C (v1, v2) = (0, C')) : Calls Try.prog 14 #[.pointer (some ⟨b, 0, none⟩), .agg #[.int .i64 v1, .int .i64 v2]] W fun e w' => Sep w (chP b p k sz ca C' F) w' ∧ e = .returned (.int .i64 0) := by
  have := cpush_any h ok (v1, v2)
  rw [hC] at this
  exact this
theorem al_call {v : Value} (h : Sep w (rw_ 0 3 1 v 60 (icells someL.slots) :: chP b p k sz ca C F) W) (ok : ChOk C) {place : Int} (hC : callC sz C someL place = (0, C')) : Calls Try.prog 16 #[.pointer (some ⟨b, 0, none⟩), layV v someL, .int .i64 place] W fun e w' => Sep w (chP b p k sz ca C' F) w' ∧ e = .returned (.int .i64 0) := by
  have := ccall_any (sv := v) (l := someL) (place := place) (chP_in h) ok (fun W' q => Rdi.of_row (q.owns (base := 0) (T := 3) (n := 1) (v := v) (m := 60) (xs := icells someL.slots) (List.Mem.head _)) rfl) (by decide) (slOk_row (h.owns (base := 0) (T := 3) (n := 1) (v := v) (m := 60) (xs := icells someL.slots) (List.Mem.head _)))
  rw [hC] at this
  refine this.mono ?_
  rintro e w' ⟨h1, rfl⟩
  exact ⟨Sep.lose 3 h1, rfl⟩
/-- the first frame -/
theorem al_first {v : Value} {q : Nat} (h : Sep w (bx q (.cells #[.int .i64 1, .int .i64 5] 34) :: rw_ 0 3 1 v 60 (icells someL.slots) :: chP b p k 256 1 aN []) W) : Calls Try.prog 12 #[.pointer (some ⟨b, 0, none⟩), layV v someL, .slice (some ⟨q, 0, none⟩) 1 1, .int .i64 3] W fun e w' => Sep w (chP b p k 256 1 aR []) w' ∧ e = .returned (.int .i64 0) := by
  have h2 : Sep w (chP b p k 256 1 aN [bx q (.cells #[.int .i64 1, .int .i64 5] 34), rw_ 0 3 1 v 60 (icells someL.slots)]) W := Sep.rot [_, _] [_, _, _] h
  have := crun_any (sv := v) (av := .slice (some ⟨q, 0, none⟩) 1 1) (l := someL) (args := [(1, 5)]) (place := 3) h2 (chOk_of al_ok0) (fun W' q => Rdi.of_row (q.owns (base := 0) (T := 3) (n := 1) (v := v) (m := 60) (xs := icells someL.slots) (by simp)) rfl) (by decide) (slOk_row (h.owns (base := 0) (T := 3) (n := 1) (v := v) (m := 60) (xs := icells someL.slots) (by simp)))
    (fun W' q' => .inr ⟨q, 0, 1, rfl, q'.lt (o := .cells #[.int .i64 1, .int .i64 5] 34) (by simp), fun j hj => by
      obtain rfl : j = 0 := by simpa using hj
      have B := q'.at (b := q) (o := .cells #[.int .i64 1, .int .i64 5] 34) (by simp)
      exact ⟨by rw [cell_of_row _ _ _ _ _ _ B]; rfl, by rw [cell_of_row _ _ _ _ _ _ B]; rfl⟩⟩) (by decide)
  rw [fst0 al_run] at this
  refine this.mono ?_
  rintro e w' ⟨h1, rfl⟩
  exact ⟨Sep.lose 3 (Sep.lose 3 h1), rfl⟩
end
end Go.Proofs.Ytpfnnmcokbolhaa
/- ChainNames in plain data: the chain's states. -/
namespace Go.Proofs.Ytpfnnmcokbolhaa
def mainL : Lay := ⟨[1], 0, 0, 64⟩
def wideL : Lay := ⟨4 :: 1 :: 2 :: List.replicate 50 1, 1, 2, 64⟩
def cq0 : Ch := (newC 256).2
def cq1 : Ch := (runC 256 cq0 mainL [] 0).2
def cqs (C : Ch) (i : Nat) : Ch := (callC 256 (pushC (pushC C (1, (i : Int))).2 (4, 1)).2 wideL i).2
def cq2 : Ch := cqs (cqs (cqs (cqs (cqs cq1 0) 1) 2) 3) 4
def cq3 : Ch := (putC cq2 (4, 1) (1, 77)).2
def cq4 : Ch := (storeC cq3 1 (1, 4)).2
def cq5 : Ch := (storeC cq4 2 (2, 6)).2
def cq6 : Ch := (retC 0 cq5).2
def cq7 : Ch := (popC cq6).2
def cq8 : Ch := (popC cq7).2
def cq9 : Ch := (cutC 0 cq8 1).2
theorem cn_run : (runC 256 cq0 mainL [] 0).1 = 0 := by decide +kernel
theorem cn_addr : addrC cq1 0 = ((4, 1), 0) := by decide +kernel
theorem cn_put : (putC cq2 (4, 1) (1, 77)).1 = 0 := by decide +kernel
theorem cn_load : loadC cq3 0 = ((4, 1), 0) := by decide +kernel
theorem cn_get : getC cq3 (4, 1) = ((1, 77), 0) := by decide +kernel
theorem cn_store1 : (storeC cq3 1 (1, 4)).1 = 0 := by decide +kernel
theorem cn_store2 : (storeC cq4 2 (2, 6)).1 = 0 := by decide +kernel
theorem cn_place : placeC cq5 = ((4, 2), 0) := by decide +kernel
theorem cn_ret : (retC 0 cq5).1 = 0 := by decide +kernel
theorem cn_pop1 : (popC cq6).1 = ((2, 6), 0) := by decide +kernel
theorem cn_pop2 : (popC cq7).1 = ((1, 4), 0) := by decide +kernel
theorem cn_height : heightC cq8 = 1 := by decide +kernel
theorem cn_cut : (cutC 0 cq8 1).1 = 0 := by decide +kernel
theorem cn_load2 : loadC cq9 0 = ((1, 77), 0) := by decide +kernel
theorem cn_height2 : heightC cq9 = 1 ∧ cq9.F.length = 1 := by decide +kernel
/-- the chain ahead of the i-th call, and with the number pushed, and the pointer too -/
def cqi : Nat → Ch
  | 0 => cq1
  | n + 1 => cqs (cqi n) n
def cqp (n : Nat) : Ch := (pushC (cqi n) (1, (n : Int))).2
def cqr (n : Nat) : Ch := (pushC (cqp n) (4, 1)).2
def rndB (n : Nat) : Bool := decide ((pushC (cqi n) (1, (n : Int))).1 = 0) && decide ((pushC (cqp n) (4, 1)).1 = 0) && decide ((callC 256 (cqr n) wideL n).1 = 0) && chOkB (cqi n) && chOkB (cqp n) && chOkB (cqr n)
theorem rnd_all : ((List.range 5).all rndB) = true := by decide +kernel
theorem rnd_at {n : Nat} (h : n < 5) : (pushC (cqi n) (1, (n : Int))) = (0, cqp n) ∧ (pushC (cqp n) (4, 1)) = (0, cqr n) ∧ (callC 256 (cqr n) wideL n) = (0, cqi (n + 1)) ∧ ChOk (cqi n) ∧ ChOk (cqp n) ∧ ChOk (cqr n) := by
  have h1 := List.all_eq_true.1 rnd_all n (List.mem_range.2 h)
  simp only [rndB, Bool.and_eq_true, decide_eq_true_eq] at h1
  obtain ⟨⟨⟨⟨⟨h1, h2⟩, h3⟩, h4⟩, h5⟩, h6⟩ := h1
  exact ⟨fst0 h1, fst0 h2, fst0 h3, chOk_of h4, chOk_of h5, chOk_of h6⟩
def oks : List Ch := [cq0, cq1, cq2, cq3, cq4, cq5, cq6, cq7, cq8, cq9]
theorem cn_oks : oks.all chOkB = true := by decide +kernel
theorem cn_ok {C : Ch} (h : C ∈ oks) : ChOk C := chOk_of (List.all_eq_true.1 cn_oks C h)
theorem cn_ne : cq2.F ≠ [] ∧ cq3.F ≠ [] ∧ cq4.F ≠ [] ∧ cq8.F ≠ [] ∧ cq9.F ≠ [] ∧ cq1.F ≠ [] := by decide +kernel
theorem cn_linkB : (cq5.F.all fun f => rangeB (cq5.S.get f.link).1.2 0 1048576) = true := by decide +kernel
theorem cn_link : ∀ f ∈ cq5.F, 0 ≤ (cq5.S.get f.link).1.2 ∧ (cq5.S.get f.link).1.2 ≤ 1048576 := fun f hf => by
  have := List.all_eq_true.1 cn_linkB f hf
  simpa [rangeB] using this
-- what is refused
def noL : Lay := ⟨[], 0, 0, 65⟩
theorem ce1 : retC 0 cq9 = (250, cq9) := by kernel_rfl
theorem ce2 : cutC 0 cq9 2 = (250, cq9) := by kernel_rfl
theorem ce3 : cutC 0 cq9 (-1) = (250, cq9) := by kernel_rfl
theorem ce4 : pushC cq9 (0, 0) = (250, cq9) := by kernel_rfl
theorem ce5 : storeC cq9 0 (4, 1) = (250, cq9) := by kernel_rfl
theorem ce6 : storeC cq9 1 (1, 1) = (250, cq9) := by kernel_rfl
theorem ce7 : callC 256 cq9 wideL 0 = (250, cq9) := by kernel_rfl
theorem ce8 : callC 256 cq9 mainL 512 = (250, cq9) := by kernel_rfl
theorem ce9 : callC 256 cq9 mainL (-1) = (250, cq9) := by kernel_rfl
theorem ce10 : callC 256 cq9 noL 0 = (250, cq9) := by kernel_rfl
theorem ce11 : runC 256 cq9 wideL [] 0 = (250, cq9) := by kernel_rfl
theorem ce12 : putC cq9 (4, 1) (4, 1) = (250, cq9) := by kernel_rfl
theorem ce13 : putC cq9 (1, 1) (1, 1) = (250, cq9) := by kernel_rfl
theorem ce14 : putC cq9 (4, 0) (1, 1) = (250, cq9) := by kernel_rfl
theorem ce15 : addrC cq9 1 = ((0, 0), 250) := by kernel_rfl
theorem ce16 : getC cq9 (4, 999) = ((0, 0), 250) := by kernel_rfl
-- without frames
def cqa : Ch := (dropC 0 cq9).2
theorem ca_drop : dropC 0 cq9 = (0, cqa) := by kernel_rfl
theorem ca_res : resC cqa = (none, 250) := by kernel_rfl
theorem ca_pop : popC cqa = (((0, 0), 250), cqa) := by kernel_rfl
theorem ca_drop2 : dropC 0 cqa = (250, cqa) := by kernel_rfl
theorem ca_place : placeC cqa = ((0, 0), 250) := by kernel_rfl
theorem ca_ok : chOkB cqa = true := by decide +kernel
theorem ca_words : wordsC cqa = List.replicate 256 (0, 0) := by decide +kernel
theorem ca_F : cqa.F = [] := List.isEmpty_iff.1 (by decide +kernel)
theorem ca_link : ∀ f ∈ cqa.F, 0 ≤ (cqa.S.get f.link).1.2 ∧ (cqa.S.get f.link).1.2 ≤ 1048576 := fun f hf => by rw [ca_F] at hf; cases hf
theorem cn_live1 : cq9.L.live.length = 1 := by decide +kernel
theorem cn_kept1 : cq9.L.kept.length = 0 := by decide +kernel
theorem cn_live2 : cq2.L.live.length = 2 := by decide +kernel
theorem cn_kept2 : cq2.L.kept.length = 0 := by decide +kernel
theorem cn_depth1 : cq9.F.length = 1 := by decide +kernel
theorem ca_live : cqa.L.live = [(1, 256)] := by decide +kernel
end Go.Proofs.Ytpfnnmcokbolhaa
