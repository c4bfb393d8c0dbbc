/- Parts Wb Vh Vi Ye, put together. -/
import Derived.Test.YtpfnnmcokbolhaaGreatMd16
import Derived.Test.YtpfnnmcokbolhaaGreatMd24
import Derived.Maps.AppendAt
/- A chain's words, all of them. -/
namespace Go.Proofs.YtpfnnmcokbolhaaGreat
open Go.RowKit Go.Shelf
attribute [local go_sem] Oper.semAt_some
section
variable {w wS : World} {F : List Asr} {b p k : Nat} {sz ca : Int} {C : Ch}
theorem clive_stops (n : Nat) (hn : 1 ≤ n) (Bn : Nat) (hS : Sep w (chP b p k sz ca C F) wS) (ok : ChOk C) (hr : ∀ r ∈ C.L.live, 0 ≤ r.1 ∧ r.1 ≤ 1000000000000 ∧ 0 ≤ r.2 ∧ r.2 ≤ 1000000000000) (w0 : World) (hw0 : Below wS.heap.size wS w0) (hB : w0.heap[Bn]? = some (.cells #[.pointer (some ⟨b, 0, none⟩)] 40 (0, 0))) :
    SeqStopsK Fence.wide n Tryz.prog 68 #[.pointer (some ⟨Bn, 0, none⟩)] wenc (KpR wS.heap.size) (fun ys => ys = welL C.S C.L.live) (fun pre => pre <+: welL C.S C.L.live) (welL C.S C.L.live).length w0 := fun l J Jx W hW hJ _ hY h0 =>
  clive1_in n hn l Bn hS ok hr J Jx _ hJ hY W (hw0.trans (hW.mono hw0.size)) ((hW.block Bn (lt_of_heap hB)).trans hB) h0
def wvals (pre : List (Int × (Int × Int))) : List (Int × Int) := pre.map (·.2)
set_option maxRecDepth 100000 in
set_option maxHeartbeats 2000000 in
theorem cwords_in {W0 : World} (h : Sep w (chP b p k sz ca C F) W0) (ok : ChOk C) (hr : ∀ r ∈ C.L.live, 0 ≤ r.1 ∧ r.1 ≤ 1000000000000 ∧ 0 ≤ r.2 ∧ r.2 ≤ 1000000000000) (hcnt : (welL C.S C.L.live).length ≤ 4194304) (n : Nat) (hn : 5 ≤ n) :
    CallsIn Fence.wide n Tryz.prog 15 #[.pointer (some ⟨b, 0, none⟩)] W0 fun e w' => Below W0.heap.size W0 w' ∧ ∃ v, e = .returned v ∧ w'.ownsRow W0.heap.size 34 2 v (wordsC C).length (wcells (wordsC C)) := by
  have hfn : ∀ k, Fence.wide.fn k := fun _ => trivial
  have hn1 : 1 ≤ n := by omega
  obtain ⟨k0, -, -⟩ := ch_k0 (show Sep w (chA b p k C.F :: spA p C.S :: lkA k p sz ca C.L :: F) W0 from h)
  have HN := Hid.mk (cnone_any k0)
  obtain ⟨i0, hi, hz0, hz1, hz2⟩ := info_parts infoV
  refine callsIn_of_wp_marks Tryz.func15 rfl trivial ?_ rfl
  simp only [Tryz.ntmps15, List.size_toArray, List.length_cons, List.length_nil, Nat.reduceAdd, Nat.reduceSub, Array.replicate_succ, Array.replicate_zero, List.push_toArray, List.append_toArray, List.nil_append, List.cons_append]
  gi_wp2
  refine (callsIn_wide.2 HN.out).mono ?_
  rintro e W ⟨rfl, rfl⟩
  clear HN k0
  gi_wp2
  refine (clive_in (n - 1) _ _).mono ?_
  rintro e w' ⟨rfl, rfl⟩
  gi_wp2
  have bN := (Boxed.new W 32 (.slice none 0 0)).alloc (.cells #[.pointer (some ⟨b, 0, none⟩)] 40)
  have bE := Boxed.new (W.alloc (.cells #[.slice none 0 0] 32)) 40 (.pointer (some ⟨b, 0, none⟩))
  simp only [World.size_alloc] at bE
  have hB0 : Below W.heap.size W ((W.alloc (.cells #[.slice none 0 0] 32)).alloc (.cells #[.pointer (some ⟨b, 0, none⟩)] 40)) := ((Below.refl _ W).alloc (Nat.le_refl _) _).alloc (by simp) _
  have hsz : ((W.alloc (.cells #[.slice none 0 0] 32)).alloc (.cells #[.pointer (some ⟨b, 0, none⟩)] 40)).heap.size = W.heap.size + 2 := by simp
  obtain ⟨W1, hW1⟩ : ∃ W1, (W.alloc (.cells #[.slice none 0 0] 32)).alloc (.cells #[.pointer (some ⟨b, 0, none⟩)] 40) = W1 := ⟨_, rfl⟩
  rw [hW1] at bN bE hB0 hsz ⊢
  clear hW1
  refine wpIn_rangeFunc_ownH (F := Fence.wide) rfl (by omega) (gf := 68) (lb := #[.pointer (some ⟨W.heap.size + 1, 0, none⟩)]) rfl trivial (enters_of Tryz.func68 (by kernel_rfl) rfl)
    (clive_stops (n - 1) (by omega) (W.heap.size + 1) h ok hr W1 hB0 bE) KpR.t (KpR.b (by omega)) (Below.refl _ _) (fun _ => rfl)
    (fun pre W' => (∃ v, Boxed W' W.heap.size 32 v ∧ W'.ownsRow W.heap.size 34 2 v (wvals pre).length (wcells (wvals pre)) ∧ True) ∧ Below W.heap.size W W')
    (fun c pre W' => False)
    (OwnFrom.and (Own.from (holdsRow_own W.heap.size W.heap.size 32 34 2 (fun pre => (wvals pre).length) (fun pre => wcells (wvals pre)) (fun _ _ => True)) _) (ownFrom_below (Nat.le_refl _) (by omega)))
    (fun _ _ _ _ _ hs _ _ => hs)
    ⟨⟨_, bN, World.ownsRow_nil _ _ _ _, trivial⟩, hB0⟩
    (fun x a' W' => ∃ Bx, W.heap.size < Bx ∧ W'.heap[Bx]? = some (.cells #[.int .i64 x.2.1, .int .i64 x.2.2] 34 (0, 0)) ∧ a' = { tmps := #[.pointer (some ⟨b, 0, none⟩), undef, .slice none 0 0, .pointer (some ⟨W.heap.size, 0, none⟩), undef, .pointer (some ⟨Bx, 0, none⟩), .pointer (some ⟨b, 0, none⟩), .bool false, .pointer (some ⟨b, 0, none⟩), .func (.func 68) #[] #[.pointer (some ⟨W.heap.size + 1, 0, none⟩)], .int .i64 x.1, .agg #[.int .i64 x.2.1, .int .i64 x.2.2], undef, undef, undef, undef, undef], defers := [] })
    (fun x a' _ X Y row hs hg hr => by obtain ⟨Bx, h1, h2, h3⟩ := hs; exact ⟨Bx, h1, (hg.block Bx (lt_of_heap h2) (fun e => by obtain ⟨_, o, ho, hc⟩ := hr Bx e.symm; rw [h2] at ho; cases ho; simp [Obj.isCells] at hc)).trans h2, h3⟩)
    ?assign ?body ?done ?stop
  case assign =>
    rintro l pre x W' K ⟨⟨v, bV, hrow, -⟩, hB1⟩ hK
    unfold wenc
    gi_wp2
    exact hK _ _ ((KeepsOthers.alloc _ _).from _) (KpR.below ((Below.refl _ W').alloc (Nat.le_refl _) _) hB1.size) ⟨⟨v, bV.alloc _, hrow.alloc _, trivial⟩, hB1.alloc hB1.size _⟩ ⟨W'.heap.size, bV.lt, heap_alloc_new W' _, rfl⟩
  case body =>
    have hn2 : 1 ≤ n - 1 - 1 := by omega
    rintro l pre x a' W' hl ⟨r, hr⟩ ⟨⟨v, bV, hrow, -⟩, hB1⟩ ⟨Bx, hBx, bX, rfl⟩ hlt
    have cV := bV.cell
    have cX0 : W'.cell? ⟨Bx, 0, none⟩ = some (.int .i64 x.2.1) := by rw [cell_of_row W' Bx 0 _ _ _ bX]; rfl
    have cX1 : W'.cell? ⟨Bx, 1, none⟩ = some (.int .i64 x.2.2) := by rw [cell_of_row W' Bx 1 _ _ _ bX]; rfl
    have hle : (wvals pre).length < (welL C.S C.L.live).length := by simpa [wvals] using hlt
    gi_wp2_with (gi_at_builtin; refine wpListIn_append_own _ rfl (.tmp 12) (.tmp 14) 32 rfl W.heap.size 34 i0 (.agg #[.int .i64 0, .int .i64 0]) 2 16 Tryz.underlying32 hi hz0 hz1 hz2 rfl (by decide) _ _ _ rfl (hrow.alloc _) ⟨W'.heap.size, 0, none⟩ 1 1 [.int .i64 x.2.1, .int .i64 x.2.2] rfl rfl (two_new _ _ _ _) ?c3 ?c4 ?c5 ?c6 ?_)
    case c3 => intro u hu; simp only [List.mem_cons, List.not_mem_nil, or_false] at hu; obtain rfl | rfl := hu <;> rfl
    case c4 => unfold maxLen; omega
    case c5 => omega
    case c6 => have := hB1.size; simp; omega
    intro v' w1 hown' hgrow hnn
    obtain ⟨hv1, hv2, hr2, hk2, hb2⟩ := bV.appended (by decide) hrow hB1.size (Nat.le_refl _) hown' hgrow
    have HKR : Hid (∀ (k : Nat) cs T z, T ≠ 34 → T ≠ 32 → W'.heap[k]? = some (Obj.cells cs T z) → (w1.setCell ⟨W.heap.size, 0, none⟩ v').heap[k]? = W'.heap[k]?) := by
      intro k cs T z e1 e2 e
      have hk := lt_of_heap e
      have n1 : some k ≠ v.ownBlock := by
        rcases hrow.2 with ⟨rfl, _⟩ | ⟨g, cap, cur, rfl, _, hgb, _⟩
        · simp [Value.ownBlock]
        · intro e'
          obtain rfl : k = g := by simpa [Value.ownBlock] using e'
          rw [hgb] at e
          simp only [Option.some.injEq, Obj.cells.injEq] at e
          exact e1 e.2.1.symm
      have n2 : k ≠ W.heap.size := by
        rintro rfl
        rw [show W'.heap[W.heap.size]? = _ from bV] at e
        simp only [Option.some.injEq, Obj.cells.injEq] at e
        exact e2 e.2.1.symm
      have h1 : (W'.alloc (Obj.cells #[Value.int .i64 x.2.1, Value.int .i64 x.2.2] 34)).heap[k]? = W'.heap[k]? := (World.grownBy_alloc W' _ none).block k hk (by simp)
      have h2 := hgrow.block k (by simp; omega) n1
      have h3 := (grownBy_setCell' w1 W.heap.size v').block k (by have := hgrow.size; simp at this; omega) (by simpa using n2)
      rw [h3, h2, h1]
    obtain ⟨g', cap', rfl⟩ := ownsRow_succ hown'
    have hc1 := hv1.cell
    have hf1 := hv1.frozen
    gi_wp2
    refine ⟨hk2.from _, ⟨hb2, HKR.out⟩, ⟨_, hv2, ?_, trivial⟩, hB1.trans hb2⟩
    have e1 : wvals (pre ++ [x]) = wvals pre ++ [x.2] := by simp [wvals]
    have e2 : wcells (wvals pre ++ [x.2]) = wcells (wvals pre) ++ [.int .i64 x.2.1, .int .i64 x.2.2] := by simp [wcells, wcell]
    rw [e1, e2, List.length_append]
    exact hr2
  case done =>
    rintro D zs W' hD rfl ⟨⟨v, bV, hrow, -⟩, hB1⟩ hK
    have cV := bV.cell
    gi_wp2
    refine ⟨by simp, .inl ⟨_, _, rfl, run_takeDeferred hK, ?_⟩⟩
    have e : wvals (welL C.S C.L.live) = wordsC C := welL_words C
    rw [e] at hrow
    exact ⟨_, results_tmp rfl _ _ _, hB1.trans (belowK_b (w := W) (Nat.le_refl _) W' D _ _ (by omega) hK rfl rfl), v, rfl, ownsRow_putObj hrow _ hK rfl⟩
  case stop =>
    rintro D c pre W' _ _ h _
    exact h.elim
theorem cwords_any {W : World} (h : Sep w (chP b p k sz ca C F) W) (ok : ChOk C) (hr : ∀ r ∈ C.L.live, 0 ≤ r.1 ∧ r.1 ≤ 1000000000000 ∧ 0 ≤ r.2 ∧ r.2 ≤ 1000000000000) (hcnt : (wordsC C).length ≤ 4194304) :
    Calls Tryz.prog 15 #[.pointer (some ⟨b, 0, none⟩)] W fun e w' => ∃ ao c, e = .returned (.slice ao (wordsC C).length c) ∧ Sep w (vrow (.slice ao (wordsC C).length c) (wordsC C) :: chP b p k sz ca C F) w' ∧ Below W.heap.size W w' := by
  have e : (welL C.S C.L.live).length = (wordsC C).length := by rw [← welL_words C, List.length_map]
  refine (callsIn_wide.1 (cwords_in h ok hr (by omega) 10 (by decide))).mono ?_
  rintro e w' ⟨hb, v, rfl, hr⟩
  obtain ⟨ao, c, rfl⟩ := own_shape hr
  exact ⟨ao, c, rfl, h.row hb hr, hb⟩
end
end Go.Proofs.YtpfnnmcokbolhaaGreat
/- What ChainThrift asks: segments, words, cut. -/
namespace Go.Proofs.YtpfnnmcokbolhaaGreat
open Go.RowKit
set_option pp.deepTerms true
theorem Geo.len : ∀ {A : List Af} {l : List (Int × Int)}, Geo A l → 1 ≤ l.length ∧ l.length ≤ max 1 A.length
  | [], l, h => by
    obtain ⟨r, rfl⟩ := h
    simp
  | a :: A, l, h => by
    obtain ⟨rs, rfl, h1, h2⟩ := h
    cases hq : a.f.own with
    | true =>
      obtain ⟨-, hne, hg⟩ := h1 hq
      have := Geo.len hg
      have : 0 < A.length := List.length_pos_iff.2 hne
      simp only [List.length_cons]
      omega
    | false =>
      have := Geo.len (h2 hq).1
      simp only [List.length_cons] at this ⊢
      omega
theorem Rep.live_len {sz ca : Int} {C : Ch} {A : List Af} (h : Rep sz ca C A) : 1 ≤ C.L.live.length ∧ C.L.live.length ≤ max 1 A.length := by
  have := h.geo.len
  simpa using this
theorem Rep.live_ok {sz ca : Int} {C : Ch} {A : List Af} {n : Nat} (h : Rep sz ca C A) (hf : Few n C.S C.L) (hn : n ≤ 300) : ∀ r ∈ C.L.live, 0 ≤ r.1 ∧ r.1 ≤ 1000000000000 ∧ 0 ≤ r.2 ∧ r.2 ≤ 1000000000000 := by
  intro r hr
  have hm : r ∈ tells C.S.regs := h.core.inv.perm.mem_iff.2 (List.mem_append_left _ hr)
  obtain ⟨i, hi, rfl⟩ := List.getElem_of_mem hm
  obtain ⟨q1, q2, q3, -⟩ := tells_at h.core.ok hi
  have := hf.last
  omega
theorem Rep.words_len {sz ca : Int} {C : Ch} {A : List Af} {n : Nat} (h : Rep sz ca C A) (hf : Few n C.S C.L) (hn : n ≤ 300) : (wordsC C).length ≤ 4194304 := by
  have key : ∀ l : List (Int × Int), (∀ r ∈ l, r.2 ≤ 2000) → (l.flatMap (wordsR C.S)).length ≤ 2000 * l.length := by
    intro l
    induction l with
    | nil => simp
    | cons r l ih =>
      intro q
      have h1 := ih (fun x hx => q x (List.mem_cons_of_mem _ hx))
      have h2 := q r List.mem_cons_self
      have h3 : (wordsR C.S r).length = r.2.toNat := by simp [wordsR]
      rw [List.flatMap_cons, List.length_append, h3, List.length_cons]
      omega
  have h1 := key C.L.live (fun r hr => hf.wd r (List.mem_append_left _ hr))
  have h2 := hf.cnt
  unfold wordsC
  omega
theorem Sim.most {sz ca : Int} {n : Nat} {T : Tw} {Z : List (Md × Af)} (h : Sim sz ca n T Z) : (needN T.N : Int) ≤ mostN T.N := by
  unfold needN mostN Tw.N
  rw [h.M]
  simp only [List.map_map]
  have hma := h.ma
  have hea : ∀ z ∈ Z, z.2.Ok := fun z hz => h.rep.core.each z.2 (List.mem_map.2 ⟨z, hz, rfl⟩)
  clear h
  induction Z with
  | nil => simp
  | cons z Z ih =>
    have h1 := ih (fun x hx => hma x (List.mem_cons_of_mem _ hx)) (fun x hx => hea x (List.mem_cons_of_mem _ hx))
    have hm := hma z List.mem_cons_self
    have hk := hea z List.mem_cons_self
    have e1 : z.2.slots.length = z.1.slots.length := by rw [hm.slots, List.length_map]
    have e2 : z.2.ops.length = z.1.ops.length := by rw [hm.ops, List.length_map]
    have e3 := hk.len
    have e4 := hk.high
    simp only [List.map_cons, List.sum_cons, Function.comp] at h1 ⊢
    have e5 : z.1.lay.words = z.2.f.lay.slots.length + z.2.f.lay.height + 1 := by rw [hm.lay]; rfl
    omega
theorem Rep.zero {sz ca : Int} {C : Ch} (h : Rep sz ca C []) : ∀ v ∈ wordsC C, v = (0, 0) := by
  have := h.count
  simp only [List.map_nil, List.sum_nil] at this
  unfold cnt at this
  intro v hv
  have := List.countP_eq_zero.1 this v hv
  simpa using this
end Go.Proofs.YtpfnnmcokbolhaaGreat
/- What ChainThrift asks, as contracts. -/
namespace Go.Proofs.YtpfnnmcokbolhaaGreat
open Go.RowKit
set_option pp.deepTerms true
theorem Rep.goesN {sz ca : Int} {n : Nat} : ∀ {A : List Af} {C : Ch}, Rep sz ca C A → Few n C.S C.L → Rep sz ca (goesN ca C A.length) [] ∧ Few n (goesN ca C A.length).S (goesN ca C A.length).L
  | [], C, h, hs => ⟨h, hs⟩
  | a :: A, C, h, hs => Rep.goesN (A := A) (C := goesC ca C) h.goes (goes_small hs)
theorem Rep.cut0 {sz ca : Int} {n : Nat} {A : List Af} {C : Ch} (h : Rep sz ca C A) (hs : Few n C.S C.L) : (cutC ca C 0).1 = 0 ∧ Rep sz ca (cutC ca C 0).2 [] ∧ Few n (cutC ca C 0).2.S (cutC ca C 0).2.L := by
  have hF : C.F.length = A.length := by rw [h.fs, List.length_map]
  have e : cutC ca C 0 = (0, Go.Proofs.YtpfnnmcokbolhaaGreat.goesN ca C A.length) := by
    unfold cutC
    rw [if_neg (by omega), hF]
    rfl
  rw [e]
  exact ⟨rfl, h.goesN hs⟩
theorem Sim.cut0 {sz ca : Int} {n : Nat} {T : Tw} {Z : List (Md × Af)} (h : Sim sz ca n T Z) : (cutC ca T.C 0).1 = 0 ∧ Sim sz ca n ⟨(cutC ca T.C 0).2, [], [], 0⟩ [] := by
  obtain ⟨h1, h2, h3⟩ := h.rep.cut0 h.few
  exact ⟨h1, rfl, h2, h3, by simp, by simp, by simp, by simp, by simp, by simp, h.b0⟩
section
variable {w W : World} {F : List Asr} {t b p k n : Nat} {sz ca many : Int} {N : Nt} {lv pv : Value} {ml : List Mv} {Q : List (Int × Pf)} {T : Tw} {Z : List (Md × Af)}
theorem segs_G (h : Sep w (twL t b lv pv ml Q many ++ chP b p k sz ca T.C F) W) (hs : Sim sz ca n T Z) (hn : n ≤ 290) :
    Calls Tryz.prog 14 #[.pointer (some ⟨b, 0, none⟩)] W fun e w' => Sep w (twL t b lv pv ml Q many ++ chP b p k sz ca T.C F) w' ∧ ∃ (ao : Option Addr) (nl c : Nat) (ak : Option Addr) (nk ck : Nat), e = .returned (.tuple #[.slice ao nl c, .slice ak nk ck]) ∧ 1 ≤ nl ∧ nl ≤ max 1 T.M.length ∧ (nk : Int) ≤ ca := by
  refine (csegs_any (tw_ch h) (hs.ok (by omega))).mono ?_
  rintro e w' ⟨ao, c, ak, ck, h1, rfl⟩
  have h2 := hs.rep.live_len
  have eM : T.M.length = Z.length := by rw [hs.M, List.length_map]
  rw [List.length_map, ← eM] at h2
  exact ⟨ch_tw (Sep.sub h1 ((List.sublist_cons_self _ _).trans (List.sublist_cons_self _ _))), _, _, _, _, _, _, rfl, h2.1, h2.2, hs.rep.core.inv.few⟩
theorem words_G (h : Sep w (twL t b lv pv ml Q many ++ chP b p k sz ca T.C F) W) (hs : Sim sz ca n T Z) (hn : n ≤ 290) :
    Calls Tryz.prog 15 #[.pointer (some ⟨b, 0, none⟩)] W fun e w' => ∃ ao c, e = .returned (.slice ao (wordsC T.C).length c) ∧ Sep w (twL t b lv pv ml Q many ++ chP b p k sz ca T.C (vrow (.slice ao (wordsC T.C).length c) (wordsC T.C) :: F)) w' := by
  refine (cwords_any (tw_ch h) (hs.ok (by omega)) (hs.rep.live_ok hs.few (by omega)) (hs.rep.words_len hs.few (by omega))).mono ?_
  rintro e w' ⟨ao, c, rfl, h1, -⟩
  refine ⟨ao, c, rfl, ?_⟩
  rw [twch_eq]
  refine h1.perm ?_
  have e : ([chA b p k T.C.F, spA p T.C.S, lkA k p sz ca T.C.L] ++ (twL t b lv pv ml Q many ++ F)).Perm ((twL t b lv pv ml Q many ++ [chA b p k T.C.F, spA p T.C.S, lkA k p sz ca T.C.L]) ++ F) := by
    rw [← List.append_assoc]
    exact List.perm_append_comm.append_right F
  exact (List.Perm.cons _ e).trans List.perm_middle.symm
theorem TwR.segs (h : TwR w W t b p k sz ca n N F) (hn : n ≤ 290) :
    Calls Tryz.prog 14 #[.pointer (some ⟨b, 0, none⟩)] W fun e w' => TwR w w' t b p k sz ca n N F ∧ ∃ (ao : Option Addr) (nl c : Nat) (ak : Option Addr) (nk ck : Nat), e = .returned (.tuple #[.slice ao nl c, .slice ak nk ck]) ∧ 1 ≤ nl ∧ nl ≤ max 1 N.M.length ∧ (nk : Int) ≤ ca := by
  obtain ⟨T, Z, ⟨lv, pv, ml, hM, hS⟩, hs, rfl⟩ := h
  exact (segs_G hS hs hn).mono (fun e w' q => ⟨⟨T, Z, ⟨lv, pv, ml, hM, q.1⟩, hs, rfl⟩, q.2⟩)
theorem TwR.words (h : TwR w W t b p k sz ca n N F) (hn : n ≤ 290) :
    Calls Tryz.prog 15 #[.pointer (some ⟨b, 0, none⟩)] W fun e w' => ∃ (ao : Option Addr) (ws : List (Int × Int)) (c : Nat), e = .returned (.slice ao ws.length c) ∧ TwR w w' t b p k sz ca n N (vrow (.slice ao ws.length c) ws :: F) ∧ ws.length ≤ 4194304 ∧ cnt ws = needN N ∧ (needN N : Int) ≤ mostN N := by
  obtain ⟨T, Z, ⟨lv, pv, ml, hM, hS⟩, hs, rfl⟩ := h
  refine (words_G hS hs hn).mono ?_
  rintro e w' ⟨ao, c, rfl, h1⟩
  exact ⟨ao, _, c, rfl, ⟨T, Z, ⟨lv, pv, ml, hM, h1⟩, hs, rfl⟩, hs.rep.words_len hs.few (by omega), hs.full, hs.most⟩
/-- a twin whose chain was cut down to nothing -/
def CutR (w W : World) (t b p k : Nat) (sz ca : Int) (n : Nat) (F : List Asr) : Prop := ∃ lv pv ml Q many C, Sep w (twL t b lv pv ml Q many ++ chP b p k sz ca C F) W ∧ Sim sz ca n ⟨C, [], [], 0⟩ []
theorem TwR.cut0 (h : TwR w W t b p k sz ca n N F) (hn : n ≤ 290) :
    Calls Tryz.prog 17 #[.pointer (some ⟨b, 0, none⟩), .int .i64 0] W fun e w' => CutR w w' t b p k sz ca n F ∧ e = .returned (.int .i64 0) := by
  obtain ⟨T, Z, ⟨lv, pv, ml, hM, hS⟩, hs, rfl⟩ := h
  obtain ⟨c1, c2⟩ := hs.cut0
  refine (ccut_any (tw_ch hS) (hs.ok (by omega)) 0).mono ?_
  rintro e w' ⟨h1, rfl⟩
  rw [c1]
  exact ⟨⟨lv, pv, ml, T.Q, T.many, _, ch_tw h1, c2⟩, rfl⟩
theorem CutR.sep (h : CutR w W t b p k sz ca n F) : Sep w F W := by
  obtain ⟨lv, pv, ml, Q, many, C, h, -⟩ := h
  rw [twch_eq] at h
  exact Sep.sub h (List.sublist_append_right _ _)
theorem CutR.k0 (h : CutR w W t b p k sz ca n F) : W.cell? ⟨t, 0, none⟩ = some (.pointer (some ⟨b, 0, none⟩)) := by
  obtain ⟨lv, pv, ml, Q, many, C, h, -⟩ := h
  exact (tw_k h).1
theorem CutR.keep {W' : World} (h : CutR w W t b p k sz ca n F) (hb : Below W.heap.size W W') : CutR w W' t b p k sz ca n F := by
  obtain ⟨lv, pv, ml, Q, many, C, h, hs⟩ := h
  exact ⟨lv, pv, ml, Q, many, C, h.keep hb, hs⟩
theorem CutR.segs (h : CutR w W t b p k sz ca n F) (hn : n ≤ 290) :
    Calls Tryz.prog 14 #[.pointer (some ⟨b, 0, none⟩)] W fun e w' => CutR w w' t b p k sz ca n F ∧ ∃ (ao : Option Addr) (c : Nat) (ak : Option Addr) (nk ck : Nat), e = .returned (.tuple #[.slice ao 1 c, .slice ak nk ck]) := by
  obtain ⟨lv, pv, ml, Q, many, C, h, hs⟩ := h
  refine (segs_G (T := ⟨C, [], [], 0⟩) h hs hn).mono ?_
  rintro e w' ⟨h1, ao, nl, c, ak, nk, ck, rfl, q1, q2, -⟩
  obtain rfl : nl = 1 := by simp at q2; omega
  exact ⟨⟨lv, pv, ml, Q, many, C, h1, hs⟩, ao, c, ak, nk, ck, rfl⟩
theorem CutR.words (h : CutR w W t b p k sz ca n F) (hn : n ≤ 290) :
    Calls Tryz.prog 15 #[.pointer (some ⟨b, 0, none⟩)] W fun e w' => ∃ (ao : Option Addr) (ws : List (Int × Int)) (c : Nat), e = .returned (.slice ao ws.length c) ∧ CutR w w' t b p k sz ca n (vrow (.slice ao ws.length c) ws :: F) ∧ ws.length ≤ 4194304 ∧ ∀ v ∈ ws, v = (0, 0) := by
  obtain ⟨lv, pv, ml, Q, many, C, h, hs⟩ := h
  refine (words_G (T := ⟨C, [], [], 0⟩) h hs hn).mono ?_
  rintro e w' ⟨ao, c, rfl, h1⟩
  exact ⟨ao, _, c, rfl, ⟨lv, pv, ml, Q, many, C, h1, hs⟩, hs.rep.words_len hs.few (by omega), hs.rep.zero⟩
/-- the model at an index of the row, from the bottom -/
theorem model_G {G : List Asr} (h : Sep w (twL t b lv pv ml Q many ++ G) W) {q : Nat} (hq : q < ml.length) :
    ∃ x g c, lv = .slice (some ⟨g, 0, none⟩) ml.length c ∧ ml.drop (ml.length - (q + 1)) = x :: ml.drop (ml.length - q) ∧ x ∈ ml ∧
      (W.cell? ⟨g, q * 7, none⟩ = some x.lv ∧ W.cell? ⟨g, q * 7 + 1, none⟩ = some (.int .i64 x.m.lay.args) ∧ W.cell? ⟨g, q * 7 + 2, none⟩ = some (.int .i64 x.m.lay.res) ∧ W.cell? ⟨g, q * 7 + 3, none⟩ = some (.int .i64 x.m.lay.height) ∧
        W.cell? ⟨g, q * 7 + 4, none⟩ = some x.sv ∧ W.cell? ⟨g, q * 7 + 5, none⟩ = some x.ov ∧ W.cell? ⟨g, q * 7 + 6, none⟩ = some (.int .i64 x.m.which)) ∧
      Rdi W x.lv x.m.lay.slots ∧ (∃ sa sc, x.sv = .slice sa x.m.slots.length sc) ∧ ∃ oa oc, x.ov = .slice oa x.m.ops.length oc := by
  obtain ⟨j, hj⟩ : ∃ j, ml.length - (q + 1) = j := ⟨_, rfl⟩
  have hjl : j < ml.length := by omega
  have e1 : ml.drop j = ml[j] :: ml.drop (j + 1) := List.drop_eq_getElem_cons hjl
  have e2 : ml = ml.take j ++ ml[j] :: ml.drop (j + 1) := by rw [← e1, List.take_append_drop]
  obtain ⟨x, hx⟩ : ∃ x, ml[j] = x := ⟨_, rfl⟩
  rw [hx] at e1 e2
  obtain ⟨pre, hpre⟩ : ∃ l, ml.take j = l := ⟨_, rfl⟩
  obtain ⟨post, hpost⟩ : ∃ l, ml.drop (j + 1) = l := ⟨_, rfl⟩
  rw [hpre, hpost] at e2
  have hpl : post.length = q := by rw [← hpost, List.length_drop]; omega
  rw [e2] at h
  obtain ⟨g, c, e, -, h1, -⟩ := tw_at h
  obtain ⟨r1, r2, r3⟩ := tw_rd h
  rw [hpl] at h1
  obtain ⟨sa, sc, es⟩ := r2.shape
  obtain ⟨oa, oc, eo⟩ := r3.shape
  refine ⟨x, g, c, by rw [e, ← e2], ?_, by rw [e2]; simp, ⟨h1 0 _ rfl, h1 1 _ rfl, h1 2 _ rfl, h1 3 _ rfl, h1 4 _ rfl, h1 5 _ rfl, h1 6 _ rfl⟩, r1, ⟨_, _, es⟩, ⟨_, _, eo⟩⟩
  rw [hj, e1, show ml.length - q = j + 1 by omega]
end
def mostL (l : List Mv) : Int := (l.map fun x => x.m.lay.words).sum
def needL (l : List Mv) : Nat := (l.map fun x => x.m.slots.length + 1 + x.m.ops.length).sum
theorem mostL_cons (x : Mv) (l : List Mv) : mostL (x :: l) = mostL l + x.m.lay.words := by unfold mostL; rw [List.map_cons, List.sum_cons]; omega
theorem needL_cons (x : Mv) (l : List Mv) : needL (x :: l) = needL l + (x.m.slots.length + 1 + x.m.ops.length) := by unfold needL; rw [List.map_cons, List.sum_cons]; omega
theorem mostL_N {T : Tw} {ml : List Mv} (h : ml.map (·.m) = T.M) : mostL ml = mostN T.N := by
  unfold mostL mostN Tw.N
  rw [← h, List.map_map]
  rfl
theorem needL_N {T : Tw} {ml : List Mv} (h : ml.map (·.m) = T.M) : needL ml = needN T.N := by
  unfold needL needN Tw.N
  rw [← h, List.map_map]
  rfl
theorem sums_le {ml : List Mv} (h : ∀ x ∈ ml, layOk x.m.lay = true ∧ x.m.slots.length ≤ 64 ∧ x.m.ops.length ≤ 64) : 0 ≤ mostL ml ∧ mostL ml ≤ 200 * ml.length ∧ needL ml ≤ 200 * ml.length := by
  induction ml with
  | nil => simp [mostL, needL]
  | cons x l ih =>
    obtain ⟨i1, i2, i3⟩ := ih (fun y hy => h y (List.mem_cons_of_mem _ hy))
    obtain ⟨q1, q2, q3⟩ := h x List.mem_cons_self
    obtain ⟨-, r1, -, -, -, -, r2, r3⟩ := (layOk_iff _).1 q1
    rw [mostL_cons, needL_cons]
    unfold Lay.words
    simp only [List.length_cons]
    omega
end Go.Proofs.YtpfnnmcokbolhaaGreat
/- The chapter's examples hold: the walk. -/
namespace Go.Proofs.YtpfnnmcokbolhaaGreat
open Go.RowKit
set_option pp.deepTerms true
attribute [local go_sem ↓] Go.wp_at_zero Go.wp_at_succ
set_option maxRecDepth 100000 in
set_option maxHeartbeats 4000000 in
theorem alive25_any (W : World) : Calls Tryz.prog 5 #[] W fun e w' => Below W.heap.size W w' ∧ e = .returned (.bool true) := by
  have h0 := (Sep.nil (Below.refl W.heap.size W)).space
  have HN := Hid.mk (cnew_ok h0 (show segOk 256 1 = true by decide))
  clear h0
  go_enter Tryz.func5, Tryz.ntmps5
  go_wp2_with fail
  refine HN.out.mono ?_
  rintro e w1 ⟨b, k, h1, rfl⟩
  have H1 := Hid.mk (some_sep h1)
  clear HN h1
  go_wp2_with fail
  refine H1.out.mono ?_
  rintro e w2 ⟨v, h2, rfl⟩
  have H2 := Hid.mk h2
  clear H1 h2
  go_wp2_with fail
  refine (num_any 5 _).mono ?_
  rintro e w3 ⟨hb3, rfl⟩
  have h3 := (H2.out.keep hb3).alloc (.cells #[.int .i64 1, .int .i64 5] 34)
  have HF := Hid.mk (al_first h3)
  clear H2 hb3 h3
  go_wp2_with fail
  refine HF.out.mono ?_
  rintro e w4 ⟨h4, rfl⟩
  have HL := cload_any h4 (chOk_of al_ok1) (by decide +kernel) 0
  rw [al_load0] at HL
  have HL := Hid.mk HL
  clear HF h4
  go_wp2_with fail
  refine HL.out.mono ?_
  rintro e w5 ⟨h5, -, rfl⟩
  have h5 := h5.alloc (.cells #[.int .i64 1, .int .i64 5] 34)
  obtain ⟨B4, hB4⟩ : ∃ B4, w5.heap.size = B4 := ⟨_, rfl⟩
  rw [hB4] at h5
  have HL := cload_any (chP_in h5) (chOk_of al_ok1) (by decide +kernel) 1
  rw [al_load1] at HL
  have HL := Hid.mk HL
  clear h5
  go_wp2_with fail
  refine HL.out.mono ?_
  rintro e w6 ⟨h6, -, rfl⟩
  have h6 := h6.alloc (.cells #[.int .i64 1, .int .i64 0] 34)
  obtain ⟨B6, hB6⟩ : ∃ B6, w6.heap.size = B6 := ⟨_, rfl⟩
  rw [hB6] at h6
  have h6 := chP_in h6
  have HP := cplace_any h6 (chOk_of al_ok1) (fun f hf => by
    have := al_linkB
    rw [List.all_eq_true] at this
    simpa [rangeB] using this f hf)
  rw [al_place] at HP
  have HP := Hid.mk HP
  clear h6 HL
  go_wp2_with fail
  refine HP.out.mono ?_
  rintro e w7 ⟨h7, -, rfl⟩
  have hcells : ∀ W', Sep W (chP b W.heap.size k 256 1 aR [bx B6 (.cells #[.int .i64 1, .int .i64 0] 34), bx B4 (.cells #[.int .i64 1, .int .i64 5] 34)]) W' → W'.cell? ⟨B4, 0, none⟩ = some (.int .i64 1) ∧ W'.cell? ⟨B4, 1, none⟩ = some (.int .i64 5) ∧ W'.cell? ⟨B6, 0, none⟩ = some (.int .i64 1) ∧ W'.cell? ⟨B6, 1, none⟩ = some (.int .i64 0) := fun W' q => by
    have B1 := q.at (b := B4) (o := (.cells #[.int .i64 1, .int .i64 5] 34)) (by simp [chP])
    have B2 := q.at (b := B6) (o := (.cells #[.int .i64 1, .int .i64 0] 34)) (by simp [chP])
    exact ⟨by rw [cell_of_row _ _ 0 _ _ _ B1]; rfl, by rw [cell_of_row _ _ 1 _ _ _ B1]; rfl, by rw [cell_of_row _ _ 0 _ _ _ B2]; rfl, by rw [cell_of_row _ _ 1 _ _ _ B2]; rfl⟩
  have d0 := hcells _ h7
  have H7 := Hid.mk h7
  clear HP h7 hcells
  go_wp2_with fail
  go_region_held3 (fun X => X.cell? ⟨B4, 0, none⟩ = some (.int .i64 1) ∧ X.cell? ⟨B4, 1, none⟩ = some (.int .i64 5) ∧ X.cell? ⟨B6, 0, none⟩ = some (.int .i64 1) ∧ X.cell? ⟨B6, 1, none⟩ = some (.int .i64 0)) (first | exact s2 | exact s1 | exact d0) (first | (go_at_call 21; refine (num_any 5 w7.drew).mono ?_; rintro e w8 ⟨hb8, rfl⟩; have s1 := And.intro (keep_dr hb8 d0.1) (And.intro (keep_dr hb8 d0.2.1) (And.intro (keep_dr hb8 d0.2.2.1) (keep_dr hb8 d0.2.2.2)))) | (go_at_call 21; refine (num_any 0 _).mono ?_; rintro e w9 ⟨hb9, rfl⟩; have s2 := And.intro (keep_be hb9 s1.1) (And.intro (keep_be hb9 s1.2.1) (And.intro (keep_be hb9 s1.2.2.1) (keep_be hb9 s1.2.2.2)))))
  have H : Hid (Sep W (chP b W.heap.size k 256 1 aR []) w9) := Sep.lose 3 (Sep.lose 3 ((H7.out.keep (undrew hb8)).keep hb9))
  clear H7 hb8 hb9 s1 s2 d0
  go_wp2_with fail
  refine wp_loop_rounds 4 ?_
  rw [rounds_succ]
  go_wp2_with fail
  refine (num_any 7 _).mono ?_
  rintro e wa ⟨hba, rfl⟩
  have HPu := Hid.mk (al_push (H.out.keep hba) (chOk_of al_ok1) al_ep1)
  clear H hba
  go_wp2_with fail
  refine HPu.out.mono ?_
  rintro e wb ⟨hb', rfl⟩
  have HS := Hid.mk (some_sep hb')
  clear HPu hb'
  go_wp2_with fail
  refine HS.out.mono ?_
  rintro e wc ⟨v, hc, rfl⟩
  have HC := Hid.mk (al_call hc (chOk_of al_p1.2.2.1) al_ec1)
  clear HS hc
  go_wp2_with fail
  refine HC.out.mono ?_
  rintro e wd ⟨hd, rfl⟩
  have H := Hid.mk hd
  clear HC hd
  go_wp2_with fail
  rw [rounds_succ]
  go_wp2_with fail
  refine (num_any 7 _).mono ?_
  rintro e wa ⟨hba, rfl⟩
  have HPu := Hid.mk (al_push (H.out.keep hba) (chOk_of al_p1.2.2.2) al_ep2)
  clear H hba
  go_wp2_with fail
  refine HPu.out.mono ?_
  rintro e wb ⟨hb', rfl⟩
  have HS := Hid.mk (some_sep hb')
  clear HPu hb'
  go_wp2_with fail
  refine HS.out.mono ?_
  rintro e wc ⟨v, hc, rfl⟩
  have HC := Hid.mk (al_call hc (chOk_of al_p2.2.2.1) al_ec2)
  clear HS hc
  go_wp2_with fail
  refine HC.out.mono ?_
  rintro e wd ⟨hd, rfl⟩
  have H := Hid.mk hd
  clear HC hd
  go_wp2_with fail
  rw [rounds_succ]
  go_wp2_with fail
  refine (num_any 7 _).mono ?_
  rintro e wa ⟨hba, rfl⟩
  have HPu := Hid.mk (al_push (H.out.keep hba) (chOk_of al_p2.2.2.2) al_ep3)
  clear H hba
  go_wp2_with fail
  refine HPu.out.mono ?_
  rintro e wb ⟨hb', rfl⟩
  have HS := Hid.mk (some_sep hb')
  clear HPu hb'
  go_wp2_with fail
  refine HS.out.mono ?_
  rintro e wc ⟨v, hc, rfl⟩
  have HC := Hid.mk (al_call hc (chOk_of al_p3.2.2.1) al_ec3)
  clear HS hc
  go_wp2_with fail
  refine HC.out.mono ?_
  rintro e wd ⟨hd, rfl⟩
  have H := Hid.mk hd
  clear HC hd
  go_wp2_with fail
  rw [rounds_succ]
  have HG := csegs_any H.out (chOk_of al_p3.2.2.2)
  rw [al_lens.1, al_lens.2.1] at HG
  have HG := Hid.mk HG
  clear H
  go_wp2_with fail
  refine HG.out.mono ?_
  rintro e w10 ⟨ao, c, ak, ck, h10, rfl⟩
  have H10 := Hid.mk (h10.tl.tl)
  clear HG h10
  go_wp2_with fail
  refine (num_any 8 _).mono ?_
  rintro e w11 ⟨hb11, rfl⟩
  have HS := cstore_any (H10.out.keep hb11) (chOk_of al_p3.2.2.2) al_lens.2.2 1 (1, 8)
  rw [al_es] at HS
  have HS := Hid.mk HS
  clear H10 hb11
  go_wp2_with fail
  refine HS.out.mono ?_
  rintro e w12 ⟨h12, rfl⟩
  have HT := cret_any h12 (chOk_of al_store.2.1)
  rw [al_et] at HT
  have HT := Hid.mk HT
  clear HS h12
  go_wp2_with fail
  refine HT.out.mono ?_
  rintro e w13 ⟨h13, rfl⟩
  have HO := cpop_any h13 (chOk_of al_ret.2.1)
  rw [al_eo] at HO
  have HO := Hid.mk HO
  clear HT h13
  go_wp2_with fail
  refine HO.out.mono ?_
  rintro e w14 ⟨h14, rfl⟩
  have h14 := chP_in (h14.alloc (.cells #[.int .i64 1, .int .i64 8] 34))
  obtain ⟨B7, hB7⟩ : ∃ B7, w14.heap.size = B7 := ⟨_, rfl⟩
  rw [hB7] at h14
  have HG := csegs_any h14 (chOk_of al_store.2.2)
  rw [al_ret.2.2.2.1, al_ret.2.2.2.2.1] at HG
  have HG := Hid.mk HG
  clear HO h14
  go_wp2_with fail
  refine HG.out.mono ?_
  rintro e w15 ⟨ao2, c2, ak2, ck2, h15, rfl⟩
  have h15 := h15.tl.tl
  have HD := fun W' (q : Below w15.heap.size w15 W') => cdepth_any (h15.keep q)
  rw [al_ret.2.2.2.2.2] at HD
  have HD := Hid.mk HD
  have B1 := h15.at (b := B7) (o := (.cells #[.int .i64 1, .int .i64 8] 34)) (by simp [chP])
  have d0 : w15.cell? ⟨B7, 0, none⟩ = some (.int .i64 1) ∧ w15.cell? ⟨B7, 1, none⟩ = some (.int .i64 8) := ⟨by rw [cell_of_row _ _ 0 _ _ _ B1]; rfl, by rw [cell_of_row _ _ 1 _ _ _ B1]; rfl⟩
  have HB := Hid.mk h15.size
  clear HG h15 B1
  go_wp2_with fail
  go_region_held3 (fun X => X.cell? ⟨B7, 0, none⟩ = some (.int .i64 1) ∧ X.cell? ⟨B7, 1, none⟩ = some (.int .i64 8)) (first | exact s1 | exact d0) (first | (go_at_call 21; refine (num_any 8 w15.drew).mono ?_; rintro e w16 ⟨hb16, rfl⟩; have s1 := And.intro (keep_dr hb16 d0.1) (keep_dr hb16 d0.2)) | (go_at_call 10; refine (HD.out _ (undrew hb16)).mono ?_; rintro e w17 ⟨rfl, rfl⟩))
  have HE := Hid.mk (HB.out.trans ((undrew hb16).mono HB.out.size))
  clear HB hb16 HD s1 d0
  go_wp2_with fail
  go_ret
  exact ⟨HE.out, rfl⟩
end Go.Proofs.YtpfnnmcokbolhaaGreat
