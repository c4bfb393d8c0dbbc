/- Parts Uu Uv Va Vb Ye Vc, put together. -/
import Derived.Test.YtpfnnmcokbolhaaMc3
import Derived.Test.YtpfnnmcokbolhaaMc8
import Derived.Test.YtpfnnmcokbolhaaMc16
import Derived.Test.YtpfnnmcokbolhaaMc23
import Derived.Deep.Slices
import Derived.OpenShut
import Derived.ProofKit
import Derived.LoopTactic
import Derived.Deep.QuietTactic
import Derived.BigQuiet
/- The twin's do. -/
namespace Go.Proofs.Ytpfnnmcokbolhaa
open Go.RowKit
set_option pp.deepTerms true
section
variable {w W : World} {F G : List Asr} {t b p k g c : Nat} {sz ca many : Int} {C : Ch} {lv pv : Value} {ml l : List Mv} {x : Mv} {Q : List (Int × Pf)} {A : Asr} {T : Tw} {Z : List (Md × Af)} {n : Nat} {o : Op25} {sv av : Value} {last : Bool} {B0 : Nat}
set_option maxRecDepth 100000 in
set_option maxHeartbeats 4000000 in
theorem tdo_any {n' : Nat} (h : Sep w (twL t b lv pv ml Q many ++ chP b p k sz ca C F) W) (hs : Sim sz ca n ⟨C, ml.map (·.m), Q, many⟩ Z) (hn : n ≤ 280) (hn' : (if ml ≠ [] ∧ (o.kind = 3 ∨ o.kind = 6) then n else n + 1) ≤ n') (hsl : ∀ W', Sep w F W' → Rdi W' sv o.l.slots) (hcap : SlOk sv) (hlen : o.l.slots.length ≤ 100) :
    Calls Try.prog 8 #[.pointer (some ⟨t, 0, none⟩), (.agg #[.int .i64 o.kind, .int .i64 o.n, sv, .int .i64 o.l.args, .int .i64 o.l.res, .int .i64 o.l.height, av, .int .i64 o.v.1, .int .i64 o.v.2, .bool last])] W fun e w' => TwR w w' t b p k sz ca n' (stepN (Tw.N ⟨C, ml.map (·.m), Q, many⟩) o) F ∧ e = .returned (.bool true) := by
  obtain ⟨N', hN⟩ : ∃ N', stepN (Tw.N ⟨C, ml.map (·.m), Q, many⟩) o = N' := ⟨_, rfl⟩
  rw [hN]
  obtain ⟨⟨ao, c1, rfl⟩, -⟩ := tw_shapes h
  have h1 := tw_more h (.cells #[.int .i64 o.kind, .int .i64 o.n, sv, .int .i64 o.l.args, .int .i64 o.l.res, .int .i64 o.l.height, av, .int .i64 o.v.1, .int .i64 o.v.2, .bool last] 36)
  obtain ⟨B0, hB0⟩ : ∃ B, W.heap.size = B := ⟨_, rfl⟩
  obtain ⟨X0, hX0⟩ : ∃ X, X = W.alloc (.cells #[.int .i64 o.kind, .int .i64 o.n, sv, .int .i64 o.l.args, .int .i64 o.l.res, .int .i64 o.l.height, av, .int .i64 o.v.1, .int .i64 o.v.2, .bool last] 36) := ⟨_, rfl⟩
  rw [hB0, ← hX0] at h1
  obtain ⟨-, k1, -, -, -⟩ := tw_k h1
  cases ml with
  | nil =>
    simp only [List.length_nil] at k1
    have H1 := Hid.mk h1
    have HX0 := Hid.mk hX0
    have HB0 := Hid.mk hB0
    clear h h1 hX0 hB0
    go_enter Try.func8, Try.ntmps8
    go_upto_region 1 with (fail)
    rw [← HX0.out, HB0.out]
    go_upto_if 26 with (fail)
    refine wp_cond_true rfl ?_
    exact tdo_nil H1 hs hn (by simpa using hn') hN hsl hcap hlen
  | cons x l =>
    obtain ⟨g, c, e, hc, -⟩ := tw_top h1
    simp only [Value.slice.injEq] at e
    obtain ⟨rfl, -, rfl⟩ := e
    obtain ⟨d0, -, -, -, -, -, d7, d8⟩ := ten_cells h1 (q := B0) (tw_mem (List.Mem.head _))
    obtain ⟨lm, hlm⟩ : ∃ lm, l.length = lm := ⟨_, rfl⟩
    rw [List.length_cons, hlm] at k1
    rw [hlm] at hc
    have hll : lm ≤ 280 := by
      have := hs.len.1
      simp at this
      omega
    have w2 : IntKind.i64.wrap ((lm : Int) + 1 - 1) = (lm : Int) := by rw [IntKind.wrap_i64]; omega
    have w3 : IntKind.i64.wrap (lm : Int) = (lm : Int) := by rw [IntKind.wrap_i64]; omega
    have hk3 : lm < lm + 1 := by omega
    have hk4 : (lm : Int) < (lm : Int) + 1 := by omega
    have zz : ((lm : Int) + 1 == 0) = false := by simp; omega
    have HLM := Hid.mk hlm
    have HW : Hid (∀ {N1 N2 : Nat} {v1 v2 : Int}, o.val = (v1, v2) → True) := fun _ => trivial
    have h2 : Sep w (twL t b (.slice (some ⟨g, 0, none⟩) (l.length + 1 : Nat) c1) pv (x :: l) Q many ++ chP b p k sz ca C (bx X0.heap.size (.cells #[.int .i64 o.v.1, .int .i64 o.v.2] 34) :: bx B0 (.cells #[.int .i64 o.kind, .int .i64 o.n, sv, .int .i64 o.l.args, .int .i64 o.l.res, .int .i64 o.l.height, av, .int .i64 o.v.1, .int .i64 o.v.2, .bool last] 36) :: F)) (X0.alloc (.cells #[.int .i64 o.v.1, .int .i64 o.v.2] 34)) := tw_more h1 _
    have h3 : Sep w (twL t b (.slice (some ⟨g, 0, none⟩) (l.length + 1 : Nat) c1) pv (x :: l) Q many ++ chP b p k sz ca C (bx X0.heap.size (.cells #[.int .i64 o.v.1, .int .i64 0] 34) :: bx B0 (.cells #[.int .i64 o.kind, .int .i64 o.n, sv, .int .i64 o.l.args, .int .i64 o.l.res, .int .i64 o.l.height, av, .int .i64 o.v.1, .int .i64 o.v.2, .bool last] 36) :: F)) (X0.alloc (.cells #[.int .i64 o.v.1, .int .i64 0] 34)) := tw_more h1 _
    have e0 := alloc_cell (o := .cells #[.int .i64 o.v.1, .int .i64 0] 34) d0
    have e1 := alloc_cell (o := .cells #[.int .i64 o.v.1, .int .i64 o.v.2] 34) d0
    have H2 := Hid.mk h2
    have H3 := Hid.mk h3
    have HX0 := Hid.mk hX0
    have HB0 := Hid.mk hB0
    have HNN := Hid.mk hN
    have HSIM := Hid.mk hs
    have HSL := Hid.mk hsl
    have HCAP := Hid.mk hcap
    clear h h1 hlm h2 h3 hX0 hB0 hN hs hsl hcap
    by_cases hv : o.v.1 = 4
    · have z4 : (o.v.1 == 4) = true := by simpa using hv
      have HV : Hid (o.val = (o.v.1, 0)) := by unfold Hid Op25.val; rw [if_pos hv, hv]
      clear hv
      go_enter Try.func8, Try.ntmps8
      go_upto_region 1 with (fail)
      rw [← HX0.out, HB0.out]
      go_upto_block 2 with (fail)
      refine tdo_switch (B10 := X0.heap.size) (v1 := o.v.1) (v2 := 0) H3 HSIM.out hn (by simpa using hn') HLM.out HV.out HNN.out ?_ HSL.out HCAP.out hlen rfl
      refine Hid.mk (fun tm W' hsz hR => ?_)
      apply_assumption
      have HR := Hid.mk hR
      clear hR d0 d7 d8 e0 e1 k1 H2 H3
      go_wp2_with fail
      refine bodyPost_ret (v := .bool true) (by simp [results, Try.results8, go_sem, hsz]) rfl ⟨HR.out, rfl⟩
    · have z4 : (o.v.1 == 4) = false := by simpa using hv
      have HV : Hid (o.val = (o.v.1, o.v.2)) := by unfold Hid Op25.val; rw [if_neg hv]
      clear hv
      go_enter Try.func8, Try.ntmps8
      go_upto_region 1 with (fail)
      rw [← HX0.out, HB0.out]
      go_upto_block 2 with (fail)
      refine tdo_switch (B10 := X0.heap.size) (v1 := o.v.1) (v2 := o.v.2) H2 HSIM.out hn (by simpa using hn') HLM.out HV.out HNN.out ?_ HSL.out HCAP.out hlen rfl
      refine Hid.mk (fun tm W' hsz hR => ?_)
      apply_assumption
      have HR := Hid.mk hR
      clear hR d0 d7 d8 e0 e1 k1 H2 H3
      go_wp2_with fail
      refine bodyPost_ret (v := .bool true) (by simp [results, Try.results8, go_sem, hsz]) rfl ⟨HR.out, rfl⟩
end
end Go.Proofs.Ytpfnnmcokbolhaa
/- The laws' calls of chapter 25: a slice of structs with slices in them, as it comes in. -/
namespace Go.Proofs.Ytpfnnmcokbolhaa
open Go.ChangeShapes Go.WideShapes Go.RowKit Go.Deep
theorem Try.cells36 : Try.prog.cellsOf 36 = 10 := by kernel_rfl
theorem Try.cells31 : Try.prog.cellsOf 31 = 4 := by kernel_rfl
theorem Try.cells29 : Try.prog.cellsOf 29 = 1 := by kernel_rfl
theorem Try.cells32 : Try.prog.cellsOf 32 = 1 := by kernel_rfl
theorem Try.cells4 : Try.prog.cellsOf 4 = 1 := by kernel_rfl
/-- one call, with its slices -/
structure OpV where
  o : Op25
  sv : Value
  av : Value
  an : Nat
  last : Bool
instance : Inhabited OpV := ⟨⟨⟨0, 0, ⟨[], 0, 0, 0⟩, (0, 0)⟩, .slice none 0 0, .slice none 0 0, 0, false⟩⟩
def OpVOk (w : World) (x : OpV) : Prop := Rdi w x.sv x.o.l.slots ∧ SlOk x.sv ∧ ∃ aa ac, x.av = .slice aa x.an ac
def OpVAt (w : World) (b o : Nat) (x : OpV) : Prop :=
  w.cell? ⟨b, o, none⟩ = some (.int .i64 x.o.kind) ∧ w.cell? ⟨b, o + 1, none⟩ = some (.int .i64 x.o.n) ∧ w.cell? ⟨b, o + 2, none⟩ = some x.sv ∧
    w.cell? ⟨b, o + 3, none⟩ = some (.int .i64 x.o.l.args) ∧ w.cell? ⟨b, o + 4, none⟩ = some (.int .i64 x.o.l.res) ∧ w.cell? ⟨b, o + 5, none⟩ = some (.int .i64 x.o.l.height) ∧
    w.cell? ⟨b, o + 6, none⟩ = some x.av ∧ w.cell? ⟨b, o + 7, none⟩ = some (.int .i64 x.o.v.1) ∧ w.cell? ⟨b, o + 8, none⟩ = some (.int .i64 x.o.v.2) ∧ w.cell? ⟨b, o + 9, none⟩ = some (.bool x.last)
/-- a slice of calls reads as os -/
def Ops25 (w : World) (v : Value) (os : List OpV) : Prop :=
  (∃ ao c, v = .slice ao os.length c) ∧ os.length ≤ maxLen ∧ (∀ x ∈ os, OpVOk w x) ∧ (0 < os.length → ∃ b o c, v = .slice (some ⟨b, o, none⟩) os.length c ∧ b < w.heap.size ∧
    ∀ i (hi : i < os.length), OpVAt w b (o + i * 10) os[i])
theorem OpVAt.below {w w' : World} {b o : Nat} {x : OpV} (h : OpVAt w b o x) (k : Below w.heap.size w w') (hb : b < w.heap.size) : OpVAt w' b o x := by
  obtain ⟨h0, h1, h2, h3, h4, h5, h6, h7, h8, h9⟩ := h
  exact ⟨(k.cell (p := ⟨b, _, none⟩) hb).trans h0, (k.cell (p := ⟨b, _, none⟩) hb).trans h1, (k.cell (p := ⟨b, _, none⟩) hb).trans h2, (k.cell (p := ⟨b, _, none⟩) hb).trans h3, (k.cell (p := ⟨b, _, none⟩) hb).trans h4, (k.cell (p := ⟨b, _, none⟩) hb).trans h5, (k.cell (p := ⟨b, _, none⟩) hb).trans h6, (k.cell (p := ⟨b, _, none⟩) hb).trans h7, (k.cell (p := ⟨b, _, none⟩) hb).trans h8, (k.cell (p := ⟨b, _, none⟩) hb).trans h9⟩
theorem OpVOk.below {w w' : World} {x : OpV} (h : OpVOk w x) (k : Below w.heap.size w w') : OpVOk w' x := ⟨h.1.below k, h.2⟩
theorem Ops25.below {w w' : World} {v : Value} {os : List OpV} (h : Ops25 w v os) (k : Below w.heap.size w w') : Ops25 w' v os := by
  obtain ⟨h1, h0, h2, h3⟩ := h
  refine ⟨h1, h0, fun x hx => (h2 x hx).below k, fun hp => ?_⟩
  obtain ⟨b, o, c, e, hb, hc⟩ := h3 hp
  exact ⟨b, o, c, e, Nat.lt_of_lt_of_le hb k.size, fun i hi => (hc i hi).below k hb⟩
set_option maxRecDepth 100000 in
theorem open_ints {H : Type} {enc : TypeId × Value → H} {w : World} {base fuel : Nat} {spare : Nat → Bool} {held : Bool} {v : Value} {x : DataW H × List MemPlace}
    (h : DataW.trod enc Try.prog w base spare held fuel 29 [v] = some x) : ∃ ls, Rdi w v ls ∧ SlOk v := by
  rcases open_slice1 Try.underlying29 Try.cells3 h with ⟨hcs, _⟩ | ⟨a, len, cap, m, n, V, D, Pl, hcs, hb, hl, hm, hmm, _, hx⟩
  · simp only [List.cons.injEq, and_true] at hcs
    subst hcs
    refine ⟨[], .inl ⟨rfl, rfl⟩, fun ao n c e => ?_⟩
    simp only [Value.slice.injEq] at e
    omega
  · simp only [List.cons.injEq, and_true] at hcs
    subst hcs
    have hsl : SlOk (.slice (some a) len cap) := fun ao n c e => by
      simp only [Value.slice.injEq] at e
      omega
    have hlm : len ≤ m := by rw [hmm]; split <;> omega
    rcases Nat.eq_zero_or_pos len with h0 | h0
    · subst h0
      exact ⟨[], .inr (.inr ⟨a, cap, rfl, rfl⟩), hsl⟩
    · obtain ⟨ab, ao, sq⟩ := a
      have hs : sq = none := by
        have c := (hx 0 (by omega)).1
        have := World.cell?_spot c
        simpa [Addr.add] using this
      subst hs
      have each : ∀ i, i < len → ∃ y : Int, w.cell? ⟨ab, ao + i, none⟩ = some (.int .i64 y) := by
        intro i hi
        obtain ⟨c, ht⟩ := hx i (by omega)
        obtain ⟨k, e0, -, -⟩ := DataW.trod_int Try.underlying3 ht
        simp only [List.cons.injEq, and_true] at e0
        rw [e0, add_plain] at c
        exact ⟨k, c⟩
      obtain ⟨f, hf⟩ := choose_lt each
      refine ⟨(List.range len).map f, .inr (.inl ⟨ab, ao, cap, by simp, cell_lt (hf 0 h0), fun i hi => ?_⟩), hsl⟩
      have := hf i (by simpa using hi)
      simpa using this
set_option maxRecDepth 100000 in
theorem open_op25 {H : Type} {enc : TypeId × Value → H} {w : World} {base fuel : Nat} {spare : Nat → Bool} {held : Bool} {cs : List Value} {x : DataW H × List MemPlace}
    (h : DataW.trod enc Try.prog w base spare held fuel 36 cs = some x) (hl : cs.length = 10) :
    ∃ y : OpV, OpVOk w y ∧ cs = [.int .i64 y.o.kind, .int .i64 y.o.n, y.sv, .int .i64 y.o.l.args, .int .i64 y.o.l.res, .int .i64 y.o.l.height, y.av, .int .i64 y.o.v.1, .int .i64 y.o.v.2, .bool y.last] := by
  obtain ⟨xs, n, _, _, _, hlen, hf⟩ := DataW.trod_struct Try.underlying36 h
  match cs, hl with
  | [v0, v1, v2, v3, v4, v5, v6, v7, v8, v9], _ =>
  match xs, hlen with
  | [y0, y1, y2, y3, y4, y5], _ =>
  have f0 : DataW.trod enc Try.prog w base spare held n 3 (([v0, v1, v2, v3, v4, v5, v6, v7, v8, v9].drop 0).take (Try.prog.cellsOf 3)) = some y0 := hf 0 _ rfl
  have f1 : DataW.trod enc Try.prog w base spare held n 3 (([v0, v1, v2, v3, v4, v5, v6, v7, v8, v9].drop 1).take (Try.prog.cellsOf 3)) = some y1 := hf 1 _ rfl
  have f2 : DataW.trod enc Try.prog w base spare held n 31 (([v0, v1, v2, v3, v4, v5, v6, v7, v8, v9].drop 2).take (Try.prog.cellsOf 31)) = some y2 := hf 2 _ rfl
  have f3 : DataW.trod enc Try.prog w base spare held n 32 (([v0, v1, v2, v3, v4, v5, v6, v7, v8, v9].drop 6).take (Try.prog.cellsOf 32)) = some y3 := hf 3 _ rfl
  have f4 : DataW.trod enc Try.prog w base spare held n 34 (([v0, v1, v2, v3, v4, v5, v6, v7, v8, v9].drop 7).take (Try.prog.cellsOf 34)) = some y4 := hf 4 _ rfl
  have f5 : DataW.trod enc Try.prog w base spare held n 4 (([v0, v1, v2, v3, v4, v5, v6, v7, v8, v9].drop 9).take (Try.prog.cellsOf 4)) = some y5 := hf 5 _ rfl
  rw [Try.cells3] at f0 f1
  rw [Try.cells31] at f2
  rw [Try.cells32] at f3
  rw [Try.cells34] at f4
  rw [Try.cells4] at f5
  simp only [List.drop, List.take] at f0 f1 f2 f3 f4 f5
  obtain ⟨k, e0, _, b0⟩ := DataW.trod_int Try.underlying3 f0
  obtain ⟨m, e1, _, b1⟩ := DataW.trod_int Try.underlying3 f1
  obtain ⟨bl, e9, -⟩ := DataW.trod_bool Try.underlying4 f5
  obtain ⟨zs, n', _, _, _, hlen', hf'⟩ := DataW.trod_struct Try.underlying34 f4
  match zs, hlen' with
  | [z0, z1], _ =>
  have g0 : DataW.trod enc Try.prog w base spare held n' 3 (([v7, v8].drop 0).take (Try.prog.cellsOf 3)) = some z0 := hf' 0 _ rfl
  have g1 : DataW.trod enc Try.prog w base spare held n' 2 (([v7, v8].drop 1).take (Try.prog.cellsOf 2)) = some z1 := hf' 1 _ rfl
  rw [Try.cells3] at g0
  rw [Try.cells2] at g1
  simp only [List.drop, List.take] at g0 g1
  obtain ⟨t, e7, _, b4⟩ := DataW.trod_int Try.underlying3 g0
  obtain ⟨v, e8, _, b5⟩ := DataW.trod_int Try.underlying2 g1
  obtain ⟨us, n2, _, _, _, hlen2, hf2⟩ := DataW.trod_struct Try.underlying31 f2
  match us, hlen2 with
  | [t0, t1, t2, t3], _ =>
  have k0 : DataW.trod enc Try.prog w base spare held n2 29 (([v2, v3, v4, v5].drop 0).take (Try.prog.cellsOf 29)) = some t0 := hf2 0 _ rfl
  have k1 : DataW.trod enc Try.prog w base spare held n2 3 (([v2, v3, v4, v5].drop 1).take (Try.prog.cellsOf 3)) = some t1 := hf2 1 _ rfl
  have k2 : DataW.trod enc Try.prog w base spare held n2 3 (([v2, v3, v4, v5].drop 2).take (Try.prog.cellsOf 3)) = some t2 := hf2 2 _ rfl
  have k3 : DataW.trod enc Try.prog w base spare held n2 3 (([v2, v3, v4, v5].drop 3).take (Try.prog.cellsOf 3)) = some t3 := hf2 3 _ rfl
  rw [Try.cells29] at k0
  rw [Try.cells3] at k1 k2 k3
  simp only [List.drop, List.take] at k0 k1 k2 k3
  obtain ⟨la, e3, _, b3⟩ := DataW.trod_int Try.underlying3 k1
  obtain ⟨lr, e4, _, b4⟩ := DataW.trod_int Try.underlying3 k2
  obtain ⟨lh, e5, _, b5⟩ := DataW.trod_int Try.underlying3 k3
  obtain ⟨ls, hls, hsl⟩ := open_ints k0
  have hav : ∃ aa an ac, v6 = .slice aa an ac := by
    rcases open_slice Try.underlying32 f3 with ⟨hcs, _⟩ | ⟨a, len, cap, _, _, _, _, hcs, _⟩
    · simp only [List.cons.injEq, and_true] at hcs
      exact ⟨_, _, _, hcs⟩
    · simp only [List.cons.injEq, and_true] at hcs
      exact ⟨_, _, _, hcs⟩
  obtain ⟨aa, an, ac, rfl⟩ := hav
  simp only [List.cons.injEq, and_true] at e0 e1 e3 e4 e5 e7 e8 e9
  subst e0 e1 e3 e4 e5 e7 e8 e9
  exact ⟨⟨⟨k, m, ⟨ls, la, lr, lh⟩, (t, v)⟩, v2, .slice aa an ac, an, bl⟩, ⟨hls, hsl, aa, ac, rfl⟩, rfl⟩
set_option maxRecDepth 100000 in
theorem open_ops25 {H : Type} {enc : TypeId × Value → H} {w : World} {base : Nat} {spare : Nat → Bool} {held : Bool} {v : Value} {d : DataW H} {ps : List MemPlace} {r : Reach} {b0 : Nat}
    (hval : Value.okWide Try.prog w r b0 24 v) (h : DataW.Trod enc Try.prog w base spare held 24 v d ps) : ∃ os, Ops25 w v os := by
  obtain ⟨a0, l0, c0, rfl⟩ := okWide_slice Try.underlying24 hval
  obtain ⟨fuel, h⟩ := h
  rcases open_slice Try.underlying24 h with ⟨hcs, _⟩ | ⟨a, len, cap, m, n, D, Pl, hcs, hb, hl, hm, hmm, _, hx⟩
  · simp [Value.cells] at hcs
    obtain ⟨rfl, rfl, rfl⟩ := hcs
    exact ⟨[], ⟨none, 0, rfl⟩, by simp, by simp, by simp⟩
  · simp [Value.cells] at hcs
    obtain ⟨rfl, rfl, rfl⟩ := hcs
    have hlm : l0 ≤ m := by rw [hmm]; split <;> omega
    rcases Nat.eq_zero_or_pos l0 with h0 | h0
    · subst h0
      exact ⟨[], ⟨_, _, rfl⟩, by simp, by simp, by simp⟩
    obtain ⟨ab, ao, sq⟩ := a
    have hs : sq = none := by
      obtain ⟨cs, h1, h2⟩ := hx 0 (by omega)
      rw [Try.cells36] at h1
      obtain ⟨_, hlen, hcell⟩ := World.cells?_some h1
      obtain ⟨y, hy, rfl⟩ := open_op25 h2 hlen
      have c := hcell 0 (by omega)
      have := World.cell?_spot c
      simpa [Addr.add] using this
    subst hs
    have each : ∀ i, i < l0 → ∃ y : OpV, OpVOk w y ∧ OpVAt w ab (ao + i * 10) y := by
      intro i hi
      obtain ⟨cs, h1, h2⟩ := hx i (by omega)
      rw [Try.cells36] at h1
      obtain ⟨_, hlen, hcell⟩ := World.cells?_some h1
      obtain ⟨y, hy, rfl⟩ := open_op25 h2 hlen
      have c0 := hcell 0 (by omega)
      have c1 := hcell 1 (by omega)
      have c2 := hcell 2 (by omega)
      have c3 := hcell 3 (by omega)
      have c4 := hcell 4 (by omega)
      have c5 := hcell 5 (by omega)
      have c6 := hcell 6 (by omega)
      have c7 := hcell 7 (by omega)
      have c8 := hcell 8 (by omega)
      have c9 := hcell 9 (by omega)
      rw [add_add, add_plain] at c0 c1 c2 c3 c4 c5 c6 c7 c8 c9
      exact ⟨y, hy, by simpa using c0, by simpa [Nat.add_assoc] using c1, by simpa [Nat.add_assoc] using c2, by simpa [Nat.add_assoc] using c3, by simpa [Nat.add_assoc] using c4, by simpa [Nat.add_assoc] using c5, by simpa [Nat.add_assoc] using c6, by simpa [Nat.add_assoc] using c7, by simpa [Nat.add_assoc] using c8, by simpa [Nat.add_assoc] using c9⟩
    obtain ⟨f, hf⟩ := choose_lt each
    refine ⟨(List.range l0).map f, ⟨some ⟨ab, ao, none⟩, c0, by simp⟩, by simp; omega, ?_, fun hp => ?_⟩
    · intro x hx
      obtain ⟨i, hi, rfl⟩ := List.mem_map.1 hx
      exact (hf i (List.mem_range.1 hi)).1
    · refine ⟨ab, ao, c0, by simp, cell_lt (hf 0 h0).2.1, fun i hi => ?_⟩
      have := (hf i (by simpa using hi)).2
      simpa using this
end Go.Proofs.Ytpfnnmcokbolhaa
/- Great, and the twin's making. -/
namespace Go.Proofs.Ytpfnnmcokbolhaa
open Go.RowKit
set_option pp.deepTerms true
def Small25 (s : Int) (os : List OpV) : Prop := os.length ≤ 80 ∧ ¬ (2000 < s ∧ s ≤ 65536) ∧ ∀ x ∈ os, x.o.l.slots.length ≤ 100
set_option maxRecDepth 100000 in
set_option maxHeartbeats 1000000 in
theorem great25_any {w : World} {v : Value} {os : List OpV} (h : Ops25 w v os) (s c : Int) : Calls Try.prog 7 #[.agg #[.int .i64 s, .int .i64 c], v] w fun e w' => Below w.heap.size w w' ∧ (e = .returned (.int .i64 1) ∨ e = .returned (.int .i64 0) ∧ Small25 s os) := by
  obtain ⟨⟨ao, cv, rfl⟩, hml, hok, hc⟩ := h
  have hmx : os.length ≤ 9223372036854775807 := by unfold maxLen at hml; omega
  clear hml
  obtain ⟨n, hn⟩ : ∃ n, os.length = n := ⟨_, rfl⟩
  have HN := Hid.mk hn
  have HC : Hid (∀ i (hi : i < os.length), ∃ b o, ao = some ⟨b, o, none⟩ ∧ b < w.heap.size ∧ OpVAt w b (o + i * 10) os[i] ∧ OpVOk w os[i]) := by
    intro i hi
    obtain ⟨b, o, c', e, hb, ha⟩ := hc (by omega)
    simp only [Value.slice.injEq] at e
    exact ⟨b, o, e.1, hb, ha i hi, hok _ (List.getElem_mem hi)⟩
  clear hc hok
  rw [hn] at hmx ⊢
  clear hn
  have hB : Below w.heap.size w (w.alloc (.cells #[.int .i64 s, .int .i64 c] 23)) := (Below.refl _ _).alloc (Nat.le_refl _) _
  have HB := Hid.mk hB
  clear hB
  by_cases h80 : 80 < n
  · have z0 : decide ((n : Int) > 80) = true := by simp; omega
    go_enter Try.func7, Try.ntmps7
    go_wp2_with fail
    go_ret
    exact ⟨HB.out, .inl rfl⟩
  · have z0 : decide ((n : Int) > 80) = false := by simp; omega
    by_cases hs1 : 2000 < s ∧ s ≤ 65536
    · have z1 : decide (s > 2000) = true := by simpa using hs1.1
      have z2 : decide (s ≤ 65536) = true := by simpa using hs1.2
      clear hs1
      go_enter Try.func7, Try.ntmps7
      go_wp2_with fail
      go_ret
      exact ⟨HB.out, .inl rfl⟩
    · have HS1 := Hid.mk hs1
      by_cases hs2 : 2000 < s
      · have z1 : decide (s > 2000) = true := by simpa using hs2
        have z2 : decide (s ≤ 65536) = false := by simp; omega
        clear hs1 hs2
        go_enter Try.func7, Try.ntmps7
        go_wp2_with fail
        go_loopw [21] (fun i wr => ∃ k : Nat, i = .int .i64 k ∧ k ≤ n ∧ Hid (∀ j (h1 : j < os.length), j < k → os[j].o.l.slots.length ≤ 100) ∧ Hid (Below w.heap.size w wr)) (fun i _ => n - (intOf i).toNat)
        case atStart => exact ⟨0, rfl, by omega, fun _ _ q => absurd q (by omega), HB⟩
        case round =>
          obtain ⟨k, rfl, hk, HBD, HW⟩ := hrel
          by_cases hlt : k < n
          · have h1 : k < os.length := by rw [HN.out]; exact hlt
            obtain ⟨b, o, rfl, hbl, ha, hv⟩ := HC.out k h1
            obtain ⟨-, -, a2, -, -, -, a6, -⟩ := ha
            obtain ⟨sa, sc, hsv⟩ := hv.1.shape
            obtain ⟨-, -, aa, ac, hav⟩ := hv
            have c2 := (HW.out.cell (p := ⟨b, o + k * 10 + 2, none⟩) hbl).trans a2
            have c6 := (HW.out.cell (p := ⟨b, o + k * 10 + 6, none⟩) hbl).trans a6
            rw [hsv] at c2
            rw [hav] at c6
            obtain ⟨sn, hsn⟩ : ∃ sn, os[k].o.l.slots.length = sn := ⟨_, rfl⟩
            obtain ⟨an, han⟩ : ∃ an, os[k].an = an := ⟨_, rfl⟩
            rw [hsn] at c2
            rw [han] at c6
            have HSN := Hid.mk (Exists.intro h1 hsn : ∃ h1 : k < os.length, os[k].o.l.slots.length = sn)
            have hlt' : (k : Int) < (n : Int) := by omega
            clear a2 a6 hsv hav hsn han hbl h1 HC
            by_cases q1 : 100 < sn
            · have z5 : decide ((sn : Int) > 100) = true := by simp; omega
              go_wp2_with fail
              go_ret
              exact ⟨HW.out, .inl rfl⟩
            · have z5 : decide ((sn : Int) > 100) = false := by simp; omega
              by_cases q2 : 100 < an
              · have z6 : decide ((an : Int) > 100) = true := by simp; omega
                go_wp2_with fail
                go_ret
                exact ⟨HW.out, .inl rfl⟩
              · have z6 : decide ((an : Int) > 100) = false := by simp; omega
                have HBD' : Hid (∀ j (h1 : j < os.length), j < k + 1 → os[j].o.l.slots.length ≤ 100) := by
                  intro j h1 hj
                  rcases Nat.lt_or_ge j k with q | q
                  · exact HBD.out j h1 q
                  · obtain rfl : j = k := by omega
                    obtain ⟨h9, e⟩ := HSN.out
                    rw [e]
                    omega
                go_wp2_with fail
                exact ⟨⟨k + 1, by go_num, by omega, HBD', HW⟩, by simp [intOf]; omega⟩
          · obtain rfl : k = n := by omega
            have HS : Hid (Small25 s os) := by
              refine ⟨by rw [HN.out]; omega, HS1.out, fun x hx => ?_⟩
              obtain ⟨j, hj, rfl⟩ := List.mem_iff_getElem.1 hx
              exact HBD.out j hj (by rw [HN.out] at hj; exact hj)
            clear HBD HC
            go_wp2_with fail
            go_ret
            exact ⟨HW.out, .inr ⟨rfl, HS.out⟩⟩
      · have z1 : decide (s > 2000) = false := by simp; omega
        clear hs1 hs2
        go_enter Try.func7, Try.ntmps7
        go_wp2_with fail
        go_loopw [21] (fun i wr => ∃ k : Nat, i = .int .i64 k ∧ k ≤ n ∧ Hid (∀ j (h1 : j < os.length), j < k → os[j].o.l.slots.length ≤ 100) ∧ Hid (Below w.heap.size w wr)) (fun i _ => n - (intOf i).toNat)
        case atStart => exact ⟨0, rfl, by omega, fun _ _ q => absurd q (by omega), HB⟩
        case round =>
          obtain ⟨k, rfl, hk, HBD, HW⟩ := hrel
          by_cases hlt : k < n
          · have h1 : k < os.length := by rw [HN.out]; exact hlt
            obtain ⟨b, o, rfl, hbl, ha, hv⟩ := HC.out k h1
            obtain ⟨-, -, a2, -, -, -, a6, -⟩ := ha
            obtain ⟨sa, sc, hsv⟩ := hv.1.shape
            obtain ⟨-, -, aa, ac, hav⟩ := hv
            have c2 := (HW.out.cell (p := ⟨b, o + k * 10 + 2, none⟩) hbl).trans a2
            have c6 := (HW.out.cell (p := ⟨b, o + k * 10 + 6, none⟩) hbl).trans a6
            rw [hsv] at c2
            rw [hav] at c6
            obtain ⟨sn, hsn⟩ : ∃ sn, os[k].o.l.slots.length = sn := ⟨_, rfl⟩
            obtain ⟨an, han⟩ : ∃ an, os[k].an = an := ⟨_, rfl⟩
            rw [hsn] at c2
            rw [han] at c6
            have HSN := Hid.mk (Exists.intro h1 hsn : ∃ h1 : k < os.length, os[k].o.l.slots.length = sn)
            have hlt' : (k : Int) < (n : Int) := by omega
            clear a2 a6 hsv hav hsn han hbl h1 HC
            by_cases q1 : 100 < sn
            · have z5 : decide ((sn : Int) > 100) = true := by simp; omega
              go_wp2_with fail
              go_ret
              exact ⟨HW.out, .inl rfl⟩
            · have z5 : decide ((sn : Int) > 100) = false := by simp; omega
              by_cases q2 : 100 < an
              · have z6 : decide ((an : Int) > 100) = true := by simp; omega
                go_wp2_with fail
                go_ret
                exact ⟨HW.out, .inl rfl⟩
              · have z6 : decide ((an : Int) > 100) = false := by simp; omega
                have HBD' : Hid (∀ j (h1 : j < os.length), j < k + 1 → os[j].o.l.slots.length ≤ 100) := by
                  intro j h1 hj
                  rcases Nat.lt_or_ge j k with q | q
                  · exact HBD.out j h1 q
                  · obtain rfl : j = k := by omega
                    obtain ⟨h9, e⟩ := HSN.out
                    rw [e]
                    omega
                go_wp2_with fail
                exact ⟨⟨k + 1, by go_num, by omega, HBD', HW⟩, by simp [intOf]; omega⟩
          · obtain rfl : k = n := by omega
            have HS : Hid (Small25 s os) := by
              refine ⟨by rw [HN.out]; omega, HS1.out, fun x hx => ?_⟩
              obtain ⟨j, hj, rfl⟩ := List.mem_iff_getElem.1 hx
              exact HBD.out j hj (by rw [HN.out] at hj; exact hj)
            clear HBD HC
            go_wp2_with fail
            go_ret
            exact ⟨HW.out, .inr ⟨rfl, HS.out⟩⟩
section
variable {w W : World} {F : List Asr} {t b p k : Nat} {sz ca : Int} {C : Ch}
theorem Sep.row0 (h : Sep w F W) (T : TypeId) (n : Nat) : Sep w (rw_ 0 T n (.slice none 0 0) 0 [] :: F) W :=
  Sep.rerow (Sep.row h (Below.refl W.heap.size W) (World.ownsRow_nil W W.heap.size T n)) (by intro b q; exact q) (World.ownsRow_nil W 0 T n)
theorem tw_new (h : Sep w (chP b p k sz ca C F) W) : Sep w (twL W.heap.size b (.slice none 0 0) (.slice none 0 0) [] [] 0 ++ chP b p k sz ca C F) (W.alloc (.cells #[.pointer (some ⟨b, 0, none⟩), .slice none 0 0, .slice none 0 0, .int .i64 0] 42)) := by
  have h1 := Sep.row0 (Sep.row0 (h.alloc (.cells #[.pointer (some ⟨b, 0, none⟩), .slice none 0 0, .slice none 0 0, .int .i64 0] 42)) 44 7) 114 5
  exact h1.perm (((List.Perm.swap _ _ _).trans (List.Perm.cons _ (List.Perm.swap _ _ _))).trans (List.Perm.swap _ _ _))
set_option maxRecDepth 100000 in
set_option maxHeartbeats 1000000 in
theorem twins_any (h : Sep w F W) (s c : Int) : Calls Try.prog 6 #[.agg #[.int .i64 s, .int .i64 c]] W fun e w' => (segOk s c = true ∧ ∃ t b p k, Sep w (twL t b (.slice none 0 0) (.slice none 0 0) [] [] 0 ++ chP b p k s c (newC s).2 F) w' ∧ e = .returned (.pointer (some ⟨t, 0, none⟩))) ∨ (segOk s c = false ∧ Sep w F w' ∧ e = .returned (.pointer none)) := by
  have h0 := (h.alloc (.cells #[.int .i64 s, .int .i64 c] 23)).space
  simp only [World.size_alloc] at h0
  cases hs : segOk s c
  · have HN := Hid.mk (cnew_bad (p := W.heap.size + 1) h0 hs)
    clear h0 h hs
    go_enter Try.func6, Try.ntmps6
    go_wp2_with fail
    refine HN.out.mono ?_
    rintro e w1 ⟨h1, rfl⟩
    have H1 := Hid.mk (Sep.lose 0 (Sep.lose 0 h1))
    clear HN h1
    go_wp2_with fail
    go_ret
    exact .inr ⟨by trivial, H1.out, rfl⟩
  · have HN := Hid.mk (cnew_ok h0 hs)
    clear h0 h hs
    go_enter Try.func6, Try.ntmps6
    go_wp2_with fail
    refine HN.out.mono ?_
    rintro e w1 ⟨b, k, h1, rfl⟩
    have H1 := Hid.mk (tw_new (Sep.lose 3 h1))
    clear HN h1
    go_wp2_with fail
    go_ret
    exact .inl ⟨by trivial, _, _, _, _, H1.out, rfl⟩
end
end Go.Proofs.Ytpfnnmcokbolhaa
/- The twin, as it is carried: do, alike, lengths. -/
namespace Go.Proofs.Ytpfnnmcokbolhaa
open Go.RowKit
set_option pp.deepTerms true
section
variable {w W : World} {F G : List Asr} {t b p k g c : Nat} {sz ca many : Int} {C : Ch} {lv pv : Value} {ml l : List Mv} {x : Mv} {Q : List (Int × Pf)} {A : Asr} {T : Tw} {Z : List (Md × Af)} {n : Nat} {o : Op25} {sv av : Value} {last : Bool} {B0 : Nat}
variable {N : Nt} {n' : Nat}
theorem talike_any (h : Sep w (twL t b lv pv ml Q many ++ chP b p k sz ca C F) W) (hs : Sim sz ca n ⟨C, ml.map (·.m), Q, many⟩ Z) (hn : n ≤ 290) :
    Calls Try.prog 9 #[.pointer (some ⟨t, 0, none⟩)] W fun e w' => Sep w (twL t b lv pv ml Q many ++ chP b p k sz ca C F) w' ∧ e = .returned (.bool true) := by
  cases ml with
  | nil => exact talike_nil h hs hn
  | cons x l => exact talike_cons h hs hn
theorem TwR.do_ (h : TwR w W t b p k sz ca n N F) (hn : n ≤ 280) (hn' : (if N.M ≠ [] ∧ (o.kind = 3 ∨ o.kind = 6) then n else n + 1) ≤ n') (hsl : ∀ W', Sep w F W' → Rdi W' sv o.l.slots) (hcap : SlOk sv) (hlen : o.l.slots.length ≤ 100) :
    Calls Try.prog 8 #[.pointer (some ⟨t, 0, none⟩), (.agg #[.int .i64 o.kind, .int .i64 o.n, sv, .int .i64 o.l.args, .int .i64 o.l.res, .int .i64 o.l.height, av, .int .i64 o.v.1, .int .i64 o.v.2, .bool last])] W fun e w' => TwR w w' t b p k sz ca n' (stepN N o) F ∧ e = .returned (.bool true) := by
  obtain ⟨⟨C, M, Q, many⟩, Z, ⟨lv, pv, ml, hM, hS⟩, hs, rfl⟩ := h
  simp only at hM hS
  subst hM
  exact tdo_any hS hs hn (by simpa [Tw.N] using hn') hsl hcap hlen
theorem TwR.alike (h : TwR w W t b p k sz ca n N F) (hn : n ≤ 290) :
    Calls Try.prog 9 #[.pointer (some ⟨t, 0, none⟩)] W fun e w' => TwR w w' t b p k sz ca n N F ∧ e = .returned (.bool true) := by
  obtain ⟨⟨C, M, Q, many⟩, Z, ⟨lv, pv, ml, hM, hS⟩, hs, rfl⟩ := h
  simp only at hM hS
  subst hM
  refine (talike_any hS hs hn).mono ?_
  rintro e w' ⟨h1, rfl⟩
  exact ⟨⟨_, _, ⟨_, _, _, rfl, h1⟩, hs, rfl⟩, rfl⟩
theorem TwR.more (h : TwR w W t b p k sz ca n N F) (o : Obj) : TwR w (W.alloc o) t b p k sz ca n N (bx W.heap.size o :: F) := by
  obtain ⟨T, Z, ⟨lv, pv, ml, hM, hS⟩, hs, hN⟩ := h
  exact ⟨T, Z, ⟨lv, pv, ml, hM, tw_more hS o⟩, hs, hN⟩
theorem TwR.keep {W' : World} (h : TwR w W t b p k sz ca n N F) (hb : Below W.heap.size W W') : TwR w W' t b p k sz ca n N F := by
  obtain ⟨T, Z, ⟨lv, pv, ml, hM, hS⟩, hs, hN⟩ := h
  exact ⟨T, Z, ⟨lv, pv, ml, hM, hS.keep hb⟩, hs, hN⟩
theorem TwR.sep (h : TwR w W t b p k sz ca n N F) : Sep w F W := by
  obtain ⟨T, Z, ⟨lv, pv, ml, hM, hS⟩, hs, hN⟩ := h
  rw [twch_eq] at hS
  exact Sep.sub hS (List.sublist_append_right _ _)
theorem TwR.len (h : TwR w W t b p k sz ca n N F) : (∃ ao c, W.cell? ⟨t, 1, none⟩ = some (.slice ao N.M.length c)) ∧ N.M.length ≤ n := by
  obtain ⟨T, Z, ⟨lv, pv, ml, hM, hS⟩, hs, rfl⟩ := h
  obtain ⟨⟨ao, c, rfl⟩, -⟩ := tw_shapes hS
  obtain ⟨-, k1, -, -, -⟩ := tw_k hS
  have e : ml.length = T.N.M.length := by show _ = T.M.length; rw [← hM, List.length_map]
  rw [e] at k1
  exact ⟨⟨_, _, k1⟩, hs.len.1⟩
theorem TwR.top {f : Md} {M : List Md} (h : TwR w W t b p k sz ca n N F) (hn : n ≤ 300) (hM : N.M = f :: M) : (∃ g c oa oc, W.cell? ⟨t, 1, none⟩ = some (.slice (some ⟨g, 0, none⟩) (M.length + 1 : Nat) c) ∧ W.cell? ⟨g, M.length * 7 + 5, none⟩ = some (.slice oa f.ops.length oc)) ∧ f.ops.length ≤ 64 := by
  obtain ⟨⟨C, M', Q, many⟩, Z, ⟨lv, pv, ml, hM', hS⟩, hs, rfl⟩ := h
  simp only at hM' hS
  subst hM'
  cases ml with
  | nil => cases hM
  | cons x l =>
    simp only [Tw.N, List.map_cons, List.cons.injEq] at hM
    obtain ⟨rfl, rfl⟩ := hM
    obtain ⟨g, c, rfl, hc, -, -, -, -, -, k5, -, -⟩ := tw_top hS
    obtain ⟨oa, oc, hov, -, -⟩ := tw_ovShape hS
    rw [hov] at k5
    obtain ⟨-, k1, -, -, -⟩ := tw_k hS
    rw [List.length_map]
    exact ⟨⟨g, c, oa, oc, k1, k5⟩, (hs.md (m := x.m) (by simp)).2.2.2.2⟩
theorem TwR.depth (h : TwR w W t b p k sz ca n N F) : W.cell? ⟨t, 0, none⟩ = some (.pointer (some ⟨b, 0, none⟩)) ∧ Calls Try.prog 10 #[.pointer (some ⟨b, 0, none⟩)] W fun e w' => w' = W ∧ e = .returned (.int .i64 N.M.length) := by
  obtain ⟨T, Z, ⟨lv, pv, ml, hM, hS⟩, hs, rfl⟩ := h
  refine ⟨(tw_k hS).1, ?_⟩
  exact cdepth_G hS hs.len.2
theorem TwR.new {s c : Int} (h : Sep w (twL t b (.slice none 0 0) (.slice none 0 0) [] [] 0 ++ chP b p k s c (newC s).2 F) W) (hs : segOk s c = true) (hsz : s ≤ 2000) : TwR w W t b p k s c 0 ⟨[], [], 0⟩ F := ⟨⟨(newC s).2, [], [], 0⟩, [], ⟨_, _, [], rfl, h⟩, Sim.new hs hsz, rfl⟩
end
end Go.Proofs.Ytpfnnmcokbolhaa
/- The chapter's examples hold: the walk. -/
namespace Go.Proofs.Ytpfnnmcokbolhaa
open Go.RowKit
set_option pp.deepTerms true
attribute [local go_sem ↓] Go.wp_at_zero Go.wp_at_succ
set_option maxRecDepth 100000 in
set_option maxHeartbeats 4000000 in
theorem alive25_any (W : World) : Calls Try.prog 5 #[] W fun e w' => Below W.heap.size W w' ∧ e = .returned (.bool true) := by
  have h0 := (Sep.nil (Below.refl W.heap.size W)).space
  have HN := Hid.mk (cnew_ok h0 (show segOk 256 1 = true by decide))
  clear h0
  go_enter Try.func5, Try.ntmps5
  go_wp2_with fail
  refine HN.out.mono ?_
  rintro e w1 ⟨b, k, h1, rfl⟩
  have H1 := Hid.mk (some_sep h1)
  clear HN h1
  go_wp2_with fail
  refine H1.out.mono ?_
  rintro e w2 ⟨v, h2, rfl⟩
  have H2 := Hid.mk h2
  clear H1 h2
  go_wp2_with fail
  refine (num_any 5 _).mono ?_
  rintro e w3 ⟨hb3, rfl⟩
  have h3 := (H2.out.keep hb3).alloc (.cells #[.int .i64 1, .int .i64 5] 34)
  have HF := Hid.mk (al_first h3)
  clear H2 hb3 h3
  go_wp2_with fail
  refine HF.out.mono ?_
  rintro e w4 ⟨h4, rfl⟩
  have HL := cload_any h4 (chOk_of al_ok1) (by decide +kernel) 0
  rw [al_load0] at HL
  have HL := Hid.mk HL
  clear HF h4
  go_wp2_with fail
  refine HL.out.mono ?_
  rintro e w5 ⟨h5, -, rfl⟩
  have h5 := h5.alloc (.cells #[.int .i64 1, .int .i64 5] 34)
  obtain ⟨B4, hB4⟩ : ∃ B4, w5.heap.size = B4 := ⟨_, rfl⟩
  rw [hB4] at h5
  have HL := cload_any (chP_in h5) (chOk_of al_ok1) (by decide +kernel) 1
  rw [al_load1] at HL
  have HL := Hid.mk HL
  clear h5
  go_wp2_with fail
  refine HL.out.mono ?_
  rintro e w6 ⟨h6, -, rfl⟩
  have h6 := h6.alloc (.cells #[.int .i64 1, .int .i64 0] 34)
  obtain ⟨B6, hB6⟩ : ∃ B6, w6.heap.size = B6 := ⟨_, rfl⟩
  rw [hB6] at h6
  have h6 := chP_in h6
  have HP := cplace_any h6 (chOk_of al_ok1) (fun f hf => by
    have := al_linkB
    rw [List.all_eq_true] at this
    simpa [rangeB] using this f hf)
  rw [al_place] at HP
  have HP := Hid.mk HP
  clear h6 HL
  go_wp2_with fail
  refine HP.out.mono ?_
  rintro e w7 ⟨h7, -, rfl⟩
  have hcells : ∀ W', Sep W (chP b W.heap.size k 256 1 aR [bx B6 (.cells #[.int .i64 1, .int .i64 0] 34), bx B4 (.cells #[.int .i64 1, .int .i64 5] 34)]) W' → W'.cell? ⟨B4, 0, none⟩ = some (.int .i64 1) ∧ W'.cell? ⟨B4, 1, none⟩ = some (.int .i64 5) ∧ W'.cell? ⟨B6, 0, none⟩ = some (.int .i64 1) ∧ W'.cell? ⟨B6, 1, none⟩ = some (.int .i64 0) := fun W' q => by
    have B1 := q.at (b := B4) (o := (.cells #[.int .i64 1, .int .i64 5] 34)) (by simp [chP])
    have B2 := q.at (b := B6) (o := (.cells #[.int .i64 1, .int .i64 0] 34)) (by simp [chP])
    exact ⟨by rw [cell_of_row _ _ 0 _ _ _ B1]; rfl, by rw [cell_of_row _ _ 1 _ _ _ B1]; rfl, by rw [cell_of_row _ _ 0 _ _ _ B2]; rfl, by rw [cell_of_row _ _ 1 _ _ _ B2]; rfl⟩
  have d0 := hcells _ h7
  have H7 := Hid.mk h7
  clear HP h7 hcells
  go_wp2_with fail
  go_region_held3 (fun X => X.cell? ⟨B4, 0, none⟩ = some (.int .i64 1) ∧ X.cell? ⟨B4, 1, none⟩ = some (.int .i64 5) ∧ X.cell? ⟨B6, 0, none⟩ = some (.int .i64 1) ∧ X.cell? ⟨B6, 1, none⟩ = some (.int .i64 0)) (first | exact s2 | exact s1 | exact d0) (first | (go_at_call 15; refine (num_any 5 w7.drew).mono ?_; rintro e w8 ⟨hb8, rfl⟩; have s1 := And.intro (keep_dr hb8 d0.1) (And.intro (keep_dr hb8 d0.2.1) (And.intro (keep_dr hb8 d0.2.2.1) (keep_dr hb8 d0.2.2.2)))) | (go_at_call 15; refine (num_any 0 _).mono ?_; rintro e w9 ⟨hb9, rfl⟩; have s2 := And.intro (keep_be hb9 s1.1) (And.intro (keep_be hb9 s1.2.1) (And.intro (keep_be hb9 s1.2.2.1) (keep_be hb9 s1.2.2.2)))))
  have H : Hid (Sep W (chP b W.heap.size k 256 1 aR []) w9) := Sep.lose 3 (Sep.lose 3 ((H7.out.keep (undrew hb8)).keep hb9))
  clear H7 hb8 hb9 s1 s2 d0
  go_wp2_with fail
  refine wp_loop_rounds 4 ?_
  rw [rounds_succ]
  go_wp2_with fail
  refine (num_any 7 _).mono ?_
  rintro e wa ⟨hba, rfl⟩
  have HPu := Hid.mk (al_push (H.out.keep hba) (chOk_of al_ok1) al_ep1)
  clear H hba
  go_wp2_with fail
  refine HPu.out.mono ?_
  rintro e wb ⟨hb', rfl⟩
  have HS := Hid.mk (some_sep hb')
  clear HPu hb'
  go_wp2_with fail
  refine HS.out.mono ?_
  rintro e wc ⟨v, hc, rfl⟩
  have HC := Hid.mk (al_call hc (chOk_of al_p1.2.2.1) al_ec1)
  clear HS hc
  go_wp2_with fail
  refine HC.out.mono ?_
  rintro e wd ⟨hd, rfl⟩
  have H := Hid.mk hd
  clear HC hd
  go_wp2_with fail
  rw [rounds_succ]
  go_wp2_with fail
  refine (num_any 7 _).mono ?_
  rintro e wa ⟨hba, rfl⟩
  have HPu := Hid.mk (al_push (H.out.keep hba) (chOk_of al_p1.2.2.2) al_ep2)
  clear H hba
  go_wp2_with fail
  refine HPu.out.mono ?_
  rintro e wb ⟨hb', rfl⟩
  have HS := Hid.mk (some_sep hb')
  clear HPu hb'
  go_wp2_with fail
  refine HS.out.mono ?_
  rintro e wc ⟨v, hc, rfl⟩
  have HC := Hid.mk (al_call hc (chOk_of al_p2.2.2.1) al_ec2)
  clear HS hc
  go_wp2_with fail
  refine HC.out.mono ?_
  rintro e wd ⟨hd, rfl⟩
  have H := Hid.mk hd
  clear HC hd
  go_wp2_with fail
  rw [rounds_succ]
  go_wp2_with fail
  refine (num_any 7 _).mono ?_
  rintro e wa ⟨hba, rfl⟩
  have HPu := Hid.mk (al_push (H.out.keep hba) (chOk_of al_p2.2.2.2) al_ep3)
  clear H hba
  go_wp2_with fail
  refine HPu.out.mono ?_
  rintro e wb ⟨hb', rfl⟩
  have HS := Hid.mk (some_sep hb')
  clear HPu hb'
  go_wp2_with fail
  refine HS.out.mono ?_
  rintro e wc ⟨v, hc, rfl⟩
  have HC := Hid.mk (al_call hc (chOk_of al_p3.2.2.1) al_ec3)
  clear HS hc
  go_wp2_with fail
  refine HC.out.mono ?_
  rintro e wd ⟨hd, rfl⟩
  have H := Hid.mk hd
  clear HC hd
  go_wp2_with fail
  rw [rounds_succ]
  have HG := csegs_any H.out (chOk_of al_p3.2.2.2)
  rw [al_lens.1, al_lens.2.1] at HG
  have HG := Hid.mk HG
  clear H
  go_wp2_with fail
  refine HG.out.mono ?_
  rintro e w10 ⟨ao, c, ak, ck, h10, rfl⟩
  have H10 := Hid.mk (h10.tl.tl)
  clear HG h10
  go_wp2_with fail
  refine (num_any 8 _).mono ?_
  rintro e w11 ⟨hb11, rfl⟩
  have HS := cstore_any (H10.out.keep hb11) (chOk_of al_p3.2.2.2) al_lens.2.2 1 (1, 8)
  rw [al_es] at HS
  have HS := Hid.mk HS
  clear H10 hb11
  go_wp2_with fail
  refine HS.out.mono ?_
  rintro e w12 ⟨h12, rfl⟩
  have HT := cret_any h12 (chOk_of al_store.2.1)
  rw [al_et] at HT
  have HT := Hid.mk HT
  clear HS h12
  go_wp2_with fail
  refine HT.out.mono ?_
  rintro e w13 ⟨h13, rfl⟩
  have HO := cpop_any h13 (chOk_of al_ret.2.1)
  rw [al_eo] at HO
  have HO := Hid.mk HO
  clear HT h13
  go_wp2_with fail
  refine HO.out.mono ?_
  rintro e w14 ⟨h14, rfl⟩
  have h14 := chP_in (h14.alloc (.cells #[.int .i64 1, .int .i64 8] 34))
  obtain ⟨B7, hB7⟩ : ∃ B7, w14.heap.size = B7 := ⟨_, rfl⟩
  rw [hB7] at h14
  have HG := csegs_any h14 (chOk_of al_store.2.2)
  rw [al_ret.2.2.2.1, al_ret.2.2.2.2.1] at HG
  have HG := Hid.mk HG
  clear HO h14
  go_wp2_with fail
  refine HG.out.mono ?_
  rintro e w15 ⟨ao2, c2, ak2, ck2, h15, rfl⟩
  have h15 := h15.tl.tl
  have HD := fun W' (q : Below w15.heap.size w15 W') => cdepth_any (h15.keep q)
  rw [al_ret.2.2.2.2.2] at HD
  have HD := Hid.mk HD
  have B1 := h15.at (b := B7) (o := (.cells #[.int .i64 1, .int .i64 8] 34)) (by simp [chP])
  have d0 : w15.cell? ⟨B7, 0, none⟩ = some (.int .i64 1) ∧ w15.cell? ⟨B7, 1, none⟩ = some (.int .i64 8) := ⟨by rw [cell_of_row _ _ 0 _ _ _ B1]; rfl, by rw [cell_of_row _ _ 1 _ _ _ B1]; rfl⟩
  have HB := Hid.mk h15.size
  clear HG h15 B1
  go_wp2_with fail
  go_region_held3 (fun X => X.cell? ⟨B7, 0, none⟩ = some (.int .i64 1) ∧ X.cell? ⟨B7, 1, none⟩ = some (.int .i64 8)) (first | exact s1 | exact d0) (first | (go_at_call 15; refine (num_any 8 w15.drew).mono ?_; rintro e w16 ⟨hb16, rfl⟩; have s1 := And.intro (keep_dr hb16 d0.1) (keep_dr hb16 d0.2)) | (go_at_call 10; refine (HD.out _ (undrew hb16)).mono ?_; rintro e w17 ⟨rfl, rfl⟩))
  have HE := Hid.mk (HB.out.trans ((undrew hb16).mono HB.out.size))
  clear HB hb16 HD s1 d0
  go_wp2_with fail
  go_ret
  exact ⟨HE.out, rfl⟩
end Go.Proofs.Ytpfnnmcokbolhaa
/- ChainFrames' walk. -/
namespace Go.Proofs.Ytpfnnmcokbolhaa
open Go.RowKit
set_option pp.deepTerms true
def opK (k : Int) : Op25 := ⟨k, 0, ⟨[], 0, 0, 0⟩, (0, 0)⟩
section
variable {w W : World} {F : List Asr} {t b p k n : Nat} {sz ca : Int} {N : Nt}
theorem slOk_nil : SlOk (.slice none 0 0) := fun ao n c e => by simp only [Value.slice.injEq] at e; omega
/-- a pop, a drop, of frames that are -/
theorem TwR.doK {kd : Int} (h : TwR w W t b p k sz ca n N F) (hn : n ≤ 280) (hk : kd = 3 ∨ kd = 6) (hM : N.M ≠ []) :
    Calls Try.prog 8 #[.pointer (some ⟨t, 0, none⟩), .agg #[.int .i64 kd, .int .i64 0, .slice none 0 0, .int .i64 0, .int .i64 0, .int .i64 0, .slice none 0 0, .int .i64 0, .int .i64 0, .bool false]] W fun e w' => TwR w w' t b p k sz ca n (stepN N (opK kd)) F ∧ e = .returned (.bool true) :=
  TwR.do_ (o := opK kd) h hn (by rw [if_pos ⟨hM, hk⟩]; exact Nat.le_refl n) (fun W' q => .inl ⟨rfl, rfl⟩) slOk_nil (by simp [opK])
end
theorem step_pop {f : Md} {M : List Md} {N : Nt} (h : N.M = f :: M) : stepN N (opK 6) = { N with M := f.withOps f.ops.dropLast :: M } := by
  unfold stepN
  rw [h]
  simp [opK]
theorem step_drop {f : Md} {M : List Md} {N : Nt} (h : N.M = f :: M) : stepN N (opK 3) = { N with M := M } := by
  unfold stepN
  rw [h]
  simp [opK]
set_option maxRecDepth 100000 in
set_option maxHeartbeats 4000000 in
theorem frames_any {w : World} {v : Value} {os : List OpV} (h : Ops25 w v os) (s c : Int) : Calls Try.prog 3 #[.agg #[.int .i64 s, .int .i64 c], v] w fun e w' => e = .returned (.bool true) ∧ Below w.heap.size w w' := by
  have h00 := h
  obtain ⟨⟨ao, cv, rfl⟩, hml, hok, hc⟩ := h
  obtain ⟨n, hn⟩ : ∃ n, os.length = n := ⟨_, rfl⟩
  have HN := Hid.mk hn
  have HC : Hid (∀ i (hi : i < os.length), ∃ b o, ao = some ⟨b, o, none⟩ ∧ b < w.heap.size ∧ OpVAt w b (o + i * 10) os[i] ∧ OpVOk w os[i]) := by
    intro i hi
    obtain ⟨b, o, c', e, hb, ha⟩ := hc (by omega)
    simp only [Value.slice.injEq] at e
    exact ⟨b, o, e.1, hb, ha i hi, hok _ (List.getElem_mem hi)⟩
  have H00 := Hid.mk h00
  obtain ⟨B2, hB2⟩ : ∃ B, w.heap.size = B := ⟨_, rfl⟩
  have h0 : Sep w [bx B2 (.cells #[.int .i64 s, .int .i64 c] 23)] (w.alloc (.cells #[.int .i64 s, .int .i64 c] 23)) := by
    have := (Sep.nil (Below.refl w.heap.size w)).alloc (.cells #[.int .i64 s, .int .i64 c] 23)
    rw [hB2] at this
    exact this
  have H0 := Hid.mk h0
  have HB2 := Hid.mk hB2
  rw [hn] at H00 ⊢
  clear hc hok hml h00 h0 hB2 hn
  have H00 := H00
  go_enter Try.func3, Try.ntmps3
  go_wp2_with fail
  refine (alive25_any _).mono ?_
  rintro e w1 ⟨hb1, rfl⟩
  have h1 := Sep.keep H0.out hb1
  rw [HB2.out]
  obtain ⟨c0, c1, -⟩ := two_cells h1 (q := B2) (List.Mem.head _)
  have HT := Hid.mk (twins_any h1 s c)
  clear h1 hb1 H0
  go_wp2_with fail
  refine HT.out.mono ?_
  clear c0 c1 HT
  rintro e w2 (⟨hseg, t, b, p, k, h2, rfl⟩ | ⟨hseg, h2, rfl⟩)
  · obtain ⟨c0, c1, -⟩ := two_cells h2 (q := B2) (tw_mem (List.Mem.head _))
    have HG := Hid.mk (great25_any (H00.out.below h2.size) s c)
    have H2 := Hid.mk h2
    have HSEG := Hid.mk hseg
    clear h2 hseg
    go_wp2_with fail
    refine HG.out.mono ?_
    rintro e w3 ⟨hb3, rfl | ⟨rfl, hsm⟩⟩
    · have HB := Hid.mk (Sep.keep H2.out hb3).size
      clear hb3 H2 HG c0 c1
      go_wp2_with fail
      go_ret
      exact ⟨rfl, HB.out⟩
    · obtain ⟨hs80, hsz, hs100⟩ := hsm
      rw [HN.out] at hs80
      have hsz' : s ≤ 2000 := by
        have := HSEG.out
        simp only [segOk, rangeB, Bool.and_eq_true, decide_eq_true_eq] at this
        omega
      have HR : Hid (∃ N, TwR w w3 t b p k s c 0 N [bx B2 (.cells #[.int .i64 s, .int .i64 c] 23)]) := ⟨_, (TwR.new H2.out HSEG.out hsz').keep hb3⟩
      have HS := Hid.mk hs100
      clear hb3 H2 HG c0 c1 hsz hs100 H00
      go_wp2_with fail
      go_loopw [29] (fun i wr => ∃ j : Nat, i = .int .i64 (j : Int) ∧ j ≤ n ∧ Hid (∃ N, TwR w wr t b p k s c j N [bx B2 (.cells #[.int .i64 s, .int .i64 c] 23)])) (fun i _ => n - (intOf i).toNat)
      case atStart => exact ⟨0, rfl, Nat.zero_le _, HR⟩
      case round =>
        obtain ⟨j, rfl, hj, HREL⟩ := hrel
        clear HR
        by_cases hlt : j < n
        · have h1 : j < os.length := by rw [HN.out]; exact hlt
          obtain ⟨ba, oa, rfl, hbl, ha, hv⟩ := HC.out j h1
          have hlen := HS.out _ (List.getElem_mem h1)
          obtain ⟨N, hR⟩ := HREL.out
          have hbw := hR.sep.size
          obtain ⟨a0, a1, a2, a3, a4, a5, a6, a7, a8, a9⟩ := ha.below hbw hbl
          obtain ⟨hv1, hv2, aa, ac, hav⟩ := hv
          obtain ⟨⟨o, sv, av, an, last⟩, hx⟩ : ∃ x, os[j] = x := ⟨_, rfl⟩
          rw [hx] at a0 a1 a2 a3 a4 a5 a6 a7 a8 a9 hv1 hv2 hav hlen
          simp only at a0 a1 a2 a3 a4 a5 a6 a7 a8 a9 hv1 hv2 hav hlen
          obtain ⟨sa, sc, rfl⟩ := hv1.shape
          subst hav
          have hm := hR.more (.cells #[.int .i64 o.kind, .int .i64 o.n, .slice sa o.l.slots.length sc, .int .i64 o.l.args, .int .i64 o.l.res, .int .i64 o.l.height, .slice aa an ac, .int .i64 o.v.1, .int .i64 o.v.2, .bool last] 36)
          have HDO := Hid.mk (TwR.do_ (n' := j + 1) hm (by omega) (by split <;> omega) (o := o) (av := .slice aa an ac) (last := last) (fun W' q => hv1.below q.size) hv2 hlen)
          clear hR hm hv1 hv2 hlen hx ha hbl HREL h1 HC hbw
          go_wp2_with fail
          refine HDO.out.mono ?_
          rintro e w4 ⟨hR4, rfl⟩
          have HAL := Hid.mk (TwR.alike hR4.lose (by omega))
          clear HDO hR4 a0 a1 a2 a3 a4 a5 a6 a7 a8 a9
          go_wp2_with fail
          refine HAL.out.mono ?_
          rintro e w5 ⟨hR5, rfl⟩
          have HR5 : Hid (∃ N, TwR w w5 t b p k s c (j + 1) N [bx B2 (.cells #[.int .i64 s, .int .i64 c] 23)]) := ⟨_, hR5⟩
          clear HAL hR5
          go_wp2_with fail
          exact ⟨⟨j + 1, by go_num, by omega, HR5⟩, by simp [intOf]; omega⟩
        · obtain rfl : j = n := by omega
          obtain ⟨N, hR⟩ := HREL.out
          obtain ⟨⟨la, lc, k1⟩, hlj⟩ := hR.len
          obtain ⟨m, hm⟩ : ∃ m, N.M.length = m := ⟨_, rfl⟩
          rw [hm] at k1 hlj
          have HR : Hid (∃ N, TwR w wr t b p k s c j N [bx B2 (.cells #[.int .i64 s, .int .i64 c] 23)] ∧ N.M.length = m) := ⟨_, hR, hm⟩
          clear hR hm HREL HC HS
          go_wp2_with fail
          go_loopw [9] (fun i wr => ∃ q : Nat, i = .int .i64 (q : Int) ∧ q ≤ m ∧ Hid (∃ N, TwR w wr t b p k s c j N [bx B2 (.cells #[.int .i64 s, .int .i64 c] 23)] ∧ N.M.length = q)) (fun i _ => (intOf i).toNat)
          case atStart => exact ⟨m, rfl, Nat.le_refl _, HR⟩
          case round =>
            obtain ⟨q, hi, hq, HREL⟩ := hrel
            clear HR k1
            rcases q with _ | q
            · subst hi
              obtain ⟨N, hR, hM⟩ := HREL.out
              obtain ⟨k0, hD⟩ := hR.depth
              rw [hM] at hD
              have HD := Hid.mk hD
              have HB := Hid.mk hR.sep.size
              clear hR hM HREL hD
              go_wp2_with fail
              refine HD.out.mono ?_
              rintro e w6 ⟨rfl, rfl⟩
              clear HD
              go_wp2_with fail
              go_ret
              exact ⟨rfl, HB.out⟩
            · have ez : ((q + 1 : Nat) : Int) = (q : Int) + 1 := by omega
              rw [ez] at hi
              subst hi
              clear ez
              have z1 : decide ((q : Int) + 1 > 0) = true := by simp
              have z2 : decide (0 < (q : Int) + 1) = true := by simp
              have w2 : IntKind.i64.wrap ((q : Int) + 1 - 1) = (q : Int) := by rw [IntKind.wrap_i64]; omega
              have w3 : IntKind.i64.wrap (q : Int) = (q : Int) := by rw [IntKind.wrap_i64]; omega
              have hk3 : q < q + 1 := by omega
              have hk4 : (q : Int) < (q : Int) + 1 := by omega
              obtain ⟨N, hR, hM⟩ := HREL.out
              obtain ⟨f, M, hfm⟩ : ∃ f M, N.M = f :: M := by
                cases e : N.M with
                | nil => rw [e] at hM; cases hM
                | cons f M => exact ⟨f, M, rfl⟩
              have hMq : M.length = q := by rw [hfm] at hM; simpa using hM
              obtain ⟨⟨g, gc, oa, oc, k1, k5⟩, hol⟩ := hR.top (by omega) hfm
              rw [hMq] at k1 k5
              obtain ⟨mo, hmo⟩ : ∃ mo, f.ops.length = mo := ⟨_, rfl⟩
              rw [hmo] at k5 hol
              have HR : Hid (∃ N f M, TwR w wr t b p k s c j N [bx B2 (.cells #[.int .i64 s, .int .i64 c] 23)] ∧ N.M = f :: M ∧ M.length = q ∧ f.ops.length = mo) := ⟨N, f, M, hR, hfm, hMq, hmo⟩
              clear hR hM hfm hMq hmo HREL
              go_wp2_with fail
              go_loopw [10] (fun i wr => ∃ r : Nat, i = .int .i64 (r : Int) ∧ r ≤ mo ∧ Hid (∃ N f M, TwR w wr t b p k s c j N [bx B2 (.cells #[.int .i64 s, .int .i64 c] 23)] ∧ N.M = f :: M ∧ M.length = q ∧ f.ops.length = r)) (fun i _ => (intOf i).toNat)
              case atStart => exact ⟨mo, rfl, Nat.le_refl _, HR⟩
              case round =>
                obtain ⟨r, hi, hr, HREL⟩ := hrel
                clear HR k1 k5
                obtain ⟨N, f, M, hR, hfm, hMq, hmr⟩ := HREL.out
                rcases r with _ | r
                · subst hi
                  have HDO := Hid.mk (TwR.doK (kd := 3) hR (by omega) (.inl rfl) (by rw [hfm]; simp))
                  have HST := Hid.mk (step_drop hfm)
                  have HMQ := Hid.mk hMq
                  clear hR hfm hMq hmr HREL
                  go_wp2_with fail
                  refine HDO.out.mono ?_
                  rintro e w6 ⟨hR6, rfl⟩
                  rw [HST.out] at hR6
                  have HAL := Hid.mk (TwR.alike hR6 (by omega))
                  clear HDO HST hR6
                  go_wp2_with fail
                  refine HAL.out.mono ?_
                  rintro e w7 ⟨hR7, rfl⟩
                  have HR7 : Hid (∃ N, TwR w w7 t b p k s c j N [bx B2 (.cells #[.int .i64 s, .int .i64 c] 23)] ∧ N.M.length = q) := ⟨_, hR7, HMQ.out⟩
                  clear HAL hR7
                  go_wp2_with fail
                  exact ⟨⟨q, rfl, by omega, HR7⟩, by simp [intOf]⟩
                · have ez : ((r + 1 : Nat) : Int) = (r : Int) + 1 := by omega
                  rw [ez] at hi
                  subst hi
                  clear ez
                  have y0 : decide ((r : Int) + 1 > 0) = true := by simp
                  have y1 : decide (0 < (r : Int) + 1) = true := by simp
                  have y2 : IntKind.i64.wrap ((r : Int) + 1 - 1) = (r : Int) := by rw [IntKind.wrap_i64]; omega
                  have y3 : IntKind.i64.wrap (r : Int) = (r : Int) := by rw [IntKind.wrap_i64]; omega
                  have HDO := Hid.mk (TwR.doK (kd := 6) hR (by omega) (.inr rfl) (by rw [hfm]; simp))
                  have HST := Hid.mk (step_pop hfm)
                  have HMQ : Hid (M.length = q ∧ (f.withOps f.ops.dropLast).ops.length = r) := ⟨hMq, by show f.ops.dropLast.length = r; rw [List.length_dropLast]; omega⟩
                  clear hR hfm hMq hmr HREL
                  go_wp2_with fail
                  refine HDO.out.mono ?_
                  rintro e w6 ⟨hR6, rfl⟩
                  rw [HST.out] at hR6
                  have HAL := Hid.mk (TwR.alike hR6 (by omega))
                  clear HDO HST hR6
                  go_wp2_with fail
                  refine HAL.out.mono ?_
                  rintro e w7 ⟨hR7, rfl⟩
                  have HR7 : Hid (∃ N f M, TwR w w7 t b p k s c j N [bx B2 (.cells #[.int .i64 s, .int .i64 c] 23)] ∧ N.M = f :: M ∧ M.length = q ∧ f.ops.length = r) := ⟨_, _, _, hR7, rfl, HMQ.out.1, HMQ.out.2⟩
                  clear HAL hR7
                  go_wp2_with fail
                  exact ⟨⟨r, rfl, by omega, HR7⟩, by simp [intOf]⟩
  · obtain ⟨c0, c1, -⟩ := two_cells h2 (q := B2) (List.Mem.head _)
    have HG := Hid.mk (great25_any (H00.out.below h2.size) s c)
    have H2 := Hid.mk h2
    clear h2 hseg
    go_wp2_with fail
    refine HG.out.mono ?_
    rintro e w3 ⟨hb3, rfl | ⟨rfl, hsm⟩⟩
    · have HB := Hid.mk (Sep.keep H2.out hb3).size
      clear hb3 H2 HG c0 c1
      go_wp2_with fail
      go_ret
      exact ⟨rfl, HB.out⟩
    · have HB := Hid.mk (Sep.keep H2.out hb3).size
      clear hb3 H2 HG c0 c1 hsm
      go_wp2_with fail
      go_ret
      exact ⟨rfl, HB.out⟩
end Go.Proofs.Ytpfnnmcokbolhaa
