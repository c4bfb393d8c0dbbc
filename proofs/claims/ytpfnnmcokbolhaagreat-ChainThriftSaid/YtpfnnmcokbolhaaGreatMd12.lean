/- Parts Zb Zc Zd Ze Xo, put together. -/
import Derived.Test.YtpfnnmcokbolhaaGreatMd11
/- A chain as frames with what they hold. -/
namespace Go.Proofs.YtpfnnmcokbolhaaGreat
open Go.RowKit
/-- a frame: its segment, its slots' and operands' values, its link's number -/
structure Af where
  f : Fr
  seg : Int × Int
  slots : List (Int × Int)
  ops : List (Int × Int)
  link : Int
def Af.words (a : Af) : List (Int × Int) := a.slots ++ (1, a.link) :: a.ops
def Af.top (a : Af) : Int := a.f.base + a.words.length
structure Af.Ok (a : Af) : Prop where
  lay : layOk a.f.lay = true
  fits : fitsB a.f.lay.slots a.slots = true
  okv : ∀ v ∈ a.ops, okV v.1 v.2 = true
  n : a.f.ops = a.ops.length
  high : (a.ops.length : Int) ≤ a.f.lay.height
  lo : a.seg.1 ≤ a.f.base
  hi : a.f.base + a.f.lay.words ≤ a.seg.1 + a.seg.2
  lk : 0 ≤ a.link ∧ a.link ≤ 1048576
theorem Af.Ok.len {a : Af} (h : a.Ok) : a.slots.length = a.f.lay.slots.length := (fitsB_len h.fits).symm
theorem Af.words_len (a : Af) : (a.words.length : Int) = a.slots.length + 1 + a.ops.length := by simp [Af.words]; omega
theorem Af.Ok.top_le {a : Af} (h : a.Ok) : a.top ≤ a.f.base + a.f.lay.words := by
  unfold Af.top Lay.words
  rw [a.words_len, h.len]
  have := h.high
  omega
theorem Af.lt_top (a : Af) : a.f.base < a.top := by
  unfold Af.top
  rw [a.words_len]
  omega
theorem Af.Ok.free {a : Af} (h : a.Ok) (k : Int) : a.f.free k = a.top - k := by
  unfold Fr.free Af.top
  rw [a.words_len, h.len, h.n]
  omega
theorem Af.Ok.word {a : Af} (h : a.Ok) {v : Int × Int} (hv : v ∈ a.words) : okV v.1 v.2 = true := by
  rcases List.mem_append.1 hv with hv | hv
  · obtain ⟨i, hi, rfl⟩ := List.getElem_of_mem hv
    exact ((fitsB_iff h.len.symm).1 h.fits i (by rw [← h.len]; exact hi) hi).2
  · rcases List.mem_cons.1 hv with rfl | hv
    · simp [okV, knownB]
    · exact h.okv v hv
/-- what a space with segments holds, frame by frame, the top one first -/
structure Core (sz ca : Int) (S : Sp) (L : Lk) (A : List Af) : Prop where
  ok : Spok S
  inv : SInv S L sz ca
  each : ∀ a ∈ A, a.Ok
  live : ∀ a ∈ A, a.seg ∈ L.live
  apart : A.Pairwise fun a b => a.seg = b.seg → b.top ≤ a.f.base
  wd : ∀ a ∈ A, ∀ (j : Nat) v, a.words[j]? = some v → full S (a.f.base + j) = some v
  no : ∀ r ∈ L.live, ∀ x, r.1 ≤ x → x < r.1 + r.2 → (∀ a ∈ A, a.seg = r → ¬ (a.f.base ≤ x ∧ x < a.top)) → full S x = none
section
variable {sz ca : Int} {S S' : Sp} {L L' : Lk} {A pre post : List Af} {a a' n : Af}
theorem Core.in_seg (h : Core sz ca S L A) (ha : a ∈ A) {x : Int} (h0 : a.f.base ≤ x) (h1 : x < a.f.base + a.f.lay.words) : a.seg.1 ≤ x ∧ x < a.seg.1 + a.seg.2 := by
  have := (h.each a ha).lo
  have := (h.each a ha).hi
  omega
/-- one frame turns: its words alone -/
theorem Core.set (h : Core sz ca S L (pre ++ a :: post)) (hs : a'.seg = a.seg) (hb : a'.f.base = a.f.base) (hl : a'.f.lay = a.f.lay) (hok : a'.Ok) (ht : pre = [] ∨ a'.top = a.top) (ok' : Spok S') (inv' : SInv S' L sz ca)
    (hin : ∀ (j : Nat) v, a'.words[j]? = some v → full S' (a.f.base + j) = some v)
    (hout : ∀ y, a'.top ≤ y → y < a.top → full S' y = none)
    (hrest : ∀ y, ¬ (a.f.base ≤ y ∧ y < max a.top a'.top) → full S' y = full S y) : Core sz ca S' L (pre ++ a' :: post) := by
  have ham : a ∈ pre ++ a :: post := by simp
  have hmem : ∀ c, c ∈ pre ++ a' :: post → c = a' ∨ c ∈ pre ∨ c ∈ post := fun c hc => by
    rcases List.mem_append.1 hc with q | q
    · exact .inr (.inl q)
    · rcases List.mem_cons.1 q with q | q
      · exact .inl q
      · exact .inr (.inr q)
  have hold : ∀ c, c ∈ pre ∨ c ∈ post → c ∈ pre ++ a :: post := fun c hc => by
    rcases hc with q | q
    · exact List.mem_append.2 (.inl q)
    · exact List.mem_append.2 (.inr (List.mem_cons_of_mem _ q))
  obtain ⟨p1, p2, p3⟩ := List.pairwise_append.1 h.apart
  obtain ⟨p4, p5⟩ := List.pairwise_cons.1 p2
  have hmx : max a.top a'.top ≤ a.f.base + a.f.lay.words := by
    have := (h.each a ham).top_le
    have := hok.top_le
    rw [hb, hl] at this
    omega
  have hzone : ∀ c, c ∈ pre ∨ c ∈ post → ∀ (j : Nat), j < c.words.length → ¬ (a.f.base ≤ c.f.base + j ∧ c.f.base + (j : Int) < max a.top a'.top) := by
    intro c hc j hj hy
    have hcm := hold c hc
    have hct := (h.each c hcm).top_le
    have hjt : c.f.base + (j : Int) < c.top := by unfold Af.top; omega
    obtain ⟨s0, s1⟩ := h.in_seg ham hy.1 (by omega)
    obtain ⟨t0, t1⟩ := h.in_seg hcm (x := c.f.base + j) (by omega) (by omega)
    have e : c.seg = a.seg := h.inv.same h.ok (h.live c hcm) (h.live a ham) t0 t1 s0 s1
    rcases hc with hc | hc
    · have h1 := p3 c hc a List.mem_cons_self e
      rcases ht with ht | ht
      · rw [ht] at hc; cases hc
      · rw [ht] at hy; omega
    · have h1 := p4 c hc e.symm
      omega
  refine ⟨ok', inv', fun c hc => ?_, fun c hc => ?_, ?_, fun c hc j v hv => ?_, fun r hr x x0 x1 hz => ?_⟩
  · rcases hmem c hc with rfl | q
    · exact hok
    · exact h.each c (hold c q)
  · rcases hmem c hc with rfl | q
    · rw [hs]; exact h.live a ham
    · exact h.live c (hold c q)
  · refine List.pairwise_append.2 ⟨p1, List.pairwise_cons.2 ⟨fun b hb' e => ?_, p5⟩, fun c hc b hb' e => ?_⟩
    · rw [hb]; exact p4 b hb' (by rw [← hs]; exact e)
    · rcases List.mem_cons.1 hb' with rfl | hb'
      · rcases ht with ht | ht
        · rw [ht] at hc; cases hc
        · rw [ht]; exact p3 c hc a List.mem_cons_self (by rw [e, hs])
      · exact p3 c hc b (List.mem_cons_of_mem _ hb') e
  · rcases hmem c hc with rfl | q
    · rw [hb]; exact hin j v hv
    · have hj := (List.getElem?_eq_some_iff.1 hv).1
      rw [hrest _ (hzone c q j hj)]
      exact h.wd c (hold c q) j v hv
  · by_cases hy : a.f.base ≤ x ∧ x < max a.top a'.top
    · obtain ⟨s0, s1⟩ := h.in_seg ham hy.1 (by omega)
      have e : r = a.seg := h.inv.same h.ok hr (h.live a ham) x0 x1 s0 s1
      have hna := hz a' (by simp) (by rw [hs, e])
      rw [hb] at hna
      exact hout x (by omega) (by omega)
    · rw [hrest x hy]
      refine h.no r hr x x0 x1 (fun c hc e => ?_)
      rcases List.mem_append.1 hc with q | q
      · exact hz c (List.mem_append.2 (.inl q)) e
      · rcases List.mem_cons.1 q with rfl | q
        · omega
        · exact hz c (List.mem_append.2 (.inr (List.mem_cons_of_mem _ q))) e
/-- a frame is laid -/
theorem Core.lay (h : Core sz ca S L A) (hok : n.Ok) (hlive : n.seg ∈ L.live) (hab : ∀ b ∈ A, n.seg = b.seg → b.top ≤ n.f.base) (ok' : Spok S') (inv' : SInv S' L sz ca)
    (hin : ∀ (j : Nat) v, n.words[j]? = some v → full S' (n.f.base + j) = some v)
    (hrest : ∀ y, ¬ (n.f.base ≤ y ∧ y < n.top) → full S' y = full S y) : Core sz ca S' L (n :: A) := by
  have hnt := hok.top_le
  have hnlo := hok.lo
  have hnhi := hok.hi
  refine ⟨ok', inv', fun c hc => ?_, fun c hc => ?_, List.pairwise_cons.2 ⟨hab, h.apart⟩, fun c hc j v hv => ?_, fun r hr x x0 x1 hz => ?_⟩
  · rcases List.mem_cons.1 hc with rfl | q
    · exact hok
    · exact h.each c q
  · rcases List.mem_cons.1 hc with rfl | q
    · exact hlive
    · exact h.live c q
  · rcases List.mem_cons.1 hc with rfl | q
    · exact hin j v hv
    · have hj := (List.getElem?_eq_some_iff.1 hv).1
      have hct := (h.each c q).top_le
      have hjt : c.f.base + (j : Int) < c.top := by unfold Af.top; omega
      rw [hrest _ (fun hy => ?_)]
      · exact h.wd c q j v hv
      · obtain ⟨t0, t1⟩ := h.in_seg q (x := c.f.base + j) (by omega) (by omega)
        have e : n.seg = c.seg := h.inv.same h.ok hlive (h.live c q) (x := c.f.base + j) (by omega) (by omega) t0 t1
        have := hab c q e
        omega
  · by_cases hy : n.f.base ≤ x ∧ x < n.top
    · have e : r = n.seg := h.inv.same h.ok hr hlive x0 x1 (by omega) (by omega)
      exact absurd hy (hz n List.mem_cons_self e.symm)
    · rw [hrest x hy]
      exact h.no r hr x x0 x1 (fun c hc e => hz c (List.mem_cons_of_mem _ hc) e)
/-- the top frame's words go -/
theorem Core.cut (h : Core sz ca S L (a :: A)) (ok' : Spok S') (inv' : SInv S' L sz ca) (hf : ∀ y, full S' y = if a.f.base ≤ y ∧ y < a.f.base + a.f.lay.words then none else full S y) : Core sz ca S' L A := by
  obtain ⟨p4, p5⟩ := List.pairwise_cons.1 h.apart
  have hat := (h.each a List.mem_cons_self).top_le
  refine ⟨ok', inv', fun c hc => h.each c (List.mem_cons_of_mem _ hc), fun c hc => h.live c (List.mem_cons_of_mem _ hc), p5, fun c hc j v hv => ?_, fun r hr x x0 x1 hz => ?_⟩
  · have hj := (List.getElem?_eq_some_iff.1 hv).1
    have hcm := List.mem_cons_of_mem a hc
    have hct := (h.each c hcm).top_le
    have hjt : c.f.base + (j : Int) < c.top := by unfold Af.top; omega
    rw [hf, if_neg (fun hy => ?_)]
    · exact h.wd c hcm j v hv
    · obtain ⟨s0, s1⟩ := h.in_seg List.mem_cons_self hy.1 hy.2
      obtain ⟨t0, t1⟩ := h.in_seg hcm (x := c.f.base + j) (by omega) (by omega)
      have e := h.inv.same h.ok (h.live a List.mem_cons_self) (h.live c hcm) s0 s1 t0 t1
      have := p4 c hc e
      omega
  · rw [hf]
    split
    · rfl
    · rename_i hy
      refine h.no r hr x x0 x1 (fun c hc e => ?_)
      rcases List.mem_cons.1 hc with rfl | q
      · omega
      · exact hz c q e
end
end Go.Proofs.YtpfnnmcokbolhaaGreat
/- A chain's calls on frames with what they hold: operands and slots. -/
namespace Go.Proofs.YtpfnnmcokbolhaaGreat
open Go.RowKit
theorem run_ok {S : Sp} {L : Lk} {sz ca : Int} (h : SInv S L sz ca) (ok : Spok S) {r : Int × Int} (hr : r ∈ L.live) {x : Int} {vs : List (Int × Int)} (x0 : r.1 ≤ x) (hx : x + vs.length ≤ r.1 + r.2) (hf : ∀ (j : Nat) v, vs[j]? = some v → full S (x + j) = some v) :
    (S.run x vs.length).2 = 0 ∧ (S.run x vs.length).1.getD [] = vs := by
  unfold Sp.run
  by_cases h0 : ((vs.length : Nat) : Int) = 0
  · rw [if_pos h0]
    exact ⟨rfl, (List.eq_nil_of_length_eq_zero (by omega)).symm⟩
  · rw [if_neg h0, if_neg (by omega)]
    obtain ⟨i, j, hl, hi, hb, hn, hj⟩ := h.loc ok (List.mem_append.2 (.inl hr)) (m := vs.length) x0 (by omega) hx
    rw [hl]
    simp only [Int.toNat_natCast]
    have hw : wordsAt S.regs i = S.regs[i].words := by simp [wordsAt, hi]
    have hlen : (seg S.regs[i].words j vs.length).length = vs.length := by simp [seg]; omega
    have hsg : seg S.regs[i].words j vs.length = vs := by
      apply List.ext_getElem? 
      intro k
      rcases Nat.lt_or_ge k vs.length with q | q
      · have h1 := hf k vs[k] (by rw [List.getElem?_eq_getElem q])
        have hjk : j + k < S.regs[i].words.length := by omega
        have h2 := full_at ok hi hjk
        rw [show S.regs[i].base + ((j + k : Nat) : Int) = x + k by rw [hb]; push_cast; omega, h1] at h2
        have h3 : S.regs[i].words[j + k] = vs[k] := by
          split at h2
          · cases h2
          · exact (Option.some.inj h2).symm
        rw [List.getElem?_eq_getElem q, List.getElem?_eq_getElem (by rw [hlen]; exact q)]
        congr 1
        simp only [seg, List.getElem_take, List.getElem_drop]
        exact h3
      · rw [List.getElem?_eq_none q, List.getElem?_eq_none (by rw [hlen]; exact q)]
    rw [hw, hsg]
    have hnz : (0, 0) ∉ vs := by
      intro hm
      obtain ⟨k, hk, e⟩ := List.getElem_of_mem hm
      have h1 := hf k vs[k] (by rw [List.getElem?_eq_getElem hk])
      rw [e] at h1
      exact ((full_iff ok).1 h1).1 rfl
    rw [if_neg hnz]
    exact ⟨rfl, rfl⟩
/-- frames and live segments, from the top -/
def Geo : List Af → List (Int × Int) → Prop
  | [], l => ∃ r, l = [r]
  | a :: rs9, l => ∃ rs, l = a.seg :: rs ∧ (a.f.own = true → a.f.base = a.seg.1 ∧ rs9 ≠ [] ∧ Geo rs9 rs) ∧ (a.f.own = false → Geo rs9 l ∧ a.f.base = (match rs9 with | [] => a.seg.1 | b :: _ => b.top))
structure Rep (sz ca : Int) (C : Ch) (A : List Af) : Prop where
  fs : C.F = A.map (·.f)
  core : Core sz ca C.S C.L A
  geo : Geo A C.L.live.reverse
theorem Geo.own : ∀ {A : List Af} {l : List (Int × Int)}, Geo A l → ∀ {a rs9}, A = a :: rs9 → ∀ a', a'.seg = a.seg → a'.f.base = a.f.base → a'.f.own = a.f.own → Geo (a' :: rs9) l := by
  intro A l h a rs9 e a' h1 h2 h3
  subst e
  obtain ⟨rs, e, q1, q2⟩ := h
  exact ⟨rs, by rw [h1]; exact e, by rw [h3, h1, h2]; exact q1, by rw [h3, h1, h2]; exact q2⟩
section
variable {sz ca : Int} {C : Ch} {A rs9 : List Af} {a : Af}
theorem Rep.top (h : Rep sz ca C (a :: rs9)) : C.F = a.f :: rs9.map (·.f) := h.fs
def Af.push (a : Af) (v : Int × Int) : Af := { a with f := { a.f with ops := a.f.ops + 1 }, ops := a.ops ++ [v] }
def Af.pop (a : Af) : Af := { a with f := { a.f with ops := a.f.ops - 1 }, ops := a.ops.dropLast }
theorem Rep.push (h : Rep sz ca C (a :: rs9)) {v : Int × Int} (hv : okV v.1 v.2 = true) (hh : (a.ops.length : Int) ≠ a.f.lay.height) : (pushC C v).1 = 0 ∧ (pushC C v).2.L = C.L ∧ Rep sz ca (pushC C v).2 (a.push v :: rs9) := by
  have ha := h.core.each a List.mem_cons_self
  have hfr : a.f.free 0 = a.top := by rw [ha.free]; omega
  have htl := ha.top_le
  have hhi := ha.high
  have hlt : a.top < a.f.base + a.f.lay.words := by
    unfold Af.top Lay.words
    rw [a.words_len, ha.len]
    omega
  have hsg := h.core.in_seg List.mem_cons_self (x := a.top) (by have := a.lt_top; omega) hlt
  obtain ⟨p1, p2, p3, p4⟩ := h.core.inv.put_ok h.core.ok (h.core.live a List.mem_cons_self) hsg.1 hsg.2 hv
  have e : pushC C v = (0, ⟨(C.S.put a.top v).2, C.L, (a.push v).f :: rs9.map (·.f)⟩) := by
    unfold pushC
    rw [h.top]
    simp only
    rw [if_pos ⟨hv, by rw [ha.n]; exact hh⟩, hfr]
    rfl
  rw [e]
  refine ⟨rfl, rfl, rfl, ?_, h.geo.own rfl _ rfl rfl rfl⟩
  have hpw : (a.push v).words = a.words ++ [v] := by simp [Af.words, Af.push]
  have hpt : (a.push v).top = a.top + 1 := by
    unfold Af.top
    rw [hpw]
    show a.f.base + _ = _
    simp
    omega
  refine Core.set (pre := []) h.core rfl rfl rfl ⟨ha.lay, ha.fits, ?_, ?_, ?_, ha.lo, ha.hi, ha.lk⟩ (.inl rfl) p2 p3 (fun j u hu => ?_) (fun y y0 y1 => ?_) (fun y hy => ?_)
  · intro u hu
    rcases List.mem_append.1 hu with q | q
    · exact ha.okv u q
    · obtain rfl : u = v := by simpa using q
      exact hv
  · show a.f.ops + 1 = _
    rw [ha.n]
    simp [Af.push]
  · show ((a.ops ++ [v]).length : Int) ≤ a.f.lay.height
    simp
    omega
  · rw [hpw] at hu
    rw [p4]
    rcases Nat.lt_or_ge j a.words.length with q | q
    · rw [List.getElem?_append_left q] at hu
      rw [if_neg (by unfold Af.top; omega)]
      exact h.core.wd a List.mem_cons_self j u hu
    · have hj := (List.getElem?_eq_some_iff.1 hu).1
      have hj2 : j = a.words.length := by simp at hj; omega
      subst hj2
      rw [if_pos (by rfl)]
      simpa using hu
  · omega
  · rw [p4, if_neg (by have := a.lt_top; omega)]
theorem Rep.push_no (h : Rep sz ca C (a :: rs9)) {v : Int × Int} (hno : okV v.1 v.2 = false ∨ (a.ops.length : Int) = a.f.lay.height) : pushC C v = (250, C) := by
  have ha := h.core.each a List.mem_cons_self
  unfold pushC
  rw [h.top]
  simp only
  rw [if_neg]
  rintro ⟨q1, q2⟩
  rcases hno with q | q
  · rw [q] at q1; cases q1
  · exact q2 (by rw [ha.n]; exact q)
theorem Rep.pop_no (h : Rep sz ca C (a :: rs9)) (hno : a.ops = []) : popC C = (((0, 0), 250), C) := by
  have ha := h.core.each a List.mem_cons_self
  unfold popC
  rw [h.top]
  simp only
  rw [if_pos (by rw [ha.n, hno]; rfl)]
theorem Rep.pop (h : Rep sz ca C (a :: rs9)) {o : List (Int × Int)} {v : Int × Int} (ho : a.ops = o ++ [v]) : (popC C).1 = (v, 0) ∧ (popC C).2.L = C.L ∧ Rep sz ca (popC C).2 (a.pop :: rs9) := by
  have ha := h.core.each a List.mem_cons_self
  have hfr : a.f.free 1 = a.top - 1 := ha.free 1
  have hln : a.ops.length = o.length + 1 := by rw [ho]; simp
  have htl := ha.top_le
  have hwl := a.words_len
  have hlt : a.f.base ≤ a.top - 1 := by have := a.lt_top; omega
  obtain ⟨s0, s1⟩ := h.core.in_seg List.mem_cons_self (x := a.top - 1) hlt (by omega)
  obtain ⟨p1, p2, p3, p4⟩ := h.core.inv.drop_ok h.core.ok (h.core.live a List.mem_cons_self) (a := a.top - 1) (m := 1) s0 (by omega) (by omega)
  have hw : a.words = (a.slots ++ (1, a.link) :: o) ++ [v] := by simp [Af.words, ho]
  have hwl2 : a.words.length = (a.slots ++ (1, a.link) :: o).length + 1 := by rw [hw]; simp; omega
  have hg : full C.S (a.top - 1) = some v := by
    have := h.core.wd a List.mem_cons_self (a.slots ++ (1, a.link) :: o).length v (by rw [hw]; simp)
    rw [← this]
    congr 1
    unfold Af.top
    rw [hwl2]
    push_cast
    omega
  have e : popC C = ((v, 0), ⟨(C.S.drop (a.top - 1) 1).2, C.L, a.pop.f :: rs9.map (·.f)⟩) := by
    unfold popC
    rw [h.top]
    simp only
    rw [if_neg (by rw [ha.n, hln]; omega), hfr, get_full hg]
    rfl
  rw [e]
  refine ⟨rfl, rfl, rfl, ?_, h.geo.own rfl _ rfl rfl rfl⟩
  have hpw : a.pop.words = a.slots ++ (1, a.link) :: o := by simp [Af.words, Af.pop, ho]
  have hpt : a.pop.top = a.top - 1 := by
    unfold Af.top
    rw [hpw, hwl2]
    show a.f.base + _ = _
    push_cast
    omega
  refine Core.set (pre := []) h.core rfl rfl rfl ⟨ha.lay, ha.fits, ?_, ?_, ?_, ha.lo, ha.hi, ha.lk⟩ (.inl rfl) p2 p3 (fun j u hu => ?_) (fun y y0 y1 => ?_) (fun y hy => ?_)
  · intro u hu
    exact ha.okv u (List.dropLast_subset _ hu)
  · show a.f.ops - 1 = _
    rw [ha.n]
    simp [Af.pop, hln]
  · show (a.ops.dropLast.length : Int) ≤ a.f.lay.height
    have := ha.high
    simp
    omega
  · rw [hpw] at hu
    have hj := (List.getElem?_eq_some_iff.1 hu).1
    rw [p4, if_neg (by unfold Af.top; rw [hwl2]; push_cast; omega)]
    exact h.core.wd a List.mem_cons_self j u (by rw [hw, List.getElem?_append_left hj]; exact hu)
  · rw [p4, if_pos (by omega)]
  · rw [p4, if_neg (by have := a.lt_top; omega)]
end
end Go.Proofs.YtpfnnmcokbolhaaGreat
/- A chain's calls on frames with what they hold: slots, pointers, results, places. -/
namespace Go.Proofs.YtpfnnmcokbolhaaGreat
open Go.RowKit
theorem fitsB_set {ts : List Int} {vs : List (Int × Int)} (h : fitsB ts vs = true) {i : Nat} (hi : i < ts.length) {v : Int × Int} (h1 : v.1 = ts[i]) (h2 : okV v.1 v.2 = true) : fitsB ts (vs.set i v) = true := by
  have hl := fitsB_len h
  rw [fitsB_iff (by simpa using hl)]
  intro k k1 k2
  rw [List.getElem_set]
  split
  · rename_i e
    subst e
    exact ⟨h1, h2⟩
  · exact (fitsB_iff hl).1 h k k1 (by simpa using k2)
def Af.setSlot (a : Af) (i : Nat) (v : Int × Int) : Af := { a with slots := a.slots.set i v }
theorem Af.setSlot_words (a : Af) (i : Nat) (v : Int × Int) (hi : i < a.slots.length) : (a.setSlot i v).words = a.words.set i v := by
  unfold Af.words Af.setSlot
  simp only
  rw [List.set_append_left _ _ hi]
theorem Af.setSlot_top (a : Af) (i : Nat) (v : Int × Int) : (a.setSlot i v).top = a.top := by
  unfold Af.top Af.words Af.setSlot
  simp
theorem Geo.deep : ∀ {pre : List Af} {a a' : Af} {post : List Af} {l : List (Int × Int)}, Geo (pre ++ a :: post) l → a'.seg = a.seg → a'.f.base = a.f.base → a'.f.own = a.f.own → a'.top = a.top → Geo (pre ++ a' :: post) l
  | [], a, a', post, l, h, h1, h2, h3, _ => h.own rfl a' h1 h2 h3
  | c :: pre, a, a', post, l, h, h1, h2, h3, h4 => by
    obtain ⟨rs, e, q1, q2⟩ := h
    refine ⟨rs, e, fun ho => ?_, fun ho => ?_⟩
    · obtain ⟨x1, -, x3⟩ := q1 ho
      exact ⟨x1, by simp, Geo.deep x3 h1 h2 h3 h4⟩
    · obtain ⟨x1, x2⟩ := q2 ho
      refine ⟨Geo.deep x1 h1 h2 h3 h4, ?_⟩
      cases pre with
      | nil => exact x2.trans h4.symm
      | cons d pre => exact x2
section
variable {sz ca : Int} {C : Ch} {A post pre : List Af} {a : Af}
/-- a slot of a frame is set -/
theorem Rep.setSlot (h : Rep sz ca C (pre ++ a :: post)) {i : Nat} (hi : i < a.f.lay.slots.length) {v : Int × Int} (h1 : v.1 = a.f.lay.slots[i]) (h2 : okV v.1 v.2 = true) :
    (C.S.put (a.f.base + i) v).1 = 0 ∧ Rep sz ca ⟨(C.S.put (a.f.base + i) v).2, C.L, C.F⟩ (pre ++ a.setSlot i v :: post) := by
  have ham : a ∈ pre ++ a :: post := by simp
  have ha := h.core.each a ham
  have his : i < a.slots.length := by rw [ha.len]; exact hi
  have hiw : i < a.words.length := by have := a.words_len; omega
  have htl := ha.top_le
  obtain ⟨s0, s1⟩ := h.core.in_seg ham (x := a.f.base + i) (by omega) (by unfold Af.top at htl; omega)
  obtain ⟨p1, p2, p3, p4⟩ := h.core.inv.put_ok h.core.ok (h.core.live a ham) s0 s1 h2
  refine ⟨p1, ?_, ?_, h.geo.deep rfl rfl rfl (a.setSlot_top i v)⟩
  · rw [h.fs]; simp [Af.setSlot]
  · refine Core.set h.core rfl rfl rfl ⟨ha.lay, fitsB_set ha.fits hi h1 h2, ha.okv, ha.n, ha.high, ha.lo, ha.hi, ha.lk⟩ (.inr (a.setSlot_top i v)) p2 p3 (fun j u hu => ?_) (fun y y0 y1 => ?_) (fun y hy => ?_)
    · rw [a.setSlot_words i v his, List.getElem?_set] at hu
      rw [p4]
      split at hu
      · rename_i e
        subst e
        rw [if_pos rfl]
        exact hu
      · rename_i e
        rw [if_neg (by omega)]
        exact h.core.wd a ham j u hu
    · rw [a.setSlot_top] at y0; omega
    · rw [p4, if_neg]
      rw [a.setSlot_top] at hy
      unfold Af.top at hy
      omega
theorem Af.Ok.slot {a : Af} (ha : a.Ok) {i : Nat} (hi : i < a.f.lay.slots.length) : ∃ hs : i < a.slots.length, a.slots[i].1 = a.f.lay.slots[i] ∧ okV a.slots[i].1 a.slots[i].2 = true := by
  have hs : i < a.slots.length := by rw [ha.len]; exact hi
  exact ⟨hs, (fitsB_iff ha.len.symm).1 ha.fits i hi hs⟩
theorem Core.slot {S : Sp} {L : Lk} (h : Core sz ca S L A) (ha : a ∈ A) {i : Nat} (hs : i < a.slots.length) : full S (a.f.base + i) = some a.slots[i] := by
  refine h.wd a ha i _ ?_
  unfold Af.words
  rw [List.getElem?_append_left hs, List.getElem?_eq_getElem hs]
theorem Rep.slotC_in (h : Rep sz ca C (a :: post)) {i : Nat} (hi : i < a.f.lay.slots.length) : slotC C i = ((a.f.base + i, a.f.lay.slots[i]), 0) := by
  have e : C.F = a.f :: post.map (·.f) := h.fs
  unfold slotC
  rw [e]
  simp only
  rw [if_pos (by simp [rangeB]; omega)]
  simp [List.getElem?_eq_getElem hi]
theorem Rep.slotC_out (h : Rep sz ca C (a :: post)) {i : Int} (hi : ¬ (0 ≤ i ∧ i < a.f.lay.slots.length)) : slotC C i = ((0, 0), 250) := by
  have e : C.F = a.f :: post.map (·.f) := h.fs
  unfold slotC
  rw [e]
  simp only
  rw [if_neg (by simp [rangeB]; omega)]
theorem Rep.store (h : Rep sz ca C (a :: post)) {i : Nat} (hi : i < a.f.lay.slots.length) {v : Int × Int} (h1 : v.1 = a.f.lay.slots[i]) (h2 : okV v.1 v.2 = true) : (storeC C i v).1 = 0 ∧ (storeC C i v).2.L = C.L ∧ Rep sz ca (storeC C i v).2 (a.setSlot i v :: post) := by
  obtain ⟨p1, p2⟩ := Rep.setSlot (pre := []) h hi h1 h2
  have e : storeC C i v = ((C.S.put (a.f.base + i) v).1, ⟨(C.S.put (a.f.base + i) v).2, C.L, C.F⟩) := by
    unfold storeC
    rw [h.slotC_in hi]
    simp only [↓reduceIte]
    rw [if_pos ⟨h1, h2⟩]
  rw [e]
  exact ⟨p1, rfl, p2⟩
theorem Rep.store_no (h : Rep sz ca C (a :: post)) {i : Int} {v : Int × Int} (hno : ¬ ∃ (j : Nat) (hj : j < a.f.lay.slots.length), i = j ∧ v.1 = a.f.lay.slots[j] ∧ okV v.1 v.2 = true) : storeC C i v = (250, C) := by
  unfold storeC
  by_cases hi : 0 ≤ i ∧ i < a.f.lay.slots.length
  · obtain ⟨j, rfl⟩ := Int.eq_ofNat_of_zero_le hi.1
    have hj : j < a.f.lay.slots.length := by omega
    rw [h.slotC_in hj]
    simp only [↓reduceIte]
    rw [if_neg (fun q => hno ⟨j, hj, rfl, q.1, q.2⟩)]
  · rw [h.slotC_out hi]
    rfl
theorem Rep.addr (h : Rep sz ca C (a :: post)) {i : Nat} (hi : i < a.f.lay.slots.length) (ht : a.f.lay.slots[i] = 1) : addrC C i = ((4, a.f.base + i), 0) := by
  unfold addrC
  rw [h.slotC_in hi]
  simp [ht]
theorem Rep.addr_no (h : Rep sz ca C (a :: post)) {i : Int} (hno : ¬ ∃ (j : Nat) (hj : j < a.f.lay.slots.length), i = j ∧ a.f.lay.slots[j] = 1) : (addrC C i).2 = 250 := by
  unfold addrC
  by_cases hi : 0 ≤ i ∧ i < a.f.lay.slots.length
  · obtain ⟨j, rfl⟩ := Int.eq_ofNat_of_zero_le hi.1
    have hj : j < a.f.lay.slots.length := by omega
    rw [h.slotC_in hj]
    simp only [↓reduceIte]
    rw [if_neg (fun q => hno ⟨j, hj, rfl, q⟩)]
  · rw [h.slotC_out hi]
    rfl
/-- what is pointed to, in a frame of whatever depth -/
theorem Rep.getP (h : Rep sz ca C A) (ha : a ∈ A) {i : Nat} (hi : i < a.f.lay.slots.length) (ht : a.f.lay.slots[i] = 1) : ∃ hs : i < a.slots.length, getC C (4, a.f.base + i) = (a.slots[i], 0) := by
  have hok := h.core.each a ha
  obtain ⟨hs, h1, -⟩ := hok.slot hi
  refine ⟨hs, ?_⟩
  have hne : C.F ≠ [] := by
    rw [h.fs]
    intro q
    rw [List.map_eq_nil_iff] at q
    rw [q] at ha
    cases ha
  obtain ⟨f, fs, e⟩ := ne_cons hne
  have htl := hok.top_le
  obtain ⟨s0, s1⟩ := h.core.in_seg ha (x := a.f.base + i) (by omega) (by have := a.words_len; unfold Af.top at htl; omega)
  unfold getC
  rw [e]
  simp only
  rw [get_full (h.core.slot ha hs)]
  rw [if_pos ⟨trivial, List.any_eq_true.2 ⟨a.seg, h.core.live a ha, by simp; omega⟩, rfl, by rw [h1, ht]⟩]
theorem Rep.putP (h : Rep sz ca C (pre ++ a :: post)) {i : Nat} (hi : i < a.f.lay.slots.length) (ht : a.f.lay.slots[i] = 1) (n : Int) : (putC C (4, a.f.base + i) (1, n)).1 = 0 ∧ (putC C (4, a.f.base + i) (1, n)).2.L = C.L ∧ Rep sz ca (putC C (4, a.f.base + i) (1, n)).2 (pre ++ a.setSlot i (1, n) :: post) := by
  obtain ⟨hs, hg⟩ := h.getP (a := a) (by simp) hi ht
  obtain ⟨p1, p2⟩ := h.setSlot hi (v := (1, n)) (by rw [ht]) (by simp [okV, knownB])
  have e : putC C (4, a.f.base + i) (1, n) = ((C.S.put (a.f.base + i) (1, n)).1, ⟨(C.S.put (a.f.base + i) (1, n)).2, C.L, C.F⟩) := by
    unfold putC
    rw [hg]
    simp
  rw [e]
  exact ⟨p1, rfl, p2⟩
theorem Rep.res (h : Rep sz ca C (a :: post)) : (resC C).2 = 0 ∧ (resC C).1.getD [] = (a.slots.drop a.f.lay.args.toNat).take a.f.lay.res.toNat := by
  have hok := h.core.each a List.mem_cons_self
  obtain ⟨-, hn, a0, a1, r0, r1, h5, h6⟩ := (layOk_iff a.f.lay).1 hok.lay
  obtain ⟨k, hk⟩ := Int.eq_ofNat_of_zero_le a0
  obtain ⟨m, hm⟩ := Int.eq_ofNat_of_zero_le r0
  have e : C.F = a.f :: post.map (·.f) := h.fs
  have hsl := hok.len
  have hlen : ((a.slots.drop k).take m).length = m := by simp; omega
  have htl := hok.top_le
  have hwl := a.words_len
  have hseg := h.core.in_seg List.mem_cons_self (a := a) (x := a.f.base) (Int.le_refl _) (by have := a.lt_top; omega)
  have hhi := hok.hi
  have hwd : a.f.lay.words = a.f.lay.slots.length + a.f.lay.height + 1 := rfl
  have := run_ok h.core.inv h.core.ok (h.core.live a List.mem_cons_self) (x := a.f.base + a.f.lay.args) (vs := (a.slots.drop k).take m) (by omega) (by rw [hlen]; omega) (fun j v hv => by
    have hj := (List.getElem?_eq_some_iff.1 hv).1
    rw [hlen] at hj
    rw [List.getElem?_take_of_lt hj, List.getElem?_drop] at hv
    have := h.core.wd a List.mem_cons_self (k + j) v (by unfold Af.words; rw [List.getElem?_append_left (by omega)]; exact hv)
    rw [← this]
    congr 1
    push_cast
    omega)
  rw [hlen] at this
  unfold resC
  rw [e]
  simp only
  rw [hm, hk] at *
  rw [if_pos this.1]
  refine ⟨rfl, ?_⟩
  simp only [Int.toNat_natCast]
  exact this.2
theorem Rep.height (h : Rep sz ca C (a :: post)) : heightC C = a.ops.length := by
  have e : C.F = a.f :: post.map (·.f) := h.fs
  unfold heightC
  rw [e]
  exact (h.core.each a List.mem_cons_self).n
theorem Rep.link (h : Rep sz ca C A) (ha : a ∈ A) : C.S.get a.f.link = ((1, a.link), 0) := by
  have hok := h.core.each a ha
  have := h.core.wd a ha a.slots.length (1, a.link) (by simp [Af.words])
  rw [hok.len] at this
  exact get_full this
theorem Rep.place (h : Rep sz ca C (a :: post)) : placeC C = ((Int.tdiv a.link 128, Int.tmod a.link 128), 0) := by
  have e : C.F = a.f :: post.map (·.f) := h.fs
  unfold placeC
  rw [e]
  simp only
  rw [h.link List.mem_cons_self]
end
end Go.Proofs.YtpfnnmcokbolhaaGreat
/- A chain's frames that begin and go: segments. -/
namespace Go.Proofs.YtpfnnmcokbolhaaGreat
open Go.RowKit
/-- what a chain may be after n frames that began -/
structure Few (n : Nat) (S : Sp) (L : Lk) : Prop where
  cnt : L.live.length + L.kept.length ≤ n + 1
  wd : ∀ r ∈ L.live ++ L.kept, r.2 ≤ 2000
  last : S.last ≤ 2002 * ((n : Int) + 1)
theorem sum_le {l : List Nat} {m : Nat} (h : ∀ x ∈ l, x ≤ m) : l.sum ≤ m * l.length := by
  induction l with
  | nil => simp
  | cons a l ih =>
    have h1 := h a List.mem_cons_self
    have h2 := ih (fun x hx => h x (List.mem_cons_of_mem _ hx))
    simp only [List.sum_cons, List.length_cons, Nat.mul_add, Nat.mul_one]
    omega
theorem take_spok {S : Sp} (ok : Spok S) {m : Int} (hl : S.last ≤ 1152921504606846976) : Spok (S.take m).2 := by
  obtain ⟨ls, hr, ok⟩ := ok
  unfold Sp.take
  split
  · exact ⟨ls, hr, ok⟩
  · rename_i q
    obtain ⟨k, hk⟩ := Int.eq_ofNat_of_zero_le (show 0 ≤ m by omega)
    subst hk
    have hnb : S.last ≤ nextBase S.last - 1 ∧ 1 ≤ nextBase S.last ∧ nextBase S.last ≤ S.last + 2 ∧ (ls = [] ∨ S.last + 1 < nextBase S.last) := by
      have h0 := ok.last0
      unfold nextBase
      split
      · rename_i e
        refine ⟨by omega, by omega, by omega, .inl ?_⟩
        cases ls with
        | nil => rfl
        | cons r ls => have := ok.lo r List.mem_cons_self; omega
      · exact ⟨by omega, by omega, by omega, .inr (by omega)⟩
    have ht : total S.regs = (ls.map (·.words.length)).sum := by rw [hr, total_map]; rfl
    rw [ht] at q
    refine ⟨ls ++ [⟨nextBase S.last, 0, 0, List.replicate k (0, 0)⟩], by simp [hr, LReg.reg], ⟨fun r hr => ?_, ?_, ?_, ?_, ?_⟩⟩
    · rcases List.mem_append.1 hr with q1 | q1
      · have := ok.lo r q1
        show _ ∧ _ ∧ _ ∧ _ ≤ nextBase S.last + (k : Int) - 1 + 1
        omega
      · obtain rfl : r = _ := by simpa using q1
        simp
        omega
    · rw [List.pairwise_append]
      refine ⟨ok.sep, by simp, fun a ha b hb => ?_⟩
      obtain rfl : b = _ := by simpa using hb
      have := ok.lo a ha
      rcases hnb.2.2.2 with rfl | q2
      · cases ha
      · show _ < nextBase S.last
        omega
    · show 0 ≤ nextBase S.last + (k : Int) - 1
      omega
    · show nextBase S.last + (k : Int) - 1 ≤ _
      omega
    · simp
      omega
section
variable {sz ca : Int} {S S' : Sp} {L L' : Lk} {A rs9 : List Af} {a : Af} {n : Nat}
theorem SInv.tot (h : SInv S L sz ca) (hs : Few n S L) : total S.regs ≤ 2000 * (n + 1) := by
  have h1 : total S.regs ≤ 2000 * (S.regs.map (fun r => r.words.length)).length := by
    refine sum_le fun x hx => ?_
    obtain ⟨g, hg, rfl⟩ := List.mem_map.1 hx
    have : (g.base, (g.words.length : Int)) ∈ L.live ++ L.kept := h.perm.subset (List.mem_map.2 ⟨g, hg, rfl⟩)
    have := hs.wd _ this
    simp only at this
    omega
  have h2 := h.len
  have h3 := hs.cnt
  simp only [List.length_map] at h1
  exact Nat.le_trans h1 (Nat.mul_le_mul_left _ (by omega))
theorem full_kept (h : SInv S L sz ca) (ok : Spok S) {r : Int × Int} (hr : r ∈ L.kept) {x : Int} (h0 : r.1 ≤ x) (h1 : x < r.1 + r.2) : full S x = none := by
  obtain ⟨j, hj⟩ := Int.eq_ofNat_of_zero_le (show 0 ≤ x - r.1 by omega)
  have := h.empty ok hr (j := j) (by omega)
  rw [show r.1 + (j : Int) = x by omega] at this
  cases hf : full S x with
  | none => rfl
  | some v =>
    rw [get_full hf] at this
    cases this
/-- a segment is pushed -/
theorem Core.pushL (h : Core sz ca S L A) (hs : Few n S L) (hn : n ≤ 300) (hsz : sz ≤ 2000) {m : Int} (hm1 : 1 ≤ m) (hm2 : m ≤ 2000) :
    ∃ r : Int × Int, (pushL S L sz m).1 = (r, 0) ∧ (pushL S L sz m).2.2.live = L.live ++ [r] ∧ m ≤ r.2 ∧ Core sz ca (pushL S L sz m).2.1 (pushL S L sz m).2.2 A ∧ (∀ a ∈ A, a.seg ≠ r) ∧ Few (n + 1) (pushL S L sz m).2.1 (pushL S L sz m).2.2 := by
  have key : ∀ (r : Int × Int) (S' : Sp) (L' : Lk), Spok S' → SInv S' L' sz ca → L'.live = L.live ++ [r] → (∀ y, full S' y = full S y) → (∀ x, r.1 ≤ x → x < r.1 + r.2 → full S x = none) → Core sz ca S' L' A ∧ (∀ a ∈ A, a.seg ≠ r) := by
    intro r S' L' ok' inv' hl hf hz
    have hap := inv'.apart ok'
    rw [hl, List.append_assoc] at hap
    have hne : ∀ a ∈ A, a.seg ≠ r := by
      intro a ha e
      have h1 := (List.pairwise_append.1 hap).2.2 _ (h.live a ha) r (by simp)
      have h2 := (inv'.of ok' (x := r) (by rw [hl]; simp)).2.1
      rw [e] at h1
      unfold Apart at h1
      omega
    refine ⟨⟨ok', inv', h.each, fun a ha => by rw [hl]; exact List.mem_append.2 (.inl (h.live a ha)), h.apart, fun a ha j v hv => by rw [hf]; exact h.wd a ha j v hv, fun q hq x x0 x1 hno => ?_⟩, hne⟩
    rw [hf]
    rw [hl] at hq
    rcases List.mem_append.1 hq with q1 | q1
    · exact h.no q q1 x x0 x1 hno
    · obtain rfl : q = r := by simpa using q1
      exact hz x x0 x1
  unfold Go.Proofs.YtpfnnmcokbolhaaGreat.pushL
  rw [if_neg (by omega)]
  split
  · rename_i i hf
    obtain ⟨hi, hw⟩ := fit_spec hf
    rw [List.getElem?_eq_getElem hi]
    simp only [Option.getD_some]
    have hk := List.getElem_mem hi
    obtain ⟨k1, k2⟩ := key L.kept[i] S ⟨L.live ++ [L.kept[i]], L.kept.eraseIdx i⟩ h.ok (h.inv.fit (List.getElem?_eq_getElem hi)) rfl (fun _ => rfl) (fun x x0 x1 => full_kept h.inv h.ok hk x0 x1)
    refine ⟨L.kept[i], rfl, rfl, hw, k1, k2, ?_, fun q hq => ?_, ?_⟩
    · have := hs.cnt
      simp [List.length_eraseIdx, hi]
      omega
    · refine hs.wd q ?_
      simp only [List.mem_append, List.mem_singleton] at hq ⊢
      rcases hq with (q1 | q1) | q1
      · exact .inl q1
      · rw [q1]; exact .inr hk
      · exact .inr (List.mem_of_mem_eraseIdx q1)
    · have := hs.last; push_cast; omega
  · have htot := h.inv.tot hs
    have hlast := hs.last
    have e : S.take (max sz m) = ((nextBase S.last, 0), ⟨S.regs ++ [⟨nextBase S.last, List.replicate (max sz m).toNat (0, 0)⟩], nextBase S.last + max sz m - 1⟩) := by
      unfold Sp.take
      rw [if_neg (by omega)]
    have ht0 : (S.take (max sz m)).1.2 = 0 := by rw [e]
    rw [if_pos ht0]
    have ok' : Spok (S.take (max sz m)).2 := take_spok h.ok (by omega)
    have hl0 := h.ok.last0
    have hnb : (S.take (max sz m)).1.1 = nextBase S.last := by rw [e]
    rcases h.inv.take (n := max sz m) (by omega) ht0 with ⟨i1, i2⟩ | i1
    · have hz : ∀ x, (S.take (max sz m)).1.1 ≤ x → full S x = none := by
        intro x hx
        cases hf : full S x with
        | none => rfl
        | some v =>
          exfalso
          obtain ⟨-, i, j, hi, hj, ha, -⟩ := (full_iff h.ok).1 hf
          obtain ⟨ls, hr, okl⟩ := h.ok
          have hi' : i < ls.length := by rw [hr] at hi; simpa using hi
          have hri : S.regs[i] = ls[i].reg := by simp [hr]
          rw [hri] at ha
          have hj2 : j < ls[i].words.length := by rw [hri] at hj; exact hj
          have := okl.lo _ (List.getElem_mem hi')
          simp only [LReg.reg] at ha
          rw [hnb] at hx
          unfold nextBase at hx
          split at hx <;> omega
      obtain ⟨k1, k2⟩ := key ((S.take (max sz m)).1.1, max sz m) _ _ ok' i1 rfl (fun y => full_take h.ok _ ok' y) (fun x x0 _ => hz x x0)
      refine ⟨((S.take (max sz m)).1.1, max sz m), rfl, rfl, by show m ≤ max sz m; omega, k1, k2, ?_, fun q hq => ?_, ?_⟩
      · have := hs.cnt
        simp
        omega
      · simp only [List.mem_append, List.mem_singleton] at hq
        rcases hq with (q1 | q1) | q1
        · exact hs.wd q (List.mem_append.2 (.inl q1))
        · rw [q1]; show max sz m ≤ 2000; omega
        · exact hs.wd q (List.mem_append.2 (.inr q1))
      · push_cast
        omega
    · omega
theorem Geo.mem : ∀ {A : List Af} {l : List (Int × Int)}, Geo A l → ∀ a ∈ A, a.seg ∈ l
  | [], _, _, a, ha => by cases ha
  | b :: A, l, h, a, ha => by
    obtain ⟨rs, e, q1, q2⟩ := h
    rcases List.mem_cons.1 ha with rfl | ha
    · rw [e]; exact List.mem_cons_self
    · cases ho : b.f.own
      · exact Geo.mem (q2 ho).1 a ha
      · rw [e]; exact List.mem_cons_of_mem _ (Geo.mem (q1 ho).2.2 a ha)
/-- a segment that nobody has goes -/
theorem Core.popL (h : Core sz ca S L A) {l0 : List (Int × Int)} {r : Int × Int} (hl : L.live = l0 ++ [r]) (hno : ∀ a ∈ A, a.seg ∈ l0) : Core sz ca (popL S L ca).2.1 (popL S L ca).2.2 A ∧ (popL S L ca).2.2.live = l0 := by
  have hrm : r ∈ L.live := by rw [hl]; simp
  have hap := (List.pairwise_append.1 (h.inv.apart h.ok)).1
  rw [hl] at hap
  have hap2 : ∀ q ∈ l0, Apart q r := fun q hq => (List.pairwise_append.1 hap).2.2 q hq r (by simp)
  have hz : ∀ x, r.1 ≤ x → x < r.1 + r.2 → full S x = none := by
    intro x x0 x1
    refine h.no r hrm x x0 x1 (fun a ha e hx => ?_)
    have h1 := hap2 _ (hno a ha)
    have h2 := (h.inv.of h.ok (x := r) (List.mem_append.2 (.inl hrm))).2.1
    rw [e] at h1
    unfold Apart at h1
    omega
  have hlast : L.live.getLast? = some r := by rw [hl]; simp
  have hdl : L.live.dropLast = l0 := by rw [hl]; simp
  have key : ∀ S' K', Spok S' → SInv S' ⟨L.live.dropLast, K'⟩ sz ca → (∀ y, full S' y = full S y) → Core sz ca S' ⟨L.live.dropLast, K'⟩ A := by
    intro S' K' ok' inv' hf
    refine ⟨ok', inv', h.each, fun a ha => by rw [hdl]; exact hno a ha, h.apart, fun a ha j v hv => by rw [hf]; exact h.wd a ha j v hv, fun q hq x x0 x1 hn => ?_⟩
    rw [hf]
    refine h.no q ?_ x x0 x1 hn
    have hq : q ∈ L.live.dropLast := hq
    rw [hdl] at hq
    rw [hl]
    exact List.mem_append.2 (.inl hq)
  unfold Go.Proofs.YtpfnnmcokbolhaaGreat.popL
  rw [hlast]
  simp only
  have hof := h.inv.of h.ok (x := r) (List.mem_append.2 (.inl hrm))
  split
  · rename_i hk
    obtain ⟨d1, d2, d3, d4⟩ := h.inv.drop_ok h.ok hrm (a := r.1) (m := r.2) (Int.le_refl _) (by omega) (by omega)
    refine ⟨key _ _ d2 (h.inv.popKeep h.ok hl hk) (fun y => ?_), hdl⟩
    rw [d4]
    split
    · rename_i q; exact (hz y q.1 q.2).symm
    · rfl
  · have ok' := let_spok h.ok r.1
    refine ⟨key _ _ ok' (h.inv.popLet h.ok hl) (fun y => ?_), hdl⟩
    by_cases he : (S.let_ r.1).1 = 0
    · obtain ⟨m, m1, m2, m3, m4, m5, m6⟩ := full_let (S' := (S.let_ r.1).2) h.ok (by rw [← he]) ok'
      rw [m6]
      rw [hof.2.2.2.2] at m5
      have : r.2 = (m : Int) := by simpa using congrArg (fun q => q.1.2) m5
      split
      · rename_i q; exact (hz y q.1 (by omega)).symm
      · rfl
    · rw [let_err he]
end
section
variable {sz ca : Int} {C : Ch} {A rs9 : List Af} {a : Af} {n : Nat}
/-- the top frame goes -/
theorem Rep.goes (h : Rep sz ca C (a :: rs9)) : Rep sz ca (goesC ca C) rs9 := by
  have ha := h.core.each a List.mem_cons_self
  have hF := h.top
  have hlo := ha.lo
  have hhi := ha.hi
  have hwd : a.f.lay.words = a.f.lay.slots.length + a.f.lay.height + 1 := rfl
  obtain ⟨-, -, -, -, -, -, h6, h7⟩ := (layOk_iff a.f.lay).1 ha.lay
  obtain ⟨d1, d2, d3, d4⟩ := h.core.inv.drop_ok h.core.ok (h.core.live a List.mem_cons_self) (a := a.f.base) (m := a.f.lay.words) (by omega) (by omega) (by omega)
  have hc := h.core.cut d2 d3 d4
  obtain ⟨rs, e, q1, q2⟩ := h.geo
  unfold goesC
  rw [hF]
  simp only
  cases ho : a.f.own
  · rw [if_neg (by decide)]
    exact ⟨rfl, hc, (q2 ho).1⟩
  · rw [if_pos rfl]
    obtain ⟨g1, g2, g3⟩ := q1 ho
    have hl : C.L.live = rs.reverse ++ [a.seg] := by
      have := congrArg List.reverse e
      simpa using this
    obtain ⟨c1, c2⟩ := hc.popL hl (fun b hb => List.mem_reverse.2 (g3.mem b hb))
    refine ⟨rfl, c1, ?_⟩
    show Geo rs9 (List.reverse (popL (C.S.drop a.f.base a.f.lay.words).2 C.L ca).2.2.live)
    rw [c2, List.reverse_reverse]
    exact g3
theorem goes_small (h : Few n C.S C.L) : Few n (goesC ca C).S (goesC ca C).L := by
  unfold goesC
  split
  · exact h
  · rename_i f fs hF
    split
    · obtain ⟨h1, h2, h3⟩ := popL_ok (S := (C.S.drop f.base f.lay.words).2) (L := C.L) (ca := ca)
      exact ⟨Nat.le_trans h2 h.cnt, fun r hr => h.wd r (h3 r hr), by rw [h1, drop_last]; exact h.last⟩
    · exact ⟨h.cnt, h.wd, by show (C.S.drop f.base f.lay.words).2.last ≤ _; rw [drop_last]; exact h.last⟩
end
end Go.Proofs.YtpfnnmcokbolhaaGreat
/- A chain's Return and Segments. -/
namespace Go.Proofs.YtpfnnmcokbolhaaGreat
open Go.RowKit
set_option pp.deepTerms true
theorem run_len (S : Sp) (a m : Int) : ((S.run a m).1.getD []).length ≤ m.toNat := by
  unfold Sp.run
  split
  · simp
  · split
    · simp
    · split
      · split
        · simp
        · simp [seg]; omega
      · simp
theorem resC_len {C : Ch} (ok : ChOk C) : ((resC C).1.getD []).length ≤ 64 := by
  unfold resC
  split
  · simp
  · rename_i f fs hF
    obtain ⟨-, hn, a0, a1, r0, r1, h5, h6⟩ := (layOk_iff f.lay).1 (ok.fr f (by rw [hF]; simp)).lay
    split
    · exact Nat.le_trans (run_len C.S (f.base + f.lay.args) f.lay.res) (by omega)
    · simp
section
variable {w W : World} {F : List Asr} {b p k : Nat} {sz ca : Int} {C : Ch}
theorem chP_in {A : Asr} (h : Sep w (A :: chP b p k sz ca C F) W) : Sep w (chP b p k sz ca C (A :: F)) W := Sep.rot [_] [_, _, _] h
theorem chP_lose {A : Asr} (h : Sep w (chP b p k sz ca C (A :: F)) W) : Sep w (chP b p k sz ca C F) W := Sep.lose 3 h
set_option maxRecDepth 100000 in
set_option maxHeartbeats 2000000 in
/-- the loop over what comes back -/
theorem cret_any (h : Sep w (chP b p k sz ca C F) W) (ok : ChOk C) : Calls Tryz.prog 26 #[.pointer (some ⟨b, 0, none⟩)] W fun e w' => Sep w (chP b p k sz ca (retC ca C).2 F) w' ∧ e = .returned (.int .i64 (retC ca C).1) := by
  have HR := Hid.mk (cresults_any h ok)
  have hlen := resC_len ok
  have hfew := ok.few
  obtain ⟨vs, hvs⟩ : ∃ vs, (resC C).1.getD [] = vs := ⟨_, rfl⟩
  obtain ⟨er, her⟩ : ∃ er, (resC C).2 = er := ⟨_, rfl⟩
  rw [hvs] at HR hlen
  rw [her] at HR
  obtain ⟨⟨r, C'⟩, hr⟩ : ∃ r, retC ca C = r := ⟨_, rfl⟩
  rw [hr]
  unfold retC at hr
  rw [hvs, her] at hr
  obtain ⟨n, hn⟩ : ∃ n, vs.length = n := ⟨_, rfl⟩
  have HNV := Hid.mk hn
  by_cases q0 : er = 0
  · subst q0
    rw [if_pos rfl] at hr
    cases hF : C.F with
    | nil =>
      exfalso
      have : (resC C).2 = 250 := by unfold resC; rw [hF]
      omega
    | cons f fs =>
      cases fs with
      | nil =>
        rw [hF] at hr
        simp only [Prod.mk.injEq] at hr
        obtain ⟨rfl, rfl⟩ := hr
        have hFF := Hid.mk hF
        clear h hF hvs her ok hn
        go_enter Tryz.func26, Tryz.ntmps26
        go_wp2_with fail
        refine HR.out.mono ?_
        rintro e w1 ⟨v, h1, -, rfl⟩
        obtain ⟨ao2, c2, rfl⟩ := own_shape (h1.owns (base := 0) (T := 34) (n := 2) (v := v) (m := vs.length) (xs := wcells vs) (by simp [vrow]))
        obtain ⟨k0, k1, ao, c, k2⟩ := ch_k0 (show Sep w (chA b p k C.F :: spA p C.S :: lkA k p sz ca C.L :: F) w1 from h1.tl)
        rw [hFF.out] at k2
        simp only [List.length_cons, List.length_nil, Nat.zero_add] at k2
        have H1 := Hid.mk h1.tl
        clear HR h1
        go_wp2_with fail
        go_ret
        exact ⟨H1.out, rfl⟩
      | cons g fs =>
        rw [hF] at hr
        simp only at hr
        have hg := ok.fr g (by rw [hF]; simp)
        obtain ⟨-, hny, -, -, -, -, h5, h6⟩ := (layOk_iff g.lay).1 hg.lay
        have n0 := hg.n0
        have n1 := hg.n1
        rw [hn] at hr hlen
        have hFF := Hid.mk hF
        have HO := Hid.mk ok
        clear h hvs her ok hF hg
        go_enter Tryz.func26, Tryz.ntmps26
        go_wp2_with fail
        refine HR.out.mono ?_
        rintro e w1 ⟨v, h1, -, rfl⟩
        obtain ⟨av, cv, rfl⟩ := own_shape (h1.owns (base := 0) (T := 34) (n := 2) (v := v) (m := vs.length) (xs := wcells vs) (by simp [vrow]))
        rw [hn] at h1 ⊢
        have h2 := chP_in h1
        obtain ⟨g', c, x, l, q1, q2, q3, hT⟩ := chP_cons h2 hFF.out
        match l, q3 with
        | y :: l, q3 =>
        simp only [List.map_cons, List.cons.injEq] at q3
        obtain ⟨q3, q4⟩ := q3
        subst q3
        have k0 := hT.k0
        have k2 := hT.k2
        have e0 := hT.fr2.c0
        obtain ⟨ay, cy, hy⟩ := hT.fr2.slots.shape
        rw [hy] at e0
        have e1 := hT.fr2.c1
        have e2 := hT.fr2.c2
        have e3 := hT.fr2.c3
        have e4 := hT.fr2.c4
        have e5 := hT.fr2.c5
        have e6 := hT.fr2.c6
        obtain ⟨m, hm⟩ : ∃ m, l.length = m := ⟨_, rfl⟩
        rw [List.length_cons, hm] at k2
        rw [hm] at e0 e1 e2 e3 e4 e5 e6
        have hmm : m ≤ 1000 := by rw [hFF.out] at hfew; simp only [List.length_cons] at hfew; rw [← q4] at hfew; simp at hfew; omega
        obtain ⟨ny, hny'⟩ : ∃ ny, y.2.lay.slots.length = ny := ⟨_, rfl⟩
        rw [hny'] at e0
        have u1 : IntKind.i64.wrap (((m + 1 + 1 : Nat) : Int) - 2) = (m : Int) := by rw [IntKind.wrap_i64]; omega
        have u2 : IntKind.i64.wrap ((m : Int) + 1 + 1 - 2) = (m : Int) := by rw [IntKind.wrap_i64]; omega
        have u3 : IntKind.i64.wrap (m : Int) = (m : Int) := by rw [IntKind.wrap_i64]; omega
        have u4 : (m : Int) + 1 + 1 - 2 = (m : Int) := by omega
        have z1 : decide ((((m + 1 + 1 : Nat) : Int)) < 2) = false := by simp; omega
        have z2 : decide ((m : Int) + 1 + 1 < 2) = false := by simp; omega
        have l1 : m < m + 1 + 1 := by omega
        have l2 : (m : Int) < (m : Int) + 1 + 1 := by omega
        have H2 := Hid.mk h2
        clear HR h1 h2 hT q1 q4 hny' hy hm
        go_wp2_with fail
        go_region_held3 (fun X => X.cell? ⟨b, 2, none⟩ = some (.slice (some ⟨g', 0, none⟩) (m + 1 + 1 : Nat) c) ∧ X.cell? ⟨g', m * 7, none⟩ = some (.slice ay ny cy) ∧ X.cell? ⟨g', m * 7 + 1, none⟩ = some (.int .i64 y.2.lay.args) ∧ X.cell? ⟨g', m * 7 + 2, none⟩ = some (.int .i64 y.2.lay.res) ∧ X.cell? ⟨g', m * 7 + 3, none⟩ = some (.int .i64 y.2.lay.height) ∧ X.cell? ⟨g', m * 7 + 4, none⟩ = some (.int .i64 y.2.base) ∧ X.cell? ⟨g', m * 7 + 5, none⟩ = some (.int .i64 y.2.ops) ∧ X.cell? ⟨g', m * 7 + 6, none⟩ = some (.bool y.2.own)) (first | exact ⟨k2, e0, e1, e2, e3, e4, e5, e6⟩ | exact ⟨alloc_cell k2, alloc_cell e0, alloc_cell e1, alloc_cell e2, alloc_cell e3, alloc_cell e4, alloc_cell e5, alloc_cell e6⟩) (first | fail)
        have h3 := chP_in (H2.out.alloc (.cells #[.slice ay ny cy, .int .i64 y.2.lay.args, .int .i64 y.2.lay.res, .int .i64 y.2.lay.height, .int .i64 y.2.base, .int .i64 y.2.ops, .bool y.2.own] 91 (0, 0))).drew
        have B3 := h3.at (b := w1.heap.size) (o := (.cells #[.slice ay ny cy, .int .i64 y.2.lay.args, .int .i64 y.2.lay.res, .int .i64 y.2.lay.height, .int .i64 y.2.base, .int .i64 y.2.ops, .bool y.2.own] 91 (0, 0))) (by simp [chP])
        have g3 : (w1.alloc (.cells #[.slice ay ny cy, .int .i64 y.2.lay.args, .int .i64 y.2.lay.res, .int .i64 y.2.lay.height, .int .i64 y.2.base, .int .i64 y.2.ops, .bool y.2.own] 91 (0, 0))).drew.cell? ⟨w1.heap.size, 3, none⟩ = some (.int .i64 y.2.lay.height) := by rw [cell_of_row _ _ 3 _ _ _ B3]; rfl
        have g5 : (w1.alloc (.cells #[.slice ay ny cy, .int .i64 y.2.lay.args, .int .i64 y.2.lay.res, .int .i64 y.2.lay.height, .int .i64 y.2.base, .int .i64 y.2.ops, .bool y.2.own] 91 (0, 0))).drew.cell? ⟨w1.heap.size, 5, none⟩ = some (.int .i64 y.2.ops) := by rw [cell_of_row _ _ 5 _ _ _ B3]; rfl
        have H3 := Hid.mk h3
        obtain ⟨W2, hW2⟩ : ∃ W2, W2 = (w1.alloc (.cells #[.slice ay ny cy, .int .i64 y.2.lay.args, .int .i64 y.2.lay.res, .int .i64 y.2.lay.height, .int .i64 y.2.base, .int .i64 y.2.ops, .bool y.2.own] 91 (0, 0))).drew := ⟨_, rfl⟩
        rw [← hW2] at g3 g5 H3 ⊢
        clear h3 B3 hW2 H2 k0 k2 e0 e1 e2 e3 e4 e5 e6 z1 z2 l1 l2 u1 u2 u3 u4
        by_cases q : y.2.lay.height < y.2.ops + n
        · have z3 : decide (y.2.ops + (n : Int) > y.2.lay.height) = true := by simpa using q
          rw [if_pos q] at hr
          simp only [Prod.mk.injEq] at hr
          obtain ⟨rfl, rfl⟩ := hr
          have HE := Hid.mk (chP_lose (chP_lose H3.out))
          clear q H3
          go_wp2_with fail
          go_ret
          exact ⟨HE.out, rfl⟩
        · have z3 : decide (y.2.ops + (n : Int) > y.2.lay.height) = false := by simpa using q
          rw [if_neg q] at hr
          simp only [Prod.mk.injEq] at hr
          obtain ⟨rfl, rfl⟩ := hr
          have HG := Hid.mk (cgoes_P H3.out HO.out (by rw [hFF.out]; simp))
          clear q H3
          go_wp2_with fail
          refine HG.out.mono ?_
          rintro e w4 ⟨h4, u, rfl⟩
          have h4 := Sep.lose 3 h4
          have H4 := Hid.mk (show Sep w (chP b p k sz ca (goesC ca C) (vrow (.slice av n cv) vs :: F)) w4 from h4)
          clear HG h4 g3 g5
          rcases Nat.eq_zero_or_pos n with h0 | h0
          · subst h0
            have e0 : vs = [] := List.eq_nil_of_length_eq_zero hn
            have HE : Hid (Sep w (chP b p k sz ca (pushAll (goesC ca C) vs) F) w4) := by rw [e0]; exact chP_lose H4.out
            clear H4 e0
            go_wp2_with fail
            refine wp_loop_rounds 1 ?_; rw [rounds_succ]
            go_wp2_with fail
            go_ret
            exact ⟨HE.out, rfl⟩
          · have ho := Sep.owns (base := 0) (T := 34) (n := 2) (v := .slice av n cv) (m := vs.length) (xs := wcells vs) H4.out (by simp [chP, vrow])
            obtain ⟨vb, cc, hsh⟩ := row_shape ho (by omega)
            rw [hn] at hsh
            simp only [Value.slice.injEq, true_and] at hsh
            obtain ⟨rfl, rfl⟩ := hsh
            clear ho
            go_wp2_with fail
            go_loopw [7, 49] (fun _ i wr => ∃ j : Nat, i = .int .i64 j ∧ j ≤ n ∧ Hid (Sep w (chP b p k sz ca (pushAll (goesC ca C) (vs.take j)) (vrow (.slice (some ⟨vb, 0, none⟩) n cv) vs :: F)) wr)) (fun _ i _ => n - (intOf i).toNat)
            case atStart => exact ⟨0, rfl, by omega, H4.out⟩
            case round =>
              obtain ⟨j, rfl, hj, hs⟩ := hrel
              by_cases hlt : j < n
              · have hj' : j < vs.length := by have := HNV.out; omega
                obtain ⟨a, ha⟩ : ∃ a, vs[j].1 = a := ⟨_, rfl⟩
                obtain ⟨t, ht⟩ : ∃ t, vs[j].2 = t := ⟨_, rfl⟩
                have ho := Sep.owns (base := 0) (T := 34) (n := 2) (v := .slice (some ⟨vb, 0, none⟩) n cv) (m := vs.length) (xs := wcells vs) hs.out (by simp [chP, vrow])
                rw [HNV.out] at ho
                have c0 := row_cell ho (wcells_fst hj')
                have c1 := row_cell ho (wcells_snd hj')
                rw [ha] at c0
                rw [ht] at c1
                have HP := cpush_any (chP_in (hs.out.alloc (.cells #[.int .i64 a, .int .i64 t] 34))) (HO.out.goes.pushAll (vs.take j)) (a, t)
                have hpa : (pushC (pushAll (goesC ca C) (vs.take j)) (a, t)).2 = pushAll (goesC ca C) (vs.take (j + 1)) := by
                  rw [← pushAll_snoc, List.take_add_one, List.getElem?_eq_getElem hj', ← ha, ← ht]
                  rfl
                rw [hpa] at HP
                have HP := Hid.mk HP
                clear ho ha ht hpa hs H4
                go_wp2_with fail
                refine HP.out.mono ?_
                rintro e w5 ⟨h5, rfl⟩
                have H5 := Hid.mk (chP_lose h5)
                clear HP h5
                go_wp2_with fail
                exact ⟨⟨j + 1, by go_num, by omega, H5.out⟩, by simp [intOf]; omega⟩
              · obtain rfl : j = n := by omega
                have HE : Hid (Sep w (chP b p k sz ca (pushAll (goesC ca C) vs) F) wr) := by
                  have := chP_lose hs.out
                  rwa [List.take_of_length_le (by have := HNV.out; omega)] at this
                clear H4 hs
                go_wp2_with fail
                go_ret
                exact ⟨HE.out, rfl⟩
  · have z : (er != 0) = true := by simpa using q0
    rw [if_neg q0] at hr
    simp only [Prod.mk.injEq] at hr
    obtain ⟨rfl, rfl⟩ := hr
    clear h hvs her q0 ok hn
    go_enter Tryz.func26, Tryz.ntmps26
    go_wp2_with fail
    refine HR.out.mono ?_
    rintro e w1 ⟨v, h1, -, rfl⟩
    have H1 := Hid.mk h1.tl
    clear HR h1
    go_wp2_with fail
    go_ret
    exact ⟨H1.out, rfl⟩
set_option maxRecDepth 100000 in
theorem csegs_any (h : Sep w (chP b p k sz ca C F) W) (ok : ChOk C) : Calls Tryz.prog 14 #[.pointer (some ⟨b, 0, none⟩)] W fun e w' => ∃ ao c ak ck, Sep w (rw_ 0 101 2 (.slice ao C.L.live.length c) C.L.live.length (wcells C.L.live) :: rw_ 0 101 2 (.slice ak C.L.kept.length ck) C.L.kept.length (wcells C.L.kept) :: chP b p k sz ca C F) w' ∧ e = .returned (.tuple #[.slice ao C.L.live.length c, .slice ak C.L.kept.length ck]) := by
  obtain ⟨k0, k1, ao, c, k2⟩ := ch_k0 (show Sep w (chA b p k C.F :: spA p C.S :: lkA k p sz ca C.L :: F) W from h)
  have HN := Hid.mk (cnone_any k0)
  have HL : Hid (∀ {A : Asr} {W' : World}, Sep w (spA p C.S :: lkA k p sz ca C.L :: A :: F) W' → Calls Tryz.prog 38 #[.pointer (some ⟨k, 0, none⟩)] W' fun e w' => ∃ ao c, e = .returned (.slice ao C.L.live.length c) ∧ Sep w (rw_ 0 101 2 (.slice ao C.L.live.length c) C.L.live.length (wcells C.L.live) :: spA p C.S :: lkA k p sz ca C.L :: A :: F) w' ∧ Below W'.heap.size W' w') := fun {A W'} q => live_sep q ok.live
  have HK : Hid (∀ {A : Asr} {W' : World}, Sep w (spA p C.S :: lkA k p sz ca C.L :: A :: F) W' → Calls Tryz.prog 39 #[.pointer (some ⟨k, 0, none⟩)] W' fun e w' => ∃ ao c, e = .returned (.slice ao C.L.kept.length c) ∧ Sep w (rw_ 0 101 2 (.slice ao C.L.kept.length c) C.L.kept.length (wcells C.L.kept) :: spA p C.S :: lkA k p sz ca C.L :: A :: F) w' ∧ Below W'.heap.size W' w') := fun {A W'} q => kept_sep q ok.kept
  have HL2 : Hid (∀ {A B : Asr} {W' : World}, Sep w (spA p C.S :: lkA k p sz ca C.L :: A :: B :: F) W' → Calls Tryz.prog 38 #[.pointer (some ⟨k, 0, none⟩)] W' fun e w' => ∃ ao c, e = .returned (.slice ao C.L.live.length c) ∧ Sep w (rw_ 0 101 2 (.slice ao C.L.live.length c) C.L.live.length (wcells C.L.live) :: spA p C.S :: lkA k p sz ca C.L :: A :: B :: F) w' ∧ Below W'.heap.size W' w') := fun {A B W'} q => live_sep q ok.live
  have HK2 : Hid (∀ {A B : Asr} {W' : World}, Sep w (spA p C.S :: lkA k p sz ca C.L :: A :: B :: F) W' → Calls Tryz.prog 39 #[.pointer (some ⟨k, 0, none⟩)] W' fun e w' => ∃ ao c, e = .returned (.slice ao C.L.kept.length c) ∧ Sep w (rw_ 0 101 2 (.slice ao C.L.kept.length c) C.L.kept.length (wcells C.L.kept) :: spA p C.S :: lkA k p sz ca C.L :: A :: B :: F) w' ∧ Below W'.heap.size W' w') := fun {A B W'} q => kept_sep q ok.kept
  have H0 := Hid.mk h
  obtain ⟨n, hn⟩ : ∃ n, C.L.live.length = n := ⟨_, rfl⟩
  obtain ⟨m, hm⟩ : ∃ m, C.L.kept.length = m := ⟨_, rfl⟩
  rw [hn] at HL HL2 ⊢
  rw [hm] at HK HK2 ⊢
  clear h
  go_enter Tryz.func14, Tryz.ntmps14
  go_wp2_with fail
  refine HN.out.mono ?_
  rintro e w1 ⟨rfl, rfl⟩
  clear HN
  go_wp2_with fail
  go_region_held3 (fun X => X.cell? ⟨b, 1, none⟩ = some (.pointer (some ⟨k, 0, none⟩))) (first | exact s9 | exact s8 | exact k1) (first | (go_at_call 38; refine (HL.out (A := chA b p k C.F) (Sep.rot [_] [_, _] H0.out.drew)).mono ?_; rintro e w2 ⟨ao1, c1, rfl, h2, hb2⟩; have s8 := keep_dr hb2 k1) | (go_at_call 39; refine (HK.out (A := chA b p k C.F) (Sep.rot [_] [_, _] H0.out.drew)).mono ?_; rintro e w2 ⟨ao1, c1, rfl, h2, hb2⟩; have s8 := keep_dr hb2 k1) | (go_at_call 39; refine (HK2.out (Sep.rot [_] [_, _] h2)).mono ?_; rintro e w3 ⟨ao2, c2, rfl, h3, hb3⟩; have s9 := keep_be hb3 s8) | (go_at_call 38; refine (HL2.out (Sep.rot [_] [_, _] h2)).mono ?_; rintro e w3 ⟨ao2, c2, rfl, h3, hb3⟩; have s9 := keep_be hb3 s8))
  · have HE := Hid.mk (((((h3.pick 2 rfl).pick 2 rfl).pick 4 rfl).pick 3 rfl).pick 4 rfl)
    clear HL HL2 HK HK2 h2 h3 hb2 hb3 H0
    go_wp2_with fail
    go_ret2
    exact ⟨_, _, _, _, HE.out, rfl⟩
end
end Go.Proofs.YtpfnnmcokbolhaaGreat
