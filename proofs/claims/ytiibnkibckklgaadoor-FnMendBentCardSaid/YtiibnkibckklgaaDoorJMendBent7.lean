-- Joined texts of a claim (wip/tools/bundle.py).
import Derived.Test.YtiibnkibckklgaaDoorJMendBent6
namespace Go.Proofs.YtiibnkibckklgaaDoor.P
set_option linter.unusedVariables false
set_option linter.unusedSimpArgs false
open Go.RowKit Go.Proofs.YtiibnkibckklgaaDoorW.PrintWords
def RdB (s : List Int) : Prop := s.length ≤ 2000 ∧ ∀ x ∈ s, 0 ≤ x ∧ x ≤ 255
theorem RdB.bd {s : List Int} (h : RdB s) (i : Int) : 0 ≤ rd s i ∧ rd s i ≤ 255 := by
  unfold rd
  rw [List.getD_eq_getElem?_getD]
  by_cases hi : i.toNat < s.length
  · rw [List.getElem?_eq_getElem hi]; exact h.2 _ (List.getElem_mem hi)
  · rw [List.getElem?_eq_none (by omega)]; simp
theorem xor_nonneg {a b : Int} (ha : 0 ≤ a) (ha2 : a < 4611686018427387904) (hb : 0 ≤ b) (hb2 : b < 4611686018427387904) : 0 ≤ Go.bits .xor .i64 a b := by
  obtain ⟨m, rfl⟩ := Int.eq_ofNat_of_zero_le ha
  obtain ⟨n, rfl⟩ := Int.eq_ofNat_of_zero_le hb
  have hx : m ^^^ n < 2 ^ 62 := Nat.xor_lt_two_pow (by omega) (by omega)
  have h1 : (BitVec.ofInt 64 (m : Int)).toNat = m := by
    rw [BitVec.ofInt_natCast, BitVec.toNat_ofNat]; exact Nat.mod_eq_of_lt (by omega)
  have h2 : (BitVec.ofInt 64 (n : Int)).toNat = n := by
    rw [BitVec.ofInt_natCast, BitVec.toNat_ofNat]; exact Nat.mod_eq_of_lt (by omega)
  show 0 ≤ IntKind.i64.wrap ((BitVec.ofInt 64 (m : Int) ^^^ BitVec.ofInt 64 (n : Int)).toNat : Int)
  rw [BitVec.toNat_xor, h1, h2, IntKind.wrap_i64]
  omega
theorem tmod_bd {a n : Int} (ha : 0 ≤ a) (hn : 0 < n) : 0 ≤ Int.tmod a n ∧ Int.tmod a n < n := by
  rw [Int.tmod_eq_emod_of_nonneg ha]
  exact ⟨Int.emod_nonneg _ (by omega), Int.emod_lt_of_pos _ hn⟩
theorem tdiv_bd {a n : Int} (ha : 0 ≤ a) (hn : 0 < n) : 0 ≤ Int.tdiv a n ∧ Int.tdiv a n ≤ a := by
  rw [Int.tdiv_eq_ediv_of_nonneg ha]
  exact ⟨Int.ediv_nonneg ha (by omega), Int.ediv_le_self _ ha⟩
theorem spec_l17Rd_pick.tot {s : List Int} (hs : RdB s) {p n : Int} (h0 : 0 ≤ p) (h1 : p < 1000000000) (hn : 1 ≤ n) : Tot (fun k => spec_l17Rd_pick.f k s p n) (fun r => 0 ≤ r.1 ∧ r.1 < n ∧ r.2 = p + 1) := by
  unfold spec_l17Rd_pick.f
  refine Tot.neg (by omega) ?_
  refine Tot.step (fun k => by rw [spec_l17Rd_pick.j0]) ?_
  have e1 : wrap64 (p + 1) = p + 1 := w64 (by omega) (by omega)
  have e2 : wrap64 (p + 1 - 1) = p := by rw [show p + 1 - 1 = p by omega]; exact w64 (by omega) (by omega)
  rw [e1, e2]
  refine Tot.ite (fun _ => Tot.ret ⟨by simp, by simp only; omega, rfl⟩) (fun hne => ?_)
  have hl : 0 < (s.length : Int) := by
    rcases s with _ | ⟨a, s⟩
    · simp at hne
    · simp
  have hr := fun i => hs.bd i
  refine Tot.ite (fun h => Tot.pos h0 (Tot.neg (by omega) (Tot.ret ?_))) (fun h => ?_)
  · have := hr p
    rw [w64 (by omega) (by omega)]
    have := tmod_bd (a := rd s p) (n := n) (by omega) (by omega)
    exact ⟨this.1, this.2, rfl⟩
  · have hL := hs.1
    have b1 := tmod_bd (a := p) (n := s.length) h0 hl
    rw [w64 (x := p * 7) (by omega) (by omega), w64 (x := p * 7 + 3) (by omega) (by omega), w64 (x := p * 29) (by omega) (by omega)]
    have b2 := tmod_bd (a := p * 7 + 3) (n := s.length) (by omega) hl
    have b3 := tdiv_bd (a := p) (n := s.length) h0 hl
    have r1 := hr (Int.tmod p s.length)
    have r2 := hr (Int.tmod (p * 7 + 3) s.length)
    generalize Int.tmod p s.length = i at b1 r1 ⊢
    generalize Int.tmod (p * 7 + 3) s.length = j at b2 r2 ⊢
    generalize Int.tdiv p s.length = q at b3 ⊢
    refine Tot.neg (by omega) (Tot.pos b1.1 (Tot.pos b1.2 (Tot.pos b2.1 (Tot.pos b2.2 (Tot.neg (by omega) (Tot.ret ?_))))))
    generalize rd s i = u at r1 ⊢
    generalize rd s j = v at r2 ⊢
    rw [w64 (x := u) (by omega) (by omega), w64 (x := v) (by omega) (by omega), w64 (x := q) (by omega) (by omega), w64 (x := u * 131) (by omega) (by omega), w64 (x := v * 1117) (by omega) (by omega), w64 (x := q * 53) (by omega) (by omega),
      w64 (x := u * 131 + v * 1117) (by omega) (by omega), w64 (x := u * 131 + v * 1117 + p * 29) (by omega) (by omega), w64 (x := u * 131 + v * 1117 + p * 29 + q * 53) (by omega) (by omega)]
    have hx : 0 ≤ u * 131 + v * 1117 + p * 29 + q * 53 := by omega
    have hx2 : u * 131 + v * 1117 + p * 29 + q * 53 < 1000000000000 := by omega
    generalize u * 131 + v * 1117 + p * 29 + q * 53 = x at hx hx2 ⊢
    have b4 := tdiv_bd (a := x) (n := 64) hx (by omega)
    rw [w64 (x := Int.tdiv x 64) (by omega) (by omega)]
    have := tmod_bd (n := n) (xor_nonneg (a := x) (b := Int.tdiv x 64) hx (by omega) b4.1 (by omega)) (by omega)
    exact ⟨this.1, this.2, rfl⟩
theorem spec_l17Rd_of.tot {s : List Int} (hs : RdB s) {p : Int} (h0 : 0 ≤ p) (h1 : p < 1000000000) (l : List ByteArray) (hl : 1 ≤ l.length) : Tot (fun k => spec_l17Rd_of.f k s p l) (fun r => r.1 ∈ l ∧ r.2 = p + 1) := by
  unfold spec_l17Rd_of.f
  refine Tot.bind (spec_l17Rd_pick.tot hs h0 h1 (by omega)) fun r hr => ?_
  refine Tot.pos hr.1 (Tot.pos hr.2.1 (Tot.ret ⟨?_, hr.2.2⟩))
  unfold rdOf
  rw [List.getD_eq_getElem?_getD, List.getElem?_eq_getElem (by omega)]
  exact List.getElem_mem _
theorem spec_l17Rd_num.tot {s : List Int} (hs : RdB s) {p : Int} (h0 : 0 ≤ p) (h1 : p < 1000000000) (l : List Int) (hl : 1 ≤ l.length) : Tot (fun k => spec_l17Rd_num.f k s p l) (fun r => r.1 ∈ l ∧ r.2 = p + 1) := by
  unfold spec_l17Rd_num.f
  refine Tot.bind (spec_l17Rd_pick.tot hs h0 h1 (by omega)) fun r hr => ?_
  refine Tot.pos hr.1 (Tot.pos hr.2.1 (Tot.ret ⟨?_, hr.2.2⟩))
  unfold rd
  rw [List.getD_eq_getElem?_getD, List.getElem?_eq_getElem (by omega)]
  exact List.getElem_mem _
theorem spec_l1Signed.tot {s : List Int} (hs : RdB s) {p n : Int} (h0 : 0 ≤ p) (h1 : p < 100000000) (hn0 : 0 ≤ n) (hn : n ≤ 1000) :
    Tot (fun k => spec_l1Signed.f k s p n) (fun r => (r.1.size : Int) = n ∧ r.1.data.toList.all isSignB = true ∧ r.2 = p + n) := by
  have key : ∀ (d : Nat) (i q : Int) (t : ByteArray), i + d = n → 0 ≤ i → q = p + i → (t.size : Int) = i → t.data.toList.all isSignB = true →
      Tot (fun k => spec_l1Signed.l0 k n t i s q) (fun r => (r.1.size : Int) = n ∧ r.1.data.toList.all isSignB = true ∧ r.2 = p + n) := by
    intro d
    induction d with
    | zero =>
      intro i q t hi hi0 hq ht ha
      exact Tot.step (fun k => rfl) (Tot.neg (by omega) (Tot.ret ⟨by simp only; omega, ha, by simp only; omega⟩))
    | succ d ih =>
      intro i q t hi hi0 hq ht ha
      refine Tot.step (fun k => rfl) (Tot.pos (by omega) (Tot.bind (spec_l17Rd_of.tot hs (by omega) (by omega) _ (by decide)) fun r hr => ?_))
      have hz : r.1.size = 1 ∧ r.1.data.toList.all isSignB = true := by
        have := hr.1
        simp only [List.mem_cons, List.not_mem_nil, or_false] at this
        rcases this with h | h | h | h | h | h | h | h | h <;> rw [h] <;> decide
      refine Tot.pos (by omega) ?_
      rw [w64 (by omega) (by omega), hr.2]
      refine ih (i + 1) (q + 1) (t ++ r.1) (by omega) (by omega) (by omega) (by rw [ByteArray.size_append]; omega) ?_
      rw [ByteArray.data_append, Array.toList_append, List.all_append, ha, hz.2]; rfl
  exact key n.toNat 0 p ⟨#[]⟩ (by omega) (by omega) (by omega) rfl rfl
def Fine (x : RuleS) : Prop := oneBig x.f0 = true ∧ (x.f1.size : Int) ≤ 4 ∧ x.f1.data.toList.all isSignB = true
instance instFineDec : DecidablePred Fine := fun x => by unfold Fine; infer_instance
def FineG (g : ByteArray × List RuleS) : Prop := g.1 = ⟨#[65]⟩ ∧ g.2.length ≤ 8 ∧ (∀ x ∈ g.2, Fine x) ∧ g.2.Nodup
theorem spec_l1Base.tot (n : Int) : ∃ g, spec_l1Base.f n = some g ∧ FineG g := by
  unfold spec_l1Base.f
  repeat' split
  all_goals exact ⟨_, rfl, rfl, by decide, by decide, by decide⟩
theorem spec_l1Gram.tot {s : List Int} (hs : RdB s) {p : Int} (h0 : 0 ≤ p) (h1 : p < 10000000) :
    Tot (fun k => spec_l1Gram.f k s p) (fun r => FineG (r.1, r.2.1) ∧ p ≤ r.2.2 ∧ r.2.2 ≤ p + 100) := by
  have key : ∀ (d : Nat) (i q : Int) (l : List RuleS), i = d → d ≤ 5 → 0 ≤ q → q + 10 * d < 10001000 → l.length + d ≤ 5 → (∀ x ∈ l, Fine x) → l.Nodup →
      Tot (fun k => spec_l1Gram.l0 k i s q ⟨#[65]⟩ l) (fun r => FineG (r.1, r.2.1) ∧ q ≤ r.2.2 ∧ r.2.2 ≤ q + 10 * d) := by
    intro d
    induction d with
    | zero =>
      intro i q l hi hd hq0 hq hl hf hn
      exact Tot.step (fun k => rfl) (Tot.neg (by omega) (Tot.ret ⟨⟨rfl, by simp only; omega, hf, hn⟩, by simp only; omega, by simp only; omega⟩))
    | succ d ih =>
      intro i q l hi hd hq0 hq hl hf hn
      refine Tot.step (fun k => rfl) (Tot.pos (by omega) (Tot.bind (spec_l17Rd_of.tot hs (by omega) (by omega) _ (by decide)) fun a ha => ?_))
      refine Tot.bind (spec_l17Rd_num.tot hs (by omega) (by omega) _ (by decide)) fun b hb => ?_
      have hb2 : 0 ≤ b.1 ∧ b.1 ≤ 3 := by
        have := hb.1
        simp only [List.mem_cons, List.not_mem_nil, or_false] at this
        omega
      refine Tot.bind (spec_l1Signed.tot hs (by omega) (by omega) (by omega) (by omega)) fun c hc => ?_
      refine Tot.bind (spec_l1Place.tot l _ _ (by omega)) fun t ht => ?_
      have hx : Fine ⟨a.1, c.1⟩ := by
        refine ⟨?_, by simp only; omega, hc.2.1⟩
        have := ha.1
        simp only [List.mem_cons, List.not_mem_nil, or_false] at this
        simp only
        rcases this with h | h | h | h <;> rw [h] <;> decide
      rw [w64 (by omega) (by omega)]
      refine Tot.ite (fun h => Tot.pos (by omega) ?_) (fun h => ?_)
      · refine (ih (i - 1) c.2 _ (by omega) (by omega) (by omega) (by omega) (by simp; omega) ?_ ?_).mono fun r hr => ⟨hr.1, by omega, by omega⟩
        · intro x hm
          rcases List.mem_append.1 hm with hm | hm
          · exact hf x hm
          · rw [List.mem_singleton.1 hm]; exact hx
        · have hni : (⟨a.1, c.1⟩ : RuleS) ∉ l := fun hm => by have := ht.1.2 hm; omega
          rw [List.nodup_append]
          exact ⟨hn, by simp, fun x hx y hy => by rw [List.mem_singleton.1 hy]; rintro rfl; exact hni hx⟩
      · exact (ih (i - 1) c.2 l (by omega) (by omega) (by omega) (by omega) (by omega) hf hn).mono fun r hr => ⟨hr.1, by omega, by omega⟩
  unfold spec_l1Gram.f
  refine Tot.bind (spec_l17Rd_pick.tot hs h0 (by omega) (by omega)) fun a ha => ?_
  refine Tot.ite (fun h => ?_) (fun h => ?_)
  · refine Tot.bind (spec_l17Rd_num.tot hs (by omega) (by omega) _ (by decide)) fun b hb => ?_
    obtain ⟨g, hg, hfine⟩ := spec_l1Base.tot b.1
    rw [hg]
    exact Tot.ret ⟨hfine, by simp only; omega, by simp only; omega⟩
  · refine Tot.bind (spec_l17Rd_num.tot hs (by omega) (by omega) _ (by decide)) fun b hb => ?_
    have hb2 : 0 ≤ b.1 ∧ b.1 ≤ 5 := by
      have := hb.1
      simp only [List.mem_cons, List.not_mem_nil, or_false] at this
      omega
    refine (key b.1.toNat b.1 b.2 [] (by omega) (by omega) (by omega) (by omega) (by simp; omega) (by simp) (by simp)).mono fun r hr => ⟨hr.1, by omega, by omega⟩
def Meek (l : List RuleS) : Prop := l.length ≤ 9 ∧ ∀ x ∈ l, x.f0.size ≤ 5 ∧ x.f1.size ≤ 5
theorem FineG.meek {g : ByteArray × List RuleS} (h : FineG g) : Meek g.2 := by
  refine ⟨by have := h.2.1; omega, fun x hx => ?_⟩
  have hf := h.2.2.1 x hx
  refine ⟨?_, by have := hf.2.1; omega⟩
  rcases one_cases x.f0 with ⟨e, _⟩ | ⟨_, e⟩
  · omega
  · have := hf.1
    unfold oneBig at this
    split at this
    · exact absurd ‹_› (e _)
    · cases this
theorem Meek.small {l : List RuleS} (h : Meek l) : SmallG l := ⟨by have := h.1; omega, fun x hx => by have := h.2 x hx; omega⟩
theorem spec_l1Bent.tot {s : List Int} (hs : RdB s) {p : Int} (h0 : 0 ≤ p) (h1 : p < 10000000) (a : ByteArray) (ha : a.size ≤ 5) (l : List RuleS) (hl : Meek l) (hl8 : l.length ≤ 8) :
    Tot (fun k => spec_l1Bent.f k s p a l) (fun r => r.1.size ≤ 5 ∧ Meek r.2.1 ∧ p ≤ r.2.2 ∧ r.2.2 ≤ p + 100) := by
  have key : ∀ (d : Nat) (q : Int) (l : List RuleS), l.length + d = 9 → 0 ≤ q → q + 10 * d < 10001000 → Meek l →
      Tot (fun k => spec_l1Bent.l0 k s q a l) (fun r => r.1.size ≤ 5 ∧ Meek r.2.1 ∧ q ≤ r.2.2 ∧ r.2.2 ≤ q + 10 * d) := by
    intro d
    induction d with
    | zero =>
      intro q l hd hq0 hq hm
      exact Tot.step (fun k => rfl) (Tot.neg (by omega) (Tot.ret ⟨ha, hm, by simp only; omega, by simp only; omega⟩))
    | succ d ih =>
      intro q l hd hq0 hq hm
      refine Tot.step (fun k => rfl) (Tot.pos (by omega) (Tot.bind (spec_l1Signed.tot hs (by omega) (by omega) (by omega) (by omega)) fun c hc => Tot.pos (by omega) ?_))
      refine (ih c.2 _ (by simp; omega) (by omega) (by omega) ⟨by simp; omega, fun x hx => ?_⟩).mono fun r hr => ⟨hr.1, hr.2.1, by omega, by omega⟩
      rcases List.mem_append.1 hx with hx | hx
      · exact hm.2 x hx
      · rw [List.mem_singleton.1 hx]; simp only; exact ⟨by decide, by omega⟩
  unfold spec_l1Bent.f
  simp only [Option.bind_some, List.nil_append, List.length_nil, Nat.zero_add]
  have hlen := hl.1
  refine Tot.pos (by omega) (Tot.bind (spec_l17Rd_pick.tot hs h0 (by omega) (by omega)) fun b hb => ?_)
  have body : Tot (fun k => spec_l1Bent.j0 k (l.length : Int) ((l.length : Int) == 0) s b.2 a l) (fun r => r.1.size ≤ 5 ∧ Meek r.2.1 ∧ p ≤ r.2.2 ∧ r.2.2 ≤ p + 100) := by
    refine Tot.step (fun k => rfl) (Tot.ite (fun h => Tot.ret ⟨ha, hl, by simp only; omega, by simp only; omega⟩) (fun h => ?_))
    have hpos : 1 ≤ (l.length : Int) := by
      have : ¬ (l.length : Int) = 0 := by simpa using h
      omega
    refine Tot.bind (spec_l17Rd_pick.tot hs (by omega) (by omega) hpos) fun c hc => ?_
    refine Tot.bind (spec_l17Rd_pick.tot hs (by omega) (by omega) (by omega)) fun d hd => ?_
    have hmem : rd_T46 l c.1 ∈ l := by
      have := mem_rd l c.1.toNat (by omega)
      rwa [show ((c.1.toNat : Nat) : Int) = c.1 by omega] at this
    have hsz := hl.2 _ hmem
    refine Tot.ite (fun _ => ?_) (fun _ => Tot.ite (fun _ => ?_) (fun _ => Tot.ite (fun _ => ?_) (fun _ => Tot.ite (fun _ => ?_) (fun _ => ?_))))
    · refine Tot.bind (spec_l17Rd_of.tot hs (by omega) (by omega) _ (by decide)) fun e he => Tot.ret ⟨?_, hl, by simp only; omega, by simp only; omega⟩
      have := he.1
      simp only [List.mem_cons, List.not_mem_nil, or_false] at this
      simp only
      rcases this with h | h | h | h | h <;> rw [h] <;> decide
    · refine Tot.bind (spec_l17Rd_of.tot hs (by omega) (by omega) _ (by decide)) fun e he => Tot.pos hc.1 (Tot.pos hc.2.1 (Tot.ret ⟨ha, ⟨by simpa using hl.1, fun x hx => ?_⟩, by simp only; omega, by simp only; omega⟩))
      rcases List.mem_or_eq_of_mem_set hx with hx | hx
      · exact hl.2 x hx
      · have := he.1
        simp only [List.mem_cons, List.not_mem_nil, or_false] at this
        rw [hx]
        refine ⟨?_, hsz.2⟩
        simp only
        rcases this with h | h | h | h <;> rw [h] <;> decide
    · refine Tot.bind (spec_l17Rd_of.tot hs (by omega) (by omega) _ (by decide)) fun e he => Tot.pos hc.1 (Tot.pos hc.2.1 (Tot.ret ⟨ha, ⟨by simpa using hl.1, fun x hx => ?_⟩, by simp only; omega, by simp only; omega⟩))
      rcases List.mem_or_eq_of_mem_set hx with hx | hx
      · exact hl.2 x hx
      · have := he.1
        simp only [List.mem_cons, List.not_mem_nil, or_false] at this
        rw [hx]
        refine ⟨hsz.1, ?_⟩
        simp only
        rcases this with h | h | h | h | h <;> rw [h] <;> decide
    · refine Tot.pos hc.1 (Tot.pos hc.2.1 (Tot.pos (by omega) (Tot.ret ⟨ha, ⟨by simp; omega, fun x hx => ?_⟩, by simp only; omega, by simp only; omega⟩)))
      rcases List.mem_append.1 hx with hx | hx
      · exact hl.2 x hx
      · rw [List.mem_singleton.1 hx]; exact hsz
    · refine (key (9 - l.length) d.2 l (by omega) (by omega) (by omega) hl).mono fun r hr => ⟨hr.1, hr.2.1, by omega, by omega⟩
  refine Tot.ite (fun h => Tot.step (h := fun _ => some (a, l, b.2)) (fun k => rfl) (Tot.ret ⟨ha, hl, by simp only; omega, by simp only; omega⟩)) (fun h => body)
theorem spec_l17Open.tot (l : List Int) (h : ∀ x ∈ l, (Lit.int .u8 x).wf = true) : ∃ s, spec_l17Open.f l = some (s, 0) ∧ RdB s := by
  have hb : ∀ x ∈ l, 0 ≤ x ∧ x ≤ 255 := fun x hx => by
    have := h x hx
    simp [Lit.wf, IntKind.min, IntKind.max, IntKind.signed, IntKind.bits] at this
    omega
  unfold spec_l17Open.f
  by_cases hl : (l.length : Int) > 2000
  · rw [if_pos hl, if_pos (by omega)]
    exact ⟨_, rfl, by simp; omega, fun x hx => hb x (List.mem_of_mem_take hx)⟩
  · rw [if_neg hl]
    exact ⟨_, rfl, by omega, hb⟩
end Go.Proofs.YtiibnkibckklgaaDoor.P
namespace Go.Proofs.YtiibnkibckklgaaDoor.P
set_option linter.unusedVariables false
set_option linter.unusedSimpArgs false
open Go.RowKit Go.Proofs.YtiibnkibckklgaaDoorW.PrintWords
abbrev TreeS := S28
theorem spec_l1For.tot (a : ByteArray) (l : List RuleS) (g : ByteArray) (hl : l.length ≤ 1000000) :
    Tot (fun k => spec_l1For.f k a l g) (fun r => r = ((List.range l.length).filter fun i : Nat => decide ((rd_T46 l (i : Int)).f0 = g)).map fun i : Nat => (i : Int)) := by
  have key : ∀ (d i : Nat) (out : List Int), i + d = l.length → out = ((List.range i).filter fun i : Nat => decide ((rd_T46 l (i : Int)).f0 = g)).map (fun i : Nat => (i : Int)) →
      Tot (fun k => spec_l1For.l0 k g out (i : Int) a l) (fun r => r = ((List.range l.length).filter fun i : Nat => decide ((rd_T46 l (i : Int)).f0 = g)).map fun i : Nat => (i : Int)) := by
    intro d
    induction d with
    | zero =>
      intro i out hi ho
      obtain rfl : i = l.length := by omega
      exact Tot.step (fun k => rfl) (Tot.neg (by omega) (Tot.ret ho))
    | succ d ih =>
      intro i out hi ho
      have hlen : out.length ≤ i := by
        rw [ho, List.length_map]
        exact Nat.le_trans (List.length_filter_le _ _) (by simp)
      refine Tot.step (fun k => rfl) (Tot.pos (by omega) (Tot.pos (by omega) ?_))
      rw [w64 (by omega) (by omega)]
      refine Tot.ite (fun h => Tot.pos (by omega) ?_) (fun h => ?_)
      · refine ih (i + 1) _ (by omega) ?_
        rw [List.range_succ, List.filter_append, List.map_append, ← ho]
        simp [(toList_eq_iff _ _).1 h]
      · refine ih (i + 1) _ (by omega) ?_
        rw [List.range_succ, List.filter_append, List.map_append, ← ho]
        have : ¬ (rd_T46 l (i : Int)).f0 = g := fun e => h ((toList_eq_iff _ _).2 e)
        simp [this]
  simpa [spec_l1For.f] using key l.length 0 [] (by omega) (by simp)
def TB : Nat → TreeS → Prop
  | 0, t => t.f2 = [] ∧ t.f0.size ≤ 5
  | d + 1, t => t.f0.size ≤ 5 ∧ t.f2.length ≤ 5 ∧ ∀ x ∈ t.f2, TB d x
theorem TB.leaf (d : Nat) {a : ByteArray} (ha : a.size ≤ 5) (n : Int) : TB d ⟨a, n, []⟩ := by
  cases d with
  | zero => exact ⟨rfl, ha⟩
  | succ d => exact ⟨ha, by simp, by simp⟩
theorem TB.size {d : Nat} {t : TreeS} (h : TB d t) : t.f0.size ≤ 5 := by cases d with | zero => exact h.2 | succ d => exact h.1
def cost : Nat → Nat | 0 => 1 | d + 1 => 6 * cost d + 2
theorem cost_pos (d : Nat) : 1 ≤ cost d := by cases d <;> simp [cost]
theorem cost_8 : cost 8 ≤ 4000000 := by decide
theorem cost_mono {d e : Nat} (h : d ≤ e) : cost d ≤ cost e := by
  induction h with
  | refl => exact Nat.le_refl _
  | step _ ih => simp only [cost]; omega
theorem spec_l3Any.tot {s : List Int} (hs : RdB s) (a : ByteArray) (l : List RuleS) (hl : Meek l) : ∀ (d : Nat), d ≤ 8 → ∀ (p : Int) (g : ByteArray), 0 ≤ p → p + cost d < 100000000 → g.size ≤ 5 →
    Tot (fun k => spec_l3Any.f k s p a l g (d : Int)) (fun r => TB d ⟨r.1, r.2.1, r.2.2.1⟩ ∧ r.1 = g ∧ p ≤ r.2.2.2 ∧ r.2.2.2 ≤ p + cost d) := by
  intro d
  induction d with
  | zero =>
    intro _ p g hp0 hp hg
    refine Tot.step (fun k => by rw [spec_l3Any.f]) ?_
    rw [spec_SignSmall.is]
    simp only [Option.bind_some]
    have done : ∀ q : Int, q = p → Tot (fun _ : Nat => some (g, (-1 : Int), ([] : List TreeS), q)) (fun r => TB 0 ⟨r.1, r.2.1, r.2.2.1⟩ ∧ r.1 = g ∧ p ≤ r.2.2.2 ∧ r.2.2.2 ≤ p + cost 0) :=
      fun q hq => Tot.ret ⟨TB.leaf 0 hg _, rfl, by simp only; omega, by simp only [cost]; omega⟩
    refine Tot.ite (fun _ => done p rfl) (fun _ => Tot.bind (spec_l1For.tot a l g (by have := hl.1; omega)) fun t ht => ?_)
    refine Tot.ite (fun _ => Tot.step (fun k => by rw [spec_l3Any.j0, if_pos rfl]) (done p rfl)) (fun _ => Tot.step (fun k => by rw [spec_l3Any.j0, if_pos (by simp)]) (done p rfl))
  | succ d ih =>
    intro hd p g hp0 hp hg
    have hc1 := cost_pos d
    have hcs : cost (d + 1) = 6 * cost d + 2 := rfl
    have hc9 : 6 * cost d + 2 ≤ 4000000 := by rw [← hcs]; exact Nat.le_trans (cost_mono hd) cost_8
    refine Tot.step (fun k => by rw [spec_l3Any.f]) ?_
    rw [spec_SignSmall.is]
    simp only [Option.bind_some]
    have done : ∀ q : Int, q = p → Tot (fun _ : Nat => some (g, (-1 : Int), ([] : List TreeS), q)) (fun r => TB (d + 1) ⟨r.1, r.2.1, r.2.2.1⟩ ∧ r.1 = g ∧ p ≤ r.2.2.2 ∧ r.2.2.2 ≤ p + cost (d + 1)) :=
      fun q hq => Tot.ret ⟨TB.leaf _ hg _, rfl, by simp only; omega, by simp only; omega⟩
    refine Tot.ite (fun _ => done p rfl) (fun _ => Tot.bind (spec_l1For.tot a l g (by have := hl.1; omega)) fun t ht => ?_)
    refine Tot.ite (fun _ => Tot.step (fun k => by rw [spec_l3Any.j0, if_pos rfl]) (done p rfl)) (fun hne => ?_)
    have htin : ∀ i : Int, i ∈ t → 0 ≤ i ∧ i < l.length := by
      intro i hi
      rw [ht, List.mem_map] at hi
      obtain ⟨j, hj, rfl⟩ := hi
      have := List.mem_range.1 (List.mem_filter.1 hj).1
      omega
    have htl : t.length ≤ 9 := by
      rw [ht, List.length_map]
      exact Nat.le_trans (List.length_filter_le _ _) (by simpa using hl.1)
    -- the parts, one behind the other
    have parts : ∀ (i q : Int) (_ : 0 ≤ i ∧ i < l.length) (_ : p ≤ q) (_ : q ≤ p + 1), Tot (fun k => spec_l3Any.l1 k ((d + 1 : Nat) : Int) i 0 s q a l g i []) (fun r => TB (d + 1) ⟨r.1, r.2.1, r.2.2.1⟩ ∧ r.1 = g ∧ p ≤ r.2.2.2 ∧ r.2.2.2 ≤ p + cost (d + 1)) := by
      intro i q hi hq1 hq2
      have hm : rd_T46 l i ∈ l := by
        have := mem_rd l i.toNat (by omega)
        rwa [show ((i.toNat : Nat) : Int) = i by omega] at this
      have hsz := (hl.2 _ hm).2
      generalize hR : (rd_T46 l i).f1 = R at hsz
      have key : ∀ (e j : Nat) (q' : Int) (kids : List TreeS), j + e = R.size → p ≤ q' → q' ≤ p + 1 + j * cost d → kids.length = j → (∀ x ∈ kids, TB d x) →
          Tot (fun k => spec_l3Any.l1 k ((d + 1 : Nat) : Int) i (j : Int) s q' a l g i kids) (fun r => TB (d + 1) ⟨r.1, r.2.1, r.2.2.1⟩ ∧ r.1 = g ∧ p ≤ r.2.2.2 ∧ r.2.2.2 ≤ p + cost (d + 1)) := by
        intro e
        induction e with
        | zero =>
          intro j q' kids hj h1 h2 hk hkd
          refine Tot.step (fun k => by rw [spec_l3Any.l1]) (Tot.pos hi.1 (Tot.pos hi.2 ?_))
          rw [hR]
          refine Tot.neg (by omega) (Tot.ret ⟨⟨hg, by simp only; omega, hkd⟩, rfl, by simp only; omega, ?_⟩)
          have : j * cost d ≤ 5 * cost d := Nat.mul_le_mul_right _ (by omega)
          simp only; omega
        | succ e ih2 =>
          intro j q' kids hj h1 h2 hk hkd
          refine Tot.step (fun k => by rw [spec_l3Any.l1]) (Tot.pos hi.1 (Tot.pos hi.2 ?_))
          rw [hR, w64 (x := (j : Int) + 1) (by omega) (by omega), show wrap64 (((d + 1 : Nat) : Int) - 1) = (d : Int) by rw [w64 (by omega) (by omega)]; omega]
          have hjc : j * cost d ≤ 4 * cost d := Nat.mul_le_mul_right _ (by omega)
          refine Tot.pos (by omega) (Tot.pos (by omega) (Tot.pos (by omega) (Tot.pos (by omega) (Tot.bind (ih (by omega) q' _ (by omega) (by omega) ?_) fun r hr => Tot.pos (by omega) ?_))))
          · rw [ByteArray.size_extract]; omega
          · have hjs : (j + 1) * cost d = j * cost d + cost d := Nat.succ_mul _ _
            refine ih2 (j + 1) r.2.2.2 _ (by omega) (by omega) (by have := hr.2.2.2; omega) (by simp; omega) ?_
            intro x hx
            rcases List.mem_append.1 hx with hx | hx
            · exact hkd x hx
            · rw [List.mem_singleton.1 hx]; exact hr.1
      exact key R.size 0 q [] (by omega) hq1 (by omega) rfl (by simp)
    -- the shortest of the rules
    have short : ∀ (e j : Nat) (i q : Int), j + e = t.length → (0 ≤ i ∧ i < l.length) → p ≤ q → q ≤ p + 1 →
        Tot (fun k => spec_l3Any.l0 k g ((d + 1 : Nat) : Int) t i (j : Int) s q a l) (fun r => TB (d + 1) ⟨r.1, r.2.1, r.2.2.1⟩ ∧ r.1 = g ∧ p ≤ r.2.2.2 ∧ r.2.2.2 ≤ p + cost (d + 1)) := by
      intro e
      induction e with
      | zero =>
        intro j i q hj hi h1 h2
        exact Tot.step (fun k => by rw [spec_l3Any.l0]) (Tot.neg (by omega) (Tot.step (fun k => by rw [spec_l3Any.j2]) (parts i q hi h1 h2)))
      | succ e ih2 =>
        intro j i q hj hi h1 h2
        have hmem : rd t (j : Int) ∈ t := by
          unfold rd
          rw [List.getD_eq_getElem?_getD, List.getElem?_eq_getElem (by omega)]
          exact List.getElem_mem _
        have hin := htin _ hmem
        refine Tot.step (fun k => by rw [spec_l3Any.l0]) (Tot.pos (by omega) (Tot.pos (by omega) (Tot.pos hin.1 (Tot.pos hin.2 (Tot.pos hi.1 (Tot.pos hi.2 ?_))))))
        rw [w64 (x := (j : Int) + 1) (by omega) (by omega)]
        exact Tot.ite (fun _ => ih2 (j + 1) _ q (by omega) hin h1 h2) (fun _ => ih2 (j + 1) i q (by omega) hi h1 h2)
    rw [show decide (((d + 1 : Nat) : Int) < 1) = false by simp; omega]
    refine Tot.step (fun k => by rw [spec_l3Any.j0, if_neg (by simp)]) (Tot.bind (spec_l17Rd_pick.tot hs hp0 (by omega) (by omega)) fun r hr => Tot.pos hr.1 (Tot.pos hr.2.1 ?_))
    have hmem : rd t r.1 ∈ t := by
      unfold rd
      rw [List.getD_eq_getElem?_getD, List.getElem?_eq_getElem (by omega)]
      exact List.getElem_mem _
    exact Tot.ite (fun _ => short t.length 0 _ _ (by omega) (htin _ hmem) (by omega) (by omega)) (fun _ => Tot.step (fun k => by rw [spec_l3Any.j2]) (parts _ _ (htin _ hmem) (by omega) (by omega)))
def wide : Nat → Nat | 0 => 5 | d + 1 => 5 * wide d + 5
theorem wide_pos (d : Nat) : 5 ≤ wide d := by cases d <;> simp [wide]
theorem wide_mono {d e : Nat} (h : d ≤ e) : wide d ≤ wide e := by
  induction h with
  | refl => exact Nat.le_refl _
  | step _ ih => simp only [wide]; omega
theorem wide_le (d : Nat) (h : d ≤ 20) : wide d ≤ 1000000000000000 := Nat.le_trans (wide_mono h) (by decide)
theorem rd_tree_mem (l : List TreeS) (i : Nat) (h : i < l.length) : rd_T28 l (i : Int) ∈ l := by
  simp [rd_T28, List.getD_eq_getElem?_getD, List.getElem?_eq_getElem h]
theorem spec_l3Yield.tot : ∀ (d : Nat), d ≤ 20 → ∀ t : TreeS, TB d t → Tot (fun k => spec_l3Yield.f k t.f0 t.f1 t.f2) (fun r => r.size ≤ wide d) := by
  intro d
  induction d with
  | zero =>
    intro _ t h
    refine Tot.step (fun k => by rw [spec_l3Yield.f]) ?_
    rw [spec_SignSmall.is, h.1]
    simp only [Option.bind_some]
    refine Tot.ite (fun _ => Tot.ret h.2) (fun _ => Tot.step (fun k => by rw [spec_l3Yield.l0]) (Tot.neg (by simp) (Tot.ret (Nat.zero_le _))))
  | succ d ih =>
    intro hd t h
    have hw := wide_le (d + 1) hd
    have hws : wide (d + 1) = 5 * wide d + 5 := rfl
    refine Tot.step (fun k => by rw [spec_l3Yield.f]) ?_
    rw [spec_SignSmall.is]
    simp only [Option.bind_some]
    refine Tot.ite (fun _ => Tot.ret (by have := h.1; have := wide_pos (d + 1); omega)) (fun _ => ?_)
    have hlen := h.2.1
    have key : ∀ (e j : Nat) (out : ByteArray), j + e = t.f2.length → out.size ≤ j * wide d → Tot (fun k => spec_l3Yield.l0 k out (j : Int) t.f0 t.f1 t.f2) (fun r => r.size ≤ wide (d + 1)) := by
      intro e
      induction e with
      | zero =>
        intro j out hj ho
        have : j * wide d ≤ 5 * wide d := Nat.mul_le_mul_right _ (by omega)
        exact Tot.step (fun k => by rw [spec_l3Yield.l0]) (Tot.neg (by omega) (Tot.ret (by omega)))
      | succ e ih2 =>
        intro j out hj ho
        refine Tot.step (fun k => by rw [spec_l3Yield.l0]) (Tot.pos (by omega) (Tot.pos (by omega) (Tot.bind (ih (by omega) _ (h.2.2 _ (rd_tree_mem t.f2 j (by omega)))) fun r hr => ?_)))
        have hjs : (j + 1) * wide d = j * wide d + wide d := Nat.succ_mul _ _
        have : j * wide d ≤ 5 * wide d := Nat.mul_le_mul_right _ (by omega)
        rw [w64 (x := (j : Int) + 1) (by omega) (by omega)]
        exact Tot.pos (by omega) (ih2 (j + 1) _ (by omega) (by rw [ByteArray.size_append]; omega))
    exact key t.f2.length 0 _ (by omega) (by simp; rfl)
theorem spec_l4Text.tot {s : List Int} (hs : RdB s) {p n : Int} (h0 : 0 ≤ p) (h1 : p < 100000000) (hn0 : 0 ≤ n) (hn : n ≤ 1000) :
    Tot (fun k => spec_l4Text.f k s p n) (fun r => (r.1.size : Int) = n ∧ r.1.data.toList.all isSmallB = true ∧ r.2 = p + n) := by
  have key : ∀ (d : Nat) (i q : Int) (t : ByteArray), i + d = n → 0 ≤ i → q = p + i → (t.size : Int) = i → t.data.toList.all isSmallB = true →
      Tot (fun k => spec_l4Text.l0 k n t i s q) (fun r => (r.1.size : Int) = n ∧ r.1.data.toList.all isSmallB = true ∧ r.2 = p + n) := by
    intro d
    induction d with
    | zero =>
      intro i q t hi hi0 hq ht ha
      exact Tot.step (fun k => rfl) (Tot.neg (by omega) (Tot.ret ⟨by simp only; omega, ha, by simp only; omega⟩))
    | succ d ih =>
      intro i q t hi hi0 hq ht ha
      refine Tot.step (fun k => rfl) (Tot.pos (by omega) (Tot.bind (spec_l17Rd_of.tot hs (by omega) (by omega) _ (by decide)) fun r hr => ?_))
      have hz : r.1.size = 1 ∧ r.1.data.toList.all isSmallB = true := by
        have := hr.1
        simp only [List.mem_cons, List.not_mem_nil, or_false] at this
        rcases this with h | h | h | h | h | h <;> rw [h] <;> decide
      refine Tot.pos (by omega) ?_
      rw [w64 (by omega) (by omega), hr.2]
      refine ih (i + 1) (q + 1) (t ++ r.1) (by omega) (by omega) (by omega) (by rw [ByteArray.size_append]; omega) ?_
      rw [ByteArray.data_append, Array.toList_append, List.all_append, ha, hz.2]; rfl
  exact key n.toNat 0 p ⟨#[]⟩ (by omega) (by omega) (by omega) rfl rfl
theorem spec_l4Some.tot {s : List Int} (hs : RdB s) {p : Int} (h0 : 0 ≤ p) (h1 : p < 10000000) (a : ByteArray) (ha : a.size ≤ 5) (l : List RuleS) (hl : Meek l) :
    Tot (fun k => spec_l4Some.f k s p a l) (fun r => r.1.size ≤ 1000000000000) := by
  have rest : ∀ q : Int, 0 ≤ q → q < 50000000 → Tot (fun k => spec_l4Some.j1 k s q) (fun r => r.1.size ≤ 1000000000000) := by
    intro q hq0 hq
    refine Tot.step (fun k => by rw [spec_l4Some.j1]) (Tot.bind (spec_l17Rd_pick.tot hs hq0 (by omega) (by omega)) fun b hb => Tot.bind (spec_l4Text.tot hs (by omega) (by omega) (by omega) (by omega)) fun c hc => Tot.bind (spec_l17Rd_pick.tot hs (by omega) (by omega) (by omega)) fun d hd => ?_)
    refine Tot.ite (fun _ => Tot.bind (spec_l17Rd_of.tot hs (by omega) (by omega) _ (by decide)) fun e he => ?_) (fun _ => Tot.ret (by simp only; omega))
    have hz : e.1.size ≤ 9 := by
      have := he.1
      simp only [List.mem_cons, List.not_mem_nil, or_false] at this
      rcases this with h | h | h | h <;> rw [h] <;> decide
    exact Tot.pos (by omega) (Tot.ret (by simp only; rw [ByteArray.size_append]; omega))
  have take : ∀ q : Int, 0 ≤ q → q < 20000000 → Tot (fun k => spec_l4Some.j0 k true s q a l) (fun r => r.1.size ≤ 1000000000000) := by
    intro q hq0 hq
    refine Tot.step (fun k => by rw [spec_l4Some.j0, if_pos rfl]) (Tot.bind (spec_l17Rd_num.tot hs hq0 (by omega) _ (by decide)) fun b hb => ?_)
    obtain ⟨n, hn, hn8⟩ : ∃ n : Nat, b.1 = (n : Int) ∧ n ≤ 8 := by
      have := hb.1
      simp only [List.mem_cons, List.not_mem_nil, or_false] at this
      exact ⟨b.1.toNat, by omega, by omega⟩
    have hc : cost n ≤ 4000000 := Nat.le_trans (cost_mono hn8) cost_8
    rw [hn]
    refine Tot.bind (spec_l3Any.tot hs a l hl n hn8 _ a (by omega) (by omega) ha) fun t ht => ?_
    refine Tot.bind (spec_l3Yield.tot n (by omega) ⟨t.1, t.2.1, t.2.2.1⟩ ht.1) fun y hy => ?_
    have hw : wide n ≤ 1000000000 := Nat.le_trans (wide_mono hn8) (by decide)
    refine Tot.bind (spec_TextOk.tot y (by omega)) fun z hz => ?_
    exact Tot.ite (fun _ => Tot.ret (by simp only; omega)) (fun _ => rest _ (by omega) (by omega))
  have none_ : ∀ q : Int, 0 ≤ q → q < 20000000 → Tot (fun k => spec_l4Some.j0 k false s q a l) (fun r => r.1.size ≤ 1000000000000) :=
    fun q hq0 hq => Tot.step (fun k => by rw [spec_l4Some.j0, if_neg (by simp)]) (rest q hq0 (by omega))
  unfold spec_l4Some.f
  refine Tot.bind (spec_GramOk.tot a l hl.small) fun b hb => Tot.ite (fun _ => Tot.bind (spec_l17Rd_pick.tot hs h0 (by omega) (by omega)) fun c hc => ?_) (fun _ => none_ p h0 (by omega))
  by_cases h : c.1 > 0
  · rw [decide_eq_true h]; exact take _ (by omega) (by omega)
  · rw [decide_eq_false h]; exact none_ _ (by omega) (by omega)
theorem spec_l4Draw.tot (code : List Int) (h : ∀ x ∈ code, (Lit.int .u8 x).wf = true) : Tot (fun k => spec_l4Draw.f k code) (fun r => r.1.size ≤ 5 ∧ Meek r.2.1 ∧ r.2.2.size ≤ 1000000000000) := by
  obtain ⟨s, e, hs⟩ := spec_l17Open.tot code h
  unfold spec_l4Draw.f
  rw [e]
  simp only [Option.bind_some]
  refine Tot.bind (spec_l1Gram.tot hs (by omega) (by omega)) fun g hg => ?_
  refine Tot.bind (spec_l1Bent.tot hs (by omega) (by omega) g.1 (by have := hg.1.1; simp only at this; rw [this]; decide) g.2.1 hg.1.meek hg.1.2.1) fun b hb => ?_
  refine Tot.bind (spec_l4Some.tot hs (by omega) (by omega) b.1 hb.1 b.2.1 hb.2.1) fun t ht => Tot.ret ⟨hb.1, hb.2.1, ht⟩
theorem spec_DrawMendNext.tot (code : List Int) (h : ∀ x ∈ code, (Lit.int .u8 x).wf = true) : Tot (fun k => spec_DrawMendNext.f k code) (fun r => r.1.size ≤ 5 ∧ Meek r.2.1 ∧ r.2.2.size ≤ 1000000000000) := by
  unfold spec_DrawMendNext.f
  exact Tot.bind (spec_l4Draw.tot code h) fun r hr => Tot.ret hr
end Go.Proofs.YtiibnkibckklgaaDoor.P
namespace Go.Proofs.YtiibnkibckklgaaDoor.P
set_option linter.unusedVariables false
set_option linter.unusedSimpArgs false
open Go.RowKit Go.Proofs.YtiibnkibckklgaaDoorW.PrintWords
theorem spec_both (s : ByteArray) (l : List RuleS) (t : ByteArray) (hl : SmallG l) (ht : t.size ≤ 1099511627776) {α : Type} {R : α → Prop} (g : Bool → Nat → Option α)
    (h : Tot (g (gramOkB s l && textOkB t)) R) : Tot (fun k => (spec_GramOk.f k s l).bind fun b => if b = true then ((spec_TextOk.f k t).bind fun c => g c k) else g false k) R := by
  refine Tot.bind (spec_GramOk.tot s l hl) ?_
  rintro _ rfl
  refine Tot.ite (fun e => Tot.bind (spec_TextOk.tot t ht) ?_) (fun e => ?_)
  · rintro _ rfl
    rw [e, Bool.true_and] at h
    exact h
  · rw [Bool.eq_false_iff.mpr e, Bool.false_and] at h
    exact h
theorem FnMendBent : laws_FnMendBent.Pure := by
  intro code _ _ hb
  apply Tot.ends (g := fun k => laws_FnMendBent.f k code)
  unfold laws_FnMendBent.f
  refine Tot.ite (fun _ => Tot.ret rfl) (fun _ => Tot.bind (spec_DrawMendNext.tot code hb) ?_)
  rintro ⟨s, l, t⟩ ⟨h1, h2, h3⟩
  have hsm := h2.small
  have rest : Tot (fun k => laws_FnMendBent.j0 k t (gramOkB s l && textOkB t) s l) (fun r => r = true) := by
    refine Tot.step (fun k => by rw [laws_FnMendBent.j0]) ?_
    generalize hB : (gramOkB s l && textOkB t) = B
    have hs := @spec_both s l t hsm (by simp only at h3; omega)
    rw [hB] at hs
    refine hs (g := fun c k => if (B != c) = true then laws_FnMendBent.j1 k t B true s l else laws_FnMendBent.j1 k t B B s l) (Tot.neg (by simp) (Tot.step (fun k => by rw [laws_FnMendBent.j1]) (Tot.ite (fun e => ?_) (fun e => ?_))))
    · exact hs (g := fun c k => some (B == c)) (Tot.ret (by simp))
    · have hBoth : Tot (fun k => impl_areBoth.f k s l t) (fun r => r = false) := by
        have := impl_areBoth.tot s l t hsm
        rwa [hB, Bool.eq_false_iff.mpr e] at this
      refine Tot.bind (P := fun r => r = (0, 0, ⟨#[]⟩, false)) ?_ ?_
      · unfold impl_MendNext.f
        refine Tot.bind hBoth ?_
        rintro _ rfl
        exact Tot.ret rfl
      rintro _ rfl
      refine Tot.bind (P := fun r => r = ([], ⟨#[]⟩, false)) ?_ ?_
      · unfold impl_MendRun.f
        refine Tot.bind hBoth ?_
        rintro _ rfl
        exact Tot.ret rfl
      rintro _ rfl
      refine Tot.bind (P := fun r => r = -1) ?_ ?_
      · unfold impl_MendFar.f
        refine Tot.bind hBoth ?_
        rintro _ rfl
        exact Tot.ret rfl
      rintro _ rfl
      exact Tot.ret (by simp only [bytes_toList]; rfl)
  refine Tot.bind (impl_GramOk.tot s l hsm) ?_
  rintro _ rfl
  refine Tot.ite (fun e => ?_) (fun e => ?_)
  · rw [impl_TextOk.is]
    rw [e, Bool.true_and] at rest
    exact rest
  · rw [Bool.eq_false_iff.mpr e, Bool.false_and] at rest
    exact rest
end Go.Proofs.YtiibnkibckklgaaDoor.P
