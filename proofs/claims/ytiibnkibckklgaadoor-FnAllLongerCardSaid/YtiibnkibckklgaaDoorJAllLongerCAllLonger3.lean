-- Joined texts of a claim (wip/tools/bundle2.py).
import Derived.Test.YtiibnkibckklgaaDoorJAllLongerCAllLonger2
import Derived.Sort.Walk0
import Derived.Sort.WalkA
import Derived.Sort.WalkB2
import Derived.Sort.WalkB3
import Derived.Sort.WalkB12
import Derived.BigGuard
import Derived.BigCall
import Derived.CellFam
import Derived.RegionTactic
import Derived.BigRegion
import Derived.Sort.WalkA6
import Derived.Sort.WalkC
import Derived.Sort.WalkC4
import Derived.Sort.WalkD1
import Derived.Sort.WalkD2
import Derived.Sort.Walk11
import Derived.Sort.Walk7a
import Derived.Sort.Walk7
import Derived.Shelf.Small.Bits
import Derived.Sort.Walk13a
import Derived.Sort.Walk13
import Derived.Sort.WalkA14
import Derived.Sort.AssemblyPlain
import Derived.Shelf.SlicesE.Compact
import Derived.Shelf.SlicesE.DeleteFunc
import Derived.Lib.SliceRun
import Derived.Lib.OwnBridge
import Derived.Lib.AppendIntMem
import Derived.Laws.IdiomStrings
namespace Go.Proofs.YtiibnkibckklgaaDoor.P
set_option linter.unusedVariables false
set_option linter.unusedSimpArgs false
open Go.RowKit Go.Proofs.YtiibnkibckklgaaDoorW.PrintWords
abbrev RuleS := S46
instance instRuleDec : DecidableEq RuleS := fun a b => decidable_of_iff (a.f0 = b.f0 ∧ a.f1 = b.f1) (by cases a; cases b; simp)
def isBigB (c : UInt8) : Bool := [65, 66, 67, 68, 69].contains c
theorem isBigB_iff (c : UInt8) : isBigB c = true ↔ 65 ≤ (c.toNat : Int) ∧ (c.toNat : Int) ≤ 69 := by
 unfold isBigB
 simp only [List.contains_eq_mem, List.mem_cons, List.not_mem_nil, or_false, decide_eq_true_eq, ← UInt8.toNat_inj]
 simp; omega
theorem isSmallB_iff (c : UInt8) : isSmallB c = true ↔ 97 ≤ (c.toNat : Int) ∧ (c.toNat : Int) ≤ 100 := by
 unfold isSmallB
 simp only [List.contains_eq_mem, List.mem_cons, List.not_mem_nil, or_false, decide_eq_true_eq, ← UInt8.toNat_inj]
 simp; omega
theorem isSignB_eq (c : UInt8) : isSignB c = (isBigB c || isSmallB c) := by
 unfold isSignB isBigB isSmallB
 rw [Bool.eq_iff_iff]
 simp only [List.contains_eq_mem, List.mem_cons, List.not_mem_nil, or_false, decide_eq_true_eq, Bool.or_eq_true, or_assoc]
def oneBig (s : ByteArray) : Bool := match s.data.toList with | [c] => isBigB c | _ => false
def oneSmall (s : ByteArray) : Bool := match s.data.toList with | [c] => isSmallB c | _ => false
theorem one_cases (s : ByteArray) : (s.size = 1 ∧ ∃ c : UInt8, s.data.toList = [c] ∧ bt s 0 = (c.toNat : Int)) ∨ (s.size ≠ 1 ∧ ∀ c, s.data.toList ≠ [c]) := by
 by_cases h : s.size = 1
 ·left
  refine ⟨h, ?_⟩
  obtain ⟨c, e, hb⟩ := drop_cons_bt s 0 (by omega)
  refine ⟨c, ?_, hb⟩
  have hl : s.data.toList.length = 1 := by simpa using h
  match hs : s.data.toList, hl with
  | [d], _ => rw [hs] at e; simpa using e
 right
 refine ⟨h, fun c hc => h ?_⟩
 rw [size_toList, hc]; rfl
theorem spec_l1Big.is (c : UInt8) : spec_l1Big.f (c.toNat : Int) = some (isBigB c) := by
 unfold spec_l1Big.f
 have := isBigB_iff c
 by_cases h1 : (c.toNat : Int) ≥ 65
 ·rw [if_pos h1]; congr 1; rw [Bool.eq_iff_iff, decide_eq_true_eq, this]; omega
 rw [if_neg h1]; congr 1; symm; rw [Bool.eq_false_iff]; intro h; rw [this] at h; omega
theorem spec_l1Small.is (c : UInt8) : spec_l1Small.f (c.toNat : Int) = some (isSmallB c) := by
 unfold spec_l1Small.f
 have := isSmallB_iff c
 by_cases h1 : (c.toNat : Int) ≥ 97
 ·rw [if_pos h1]; congr 1; rw [Bool.eq_iff_iff, decide_eq_true_eq, this]; omega
 rw [if_neg h1]; congr 1; symm; rw [Bool.eq_false_iff]; intro h; rw [this] at h; omega
theorem spec_SignBig.is (s : ByteArray) : spec_SignBig.f s = some (oneBig s) := by
 unfold spec_SignBig.f oneBig
 rcases one_cases s with ⟨h, c, e, hb⟩ | ⟨h, e⟩
 ·rw [if_pos (by omega), if_pos (by omega), hb, spec_l1Big.is, e]; rfl
 rw [if_neg (by omega)]
 split
 ·exact absurd ‹_› (e _)
 rfl
theorem spec_SignSmall.is (s : ByteArray) : spec_SignSmall.f s = some (oneSmall s) := by
 unfold spec_SignSmall.f oneSmall
 rcases one_cases s with ⟨h, c, e, hb⟩ | ⟨h, e⟩
 ·rw [if_pos (by omega), if_pos (by omega), hb, spec_l1Small.is, e]; rfl
 rw [if_neg (by omega)]
 split
 ·exact absurd ‹_› (e _)
 rfl
theorem impl_SignBig.is (s : ByteArray) : impl_SignBig.f s = some (oneBig s) := by
 unfold impl_SignBig.f impl_isIn.f oneBig
 rcases one_cases s with ⟨h, c, e, hb⟩ | ⟨h, e⟩
 ·rw [if_pos (by omega), if_pos (by omega), hb, e]
  have := isBigB_iff c
  by_cases h1 : (c.toNat : Int) ≥ 65
  ·rw [if_pos h1]; simp only [Option.bind_some]; congr 1; rw [Bool.eq_iff_iff, decide_eq_true_eq, this]; omega
  rw [if_neg h1]; simp only [Option.bind_some]; congr 1; symm; rw [Bool.eq_false_iff]; intro h; rw [this] at h; omega
 rw [if_neg (by omega)]
 split
 ·exact absurd ‹_› (e _)
 rfl
theorem spec_l1Right.tot (s : ByteArray) (m : Int) (hs : s.size ≤ 1099511627776) : Tot (fun k => spec_l1Right.f k s m) (fun r => r = (s.data.toList.all isSignB && decide ((s.size : Int) ≤ m))) := by
 have key : ∀ d i : Nat, i + d = s.size → Tot (fun k => spec_l1Right.l0 k s m (i : Int)) (fun r => r = ((s.data.toList.drop i).all isSignB && decide ((s.size : Int) ≤ m))) := by
  intro d
  induction d with
  | zero =>
   intro i hi
   refine Tot.step (fun k => rfl) (Tot.neg (by omega) (Tot.ret ?_))
   rw [List.drop_of_length_le (by simp; omega)]; simp
  | succ d ih =>
   intro i hi
   obtain ⟨c, ec, eb⟩ := drop_cons_bt s i (by omega)
   refine Tot.step (fun k => rfl) (Tot.pos (by omega) (Tot.pos (by omega) ?_))
   rw [eb, spec_l1Big.is, spec_l1Small.is, ec, List.all_cons, isSignB_eq, w64 (by omega) (by omega)]
   simp only [Option.bind_some]
   refine Tot.ite (fun h => ?_) (fun h => Tot.ite (fun h2 => ?_) (fun h2 => Tot.ret ?_))
   ·rw [h]; simpa using ih (i + 1) (by omega)
   ·rw [h2]; simpa using ih (i + 1) (by omega)
   simp [Bool.eq_false_iff.mpr h, Bool.eq_false_iff.mpr h2]
 simpa [spec_l1Right.f] using key s.size 0 (by omega)
theorem drop_cons_rd (l : List RuleS) (i : Nat) (h : i < l.length) : l.drop i = rd_T46 l (i : Int) :: l.drop (i + 1) := by
 rw [List.drop_eq_getElem_cons h]
 congr 1
 simp [rd_T46, List.getD_eq_getElem?_getD, List.getElem?_eq_getElem h]
theorem rule_eq_iff (x : RuleS) (a b : ByteArray) : (x.f0.toList == a.toList && (x.f1.toList == b.toList)) = true ↔ x = ⟨a, b⟩ := by
 rw [toList_beq, toList_beq, Bool.and_eq_true, decide_eq_true_eq, decide_eq_true_eq]
 cases x with | mk p q =>
 exact ⟨fun h => by obtain ⟨h1, h2⟩ := h; simp only at h1 h2; subst h1 h2; rfl, fun h => by injection h with h1 h2; exact ⟨h1, h2⟩⟩
theorem rule_eq_iff2 (x : RuleS) (a b : ByteArray) : (a.toList == x.f0.toList && (b.toList == x.f1.toList)) = true ↔ x = ⟨a, b⟩ := by
 rw [toList_beq, toList_beq, Bool.and_eq_true, decide_eq_true_eq, decide_eq_true_eq]
 cases x with | mk p q =>
 exact ⟨fun h => by obtain ⟨h1, h2⟩ := h; simp only at h1 h2; subst h1 h2; rfl, fun h => by injection h with h1 h2; exact ⟨h1.symm, h2.symm⟩⟩
theorem spec_l1Place.tot (l : List RuleS) (a b : ByteArray) (hl : l.length ≤ 1099511627776) : Tot (fun k => spec_l1Place.f k l a b) (fun r => (0 ≤ r ↔ (⟨a, b⟩ : RuleS) ∈ l) ∧ -1 ≤ r ∧ r < l.length) := by
 have key : ∀ d i : Nat, i + d = l.length → Tot (fun k => spec_l1Place.l0 k l (i : Int) a b) (fun r => (0 ≤ r ↔ (⟨a, b⟩ : RuleS) ∈ l.drop i) ∧ -1 ≤ r ∧ r < l.length) := by
  intro d
  induction d with
  | zero =>
   intro i hi
   refine Tot.step (fun k => rfl) (Tot.neg (by omega) (Tot.ret ?_))
   rw [List.drop_of_length_le (by omega)]; simp; omega
  | succ d ih =>
   intro i hi
   refine Tot.step (fun k => rfl) (Tot.pos (by omega) (Tot.pos (by omega) ?_))
   rw [drop_cons_rd l i (by omega), w64 (by omega) (by omega)]
   refine Tot.ite (fun h => Tot.ret ?_) (fun h => ?_)
   ·have := (rule_eq_iff _ _ _).1 h
    rw [this]; simp; omega
   have hn : ¬ rd_T46 l (i : Int) = ⟨a, b⟩ := fun e => h ((rule_eq_iff _ _ _).2 e)
   refine (ih (i + 1) (by omega)).mono fun r hr => ?_
   rw [List.mem_cons, hr.1]
   exact ⟨⟨.inr, fun h' => h'.resolve_left (fun e => hn e.symm)⟩, hr.2⟩
 simpa [spec_l1Place.f] using key l.length 0 (by omega)
theorem impl_Rule_106.tot (l : List RuleS) (a b : ByteArray) (hl : l.length ≤ 1099511627776) : Tot (fun k => impl_Rule_106.f k l a b) (fun r => r = true ↔ (⟨a, b⟩ : RuleS) ∈ l) := by
 have key : ∀ d i : Nat, i + d = l.length → Tot (fun k => impl_Rule_141.l0 k l (l.length : Int) (i : Int) a b) (fun r => 0 ≤ r ↔ (⟨a, b⟩ : RuleS) ∈ l.drop i) := by
  intro d
  induction d with
  | zero =>
   intro i hi
   refine Tot.step (fun k => rfl) (Tot.neg (by omega) (Tot.ret ?_))
   rw [List.drop_of_length_le (by omega)]; simp
  | succ d ih =>
   intro i hi
   refine Tot.step (fun k => rfl) (Tot.pos (by omega) (Tot.pos (by omega) (Tot.pos (by omega) ?_)))
   rw [drop_cons_rd l i (by omega), w64 (by omega) (by omega)]
   refine Tot.ite (fun h => Tot.ret ?_) (fun h => ?_)
   ·have := (rule_eq_iff2 _ _ _).1 h
    rw [this]; simp
   have hn : ¬ rd_T46 l (i : Int) = ⟨a, b⟩ := fun e => h ((rule_eq_iff2 _ _ _).2 e)
   refine (ih (i + 1) (by omega)).mono fun r hr => ?_
   rw [List.mem_cons, hr]
   exact ⟨.inr, fun h' => h'.resolve_left (fun e => hn e.symm)⟩
 unfold impl_Rule_106.f impl_Rule_141.f
 refine Tot.bind (key l.length 0 (by omega)) fun r hr => Tot.ret ?_
 rw [decide_eq_true_eq]; simpa using hr
/-! ### a grammar is right -/
def ruleOkB (seen : List RuleS) (x : RuleS) : Bool := oneBig x.f0 && (decide ((x.f1.size : Int) ≤ 4) && x.f1.data.toList.all isSignB) && !decide (x ∈ seen)
def rulesOkB (l : List RuleS) (i : Nat) : List RuleS → Bool
 | [] => true
 | x :: r => ruleOkB (l.take i) x && rulesOkB l (i + 1) r
def gramOkB (s : ByteArray) (l : List RuleS) : Bool := oneBig s && decide (l.length ≤ 8) && rulesOkB l 0 l
def SmallG (l : List RuleS) : Prop := l.length ≤ 1099511627776 ∧ ∀ x ∈ l, x.f0.size ≤ 1099511627776 ∧ x.f1.size ≤ 1099511627776
theorem mem_rd (l : List RuleS) (i : Nat) (h : i < l.length) : rd_T46 l (i : Int) ∈ l := by
 simp [rd_T46, List.getD_eq_getElem?_getD, List.getElem?_eq_getElem h]
theorem spec_GramOk.tot (s : ByteArray) (l : List RuleS) (hl : SmallG l) : Tot (fun k => spec_GramOk.f k s l) (fun r => r = gramOkB s l) := by
 have key : ∀ d i : Nat, i + d = l.length → Tot (fun k => spec_GramOk.l0 k (i : Int) s l) (fun r => r = rulesOkB l i (l.drop i)) := by
  intro d
  induction d with
  | zero =>
   intro i hi
   refine Tot.step (fun k => rfl) (Tot.neg (by omega) (Tot.ret ?_))
   rw [List.drop_of_length_le (by omega)]; rfl
  | succ d ih =>
   intro i hi
   have hm := mem_rd l i (by omega)
   have hsz := hl.2 _ hm
   have hlen := hl.1
   refine Tot.step (fun k => rfl) (Tot.pos (by omega) (Tot.pos (by omega) ?_))
   rw [drop_cons_rd l i (by omega), w64 (by omega) (by omega), spec_SignBig.is]
   simp only [Option.bind_some, rulesOkB, ruleOkB]
   refine Tot.ite (fun h => ?_) (fun h => Tot.ret (by simp [Bool.eq_false_iff.mpr h]))
   rw [h]
   refine Tot.bind (spec_l1Right.tot _ 4 hsz.2) ?_
   rintro _ rfl
   refine Tot.ite (fun h2 => ?_) (fun h2 => Tot.ret (by rw [Bool.and_comm] at h2; rw [Bool.eq_false_iff.mpr h2]; simp))
   rw [Bool.and_comm] at h2
   rw [h2]
   refine Tot.pos (by omega) ?_
   refine Tot.bind (spec_l1Place.tot _ _ _ (by rw [List.length_take]; omega)) ?_
   intro r hr
   have e : ((i : Int)).toNat = i := by omega
   rw [e] at hr
   refine Tot.ite (fun h3 => Tot.ret ?_) (fun h3 => ?_)
   ·have := hr.1.1 (by omega); simp [this]
   have : ¬ rd_T46 l (i : Int) ∈ l.take i := fun hh => h3 (hr.1.2 hh)
   simpa [this] using ih (i + 1) (by omega)
 unfold spec_GramOk.f
 rw [spec_SignBig.is]
 simp only [Option.bind_some, gramOkB]
 refine Tot.ite (fun h => ?_) (fun h => Tot.step (h := fun _ => some false) (fun k => rfl) (Tot.ret (by simp [Bool.eq_false_iff.mpr h])))
 rw [h]
 refine Tot.step (fun k => rfl) (Tot.ite (fun h2 => Tot.ret ?_) (fun h2 => ?_))
 ·have : ¬ l.length ≤ 8 := by have := of_decide_eq_true h2; omega
  simp [this]
 have : l.length ≤ 8 := by simp at h2; omega
 simpa [this] using key l.length 0 (by omega)
theorem impl_GramOk.tot (s : ByteArray) (l : List RuleS) (hl : SmallG l) : Tot (fun k => impl_GramOk.f k s l) (fun r => r = gramOkB s l) := by
 have key : ∀ d i : Nat, i + d = l.length → Tot (fun k => impl_GramOk.l0 k l (l.length : Int) (i : Int) s l) (fun r => r = rulesOkB l i (l.drop i)) := by
  intro d
  induction d with
  | zero =>
   intro i hi
   refine Tot.step (fun k => rfl) (Tot.neg (by omega) (Tot.ret ?_))
   rw [List.drop_of_length_le (by omega)]; rfl
  | succ d ih =>
   intro i hi
   have hlen := hl.1
   refine Tot.step (fun k => rfl) (Tot.pos (by omega) (Tot.pos (by omega) (Tot.pos (by omega) ?_)))
   rw [drop_cons_rd l i (by omega), w64 (by omega) (by omega), impl_SignBig.is]
   simp only [Option.bind_some, rulesOkB, ruleOkB, impl_areSigns.f, if_pos (show (4 : Int) ≤ 1000 by decide)]
   refine Tot.ite (fun h => ?_) (fun h => Tot.ret (by simp [Bool.eq_false_iff.mpr h]))
   rw [h]
   refine Tot.ite (fun h2 => ?_) (fun h2 => Tot.ret (by rw [Bool.eq_false_iff.mpr h2]; simp))
   rw [h2]
   refine Tot.pos (by omega) ?_
   refine Tot.bind (impl_Rule_106.tot _ _ _ (by rw [List.length_take]; omega)) ?_
   intro r hr
   have e : ((i : Int)).toNat = i := by omega
   rw [e] at hr
   refine Tot.ite (fun h3 => Tot.ret ?_) (fun h3 => ?_)
   ·have := hr.1 h3; simp [this]
   have : ¬ rd_T46 l (i : Int) ∈ l.take i := fun hh => h3 (hr.2 hh)
   simpa [this] using ih (i + 1) (by omega)
 unfold impl_GramOk.f
 rw [impl_SignBig.is]
 simp only [Option.bind_some, gramOkB]
 refine Tot.ite (fun h => ?_) (fun h => Tot.step (h := fun _ => some false) (fun k => rfl) (Tot.ret (by simp [Bool.eq_false_iff.mpr h])))
 rw [h]
 refine Tot.step (fun k => rfl) (Tot.ite (fun h2 => Tot.ret ?_) (fun h2 => ?_))
 ·have : ¬ l.length ≤ 8 := by have := of_decide_eq_true h2; omega
  simp [this]
 have : l.length ≤ 8 := by simp at h2; omega
 simpa [this] using key l.length 0 (by omega)
/-! ### a text is right -/
def textOkB (s : ByteArray) : Bool := decide ((s.size : Int) ≤ 8) && s.data.toList.all isSmallB
theorem impl_TextOk.is (s : ByteArray) : impl_TextOk.f s = some (textOkB s) := by
 unfold impl_TextOk.f impl_areSmalls.f
 rw [if_pos (by decide)]; rfl
theorem spec_TextOk.tot (s : ByteArray) (hs : s.size ≤ 1099511627776) : Tot (fun k => spec_TextOk.f k s) (fun r => r = textOkB s) := by
 have key : ∀ d i : Nat, i + d = s.size → Tot (fun k => spec_TextOk.l0 k s (i : Int)) (fun r => r = (decide ((s.size : Int) ≤ 8) && (s.data.toList.drop i).all isSmallB)) := by
  intro d
  induction d with
  | zero =>
   intro i hi
   refine Tot.step (fun k => rfl) (Tot.neg (by omega) (Tot.ret ?_))
   rw [List.drop_of_length_le (by simp; omega)]; simp
  | succ d ih =>
   intro i hi
   obtain ⟨c, ec, eb⟩ := drop_cons_bt s i (by omega)
   refine Tot.step (fun k => rfl) (Tot.pos (by omega) (Tot.pos (by omega) ?_))
   rw [eb, spec_l1Small.is, ec, List.all_cons, w64 (by omega) (by omega)]
   simp only [Option.bind_some]
   refine Tot.ite (fun h => ?_) (fun h => Tot.ret ?_)
   ·rw [h]; simpa using ih (i + 1) (by omega)
   simp [Bool.eq_false_iff.mpr h]
 simpa [textOkB, spec_TextOk.f] using key s.size 0 (by omega)
theorem impl_areBoth.tot (s : ByteArray) (l : List RuleS) (t : ByteArray) (hl : SmallG l) : Tot (fun k => impl_areBoth.f k s l t) (fun r => r = (gramOkB s l && textOkB t)) := by
 unfold impl_areBoth.f
 refine Tot.bind (impl_GramOk.tot s l hl) ?_
 rintro _ rfl
 rw [impl_TextOk.is]
 refine Tot.ite (fun h => Tot.ret (by rw [h]; rfl)) (fun h => Tot.ret (by simp [Bool.eq_false_iff.mpr h]))
abbrev Prods := List (UInt8 × List UInt8)
def prods (l : List RuleS) : Prods := l.map fun x => (x.f0.data.toList.headD 0, x.f1.data.toList)
inductive Gen (R : Prods) : List UInt8 → List UInt8 → Prop
 | nil : Gen R [] []
 | small {c : UInt8} {r w : List UInt8} : isSmallB c = true → Gen R r w → Gen R (c :: r) (c :: w)
 | big {c : UInt8} {x r u v : List UInt8} : (c, x) ∈ R → isBigB c = true → Gen R x u → Gen R r v → Gen R (c :: r) (u ++ v)
theorem small_not_big {c : UInt8} (h : isSmallB c = true) : isBigB c = false := by
 rw [isSmallB_iff] at h
 rw [Bool.eq_false_iff]
 intro h2
 rw [isBigB_iff] at h2
 omega
theorem big_not_small {c : UInt8} (h : isBigB c = true) : isSmallB c = false := by
 rw [Bool.eq_false_iff]
 intro h2
 rw [small_not_big h2] at h
 cases h
theorem Gen.nil_inv {R : Prods} {w : List UInt8} (h : Gen R [] w) : w = [] := by cases h; rfl
theorem Gen.append {R : Prods} {s w s' w' : List UInt8} (h : Gen R s w) (h' : Gen R s' w') : Gen R (s ++ s') (w ++ w') := by
 induction h with
 | nil => exact h'
 | small hc _ ih => exact Gen.small hc ih
 | big hm hb hx _ _ ih => rw [List.append_assoc]; exact Gen.big hm hb hx ih
theorem Gen.split {R : Prods} {s s' w : List UInt8} (h : Gen R (s ++ s') w) : ∃ u v, w = u ++ v ∧ Gen R s u ∧ Gen R s' v := by
 induction s generalizing w with
 | nil => exact ⟨[], w, rfl, Gen.nil, h⟩
 | cons c s ih =>
  rw [List.cons_append] at h
  cases h with
  | small hc hr =>
   obtain ⟨u, v, rfl, h1, h2⟩ := ih hr
   exact ⟨c :: u, v, rfl, Gen.small hc h1, h2⟩
  | big hm hb hx hr =>
   obtain ⟨u, v, rfl, h1, h2⟩ := ih hr
   exact ⟨_ ++ u, v, by rw [List.append_assoc], Gen.big hm hb hx h1, h2⟩
theorem Gen.rule {R : Prods} {c : UInt8} {x u : List UInt8} (hm : (c, x) ∈ R) (hb : isBigB c = true) (h : Gen R x u) : Gen R [c] u := by
 have := Gen.big hm hb h Gen.nil
 simpa using this
theorem Gen.one_inv {R : Prods} {c : UInt8} {w : List UInt8} (h : Gen R [c] w) : (isSmallB c = true ∧ w = [c]) ∨ (isBigB c = true ∧ ∃ x, (c, x) ∈ R ∧ Gen R x w) := by
 cases h with
 | small hc hr => rw [hr.nil_inv]; exact Or.inl ⟨hc, rfl⟩
 | big hm hb hx hr => rw [hr.nil_inv, List.append_nil]; exact Or.inr ⟨hb, _, hm, hx⟩
theorem Gen.among {R : Prods} {s w : List UInt8} (h : Gen R s w) : ∀ c ∈ w, c ∈ s ∨ ∃ p ∈ R, c ∈ p.2 := by
 induction h with
 | nil => simp
 | small hc _ ih =>
  intro d hd
  rcases List.mem_cons.1 hd with rfl | hd
  ·exact Or.inl List.mem_cons_self
  exact (ih d hd).imp (List.mem_cons_of_mem _) id
 | big hm _ _ _ ih1 ih2 =>
  intro d hd
  rcases List.mem_append.1 hd with hd | hd
  ·rcases ih1 d hd with h | h
   ·exact Or.inr ⟨_, hm, h⟩
   exact Or.inr h
  exact (ih2 d hd).imp (List.mem_cons_of_mem _) id
theorem Gen.mono {R R' : Prods} (hR : ∀ p ∈ R, p ∈ R') {s w : List UInt8} (h : Gen R s w) : Gen R' s w := by
 induction h with
 | nil => exact Gen.nil
 | small hc _ ih => exact Gen.small hc ih
 | big hm hb _ _ ih1 ih2 => exact Gen.big (hR _ hm) hb ih1 ih2
/-! ### parts of a text -/
def part (t : List UInt8) (i j : Nat) : List UInt8 := (t.drop i).take (j - i)
theorem part_self (t : List UInt8) (i : Nat) : part t i i = [] := by simp [part]
theorem part_all (t : List UInt8) : part t 0 t.length = t := by simp [part]
theorem part_length (t : List UInt8) {i j : Nat} (hj : j ≤ t.length) : (part t i j).length = j - i := by
 unfold part; rw [List.length_take, List.length_drop]; omega
theorem part_append (t : List UInt8) {i m j : Nat} (h1 : i ≤ m) (h2 : m ≤ j) : part t i j = part t i m ++ part t m j := by
 unfold part
 have e : j - i = (m - i) + (j - m) := by omega
 rw [e, List.take_add, List.drop_drop]
 congr 3
 omega
theorem part_one (t : List UInt8) {i : Nat} (h : i < t.length) : part t i (i + 1) = [t[i]] := by
 unfold part
 rw [List.drop_eq_getElem_cons h, show i + 1 - i = 1 by omega]
 rfl
theorem part_cons (t : List UInt8) {i j : Nat} (h : i < j) (hj : j ≤ t.length) : part t i j = t[i]'(by omega) :: part t (i + 1) j := by
 rw [part_append t (show i ≤ i + 1 by omega) (show i + 1 ≤ j by omega), part_one t (by omega)]
 rfl
/-! ### texts as lists -/
def ofL (l : List UInt8) : ByteArray := ⟨l.toArray⟩
theorem ofL_list (l : List UInt8) : (ofL l).data.toList = l := rfl
theorem ofL_size (l : List UInt8) : (ofL l).size = l.length := rfl
theorem ofL_of (s : ByteArray) : ofL s.data.toList = s := bytes_ext rfl
theorem ofL_append (a b : List UInt8) : ofL a ++ ofL b = ofL (a ++ b) := bytes_ext (by rw [ByteArray.data_append, Array.toList_append]; rfl)
theorem ex_list (s : ByteArray) (a b : Nat) : (s.extract a b).data.toList = part s.data.toList a b := by
 unfold part
 simp only [ByteArray.data_extract, Array.toList_extract, List.extract_eq_take_drop]
theorem ex_ofL (s : ByteArray) (a b : Nat) : s.extract a b = ofL (part s.data.toList a b) := bytes_ext (ex_list s a b)
theorem part_zero (t : List UInt8) (j : Nat) : part t 0 j = t.take j := by unfold part; rw [List.drop_zero, Nat.sub_zero]
/-! ### charts -/
def DerP (f : UInt8 → Nat → Nat → Prop) (t : List UInt8) (c : UInt8) (i j : Nat) : Prop := if isSmallB c = true then j = i + 1 ∧ t[i]? = some c else f c i j
def SplitP (f : UInt8 → Nat → Nat → Prop) (t : List UInt8) : List UInt8 → Nat → Nat → Prop
 | [], i, j => i = j
 | c :: r, i, j => ∃ m, i ≤ m ∧ m ≤ j ∧ DerP f t c i m ∧ SplitP f t r m j
theorem SplitP.le {f : UInt8 → Nat → Nat → Prop} {t s : List UInt8} {i j : Nat} (h : SplitP f t s i j) : i ≤ j := by
 induction s generalizing i with
 | nil => exact Nat.le_of_eq h
 | cons c s ih =>
  obtain ⟨m, h1, h2, _, h3⟩ := h
  omega
theorem SplitP.mono {f g : UInt8 → Nat → Nat → Prop} {t : List UInt8} (hf : ∀ c i j, f c i j → g c i j) : ∀ {s : List UInt8} {i j : Nat}, SplitP f t s i j → SplitP g t s i j
 | [], _, _, h => h
 | c :: s, i, j, h => by
  obtain ⟨m, h1, h2, h3, h4⟩ := h
  refine ⟨m, h1, h2, ?_, SplitP.mono hf h4⟩
  unfold DerP at h3 ⊢
  split
  ·rename_i hc; rw [if_pos hc] at h3; exact h3
  rename_i hc; rw [if_neg hc] at h3; exact hf _ _ _ h3
def Sound (R : Prods) (t : List UInt8) (f : UInt8 → Nat → Nat → Prop) : Prop := ∀ c i j, f c i j → i ≤ j ∧ j ≤ t.length ∧ isBigB c = true ∧ Gen R [c] (part t i j)
def Closed (R : Prods) (t : List UInt8) (f : UInt8 → Nat → Nat → Prop) : Prop := ∀ p ∈ R, ∀ i j, i ≤ j → j ≤ t.length → SplitP f t p.2 i j → f p.1 i j
theorem DerP.sound {R : Prods} {t : List UInt8} {f : UInt8 → Nat → Nat → Prop} (hf : Sound R t f) {c : UInt8} {i j : Nat} (h : DerP f t c i j) : Gen R [c] (part t i j) := by
 unfold DerP at h
 split at h
 ·rename_i hc
  obtain ⟨rfl, h⟩ := h
  obtain ⟨hi, e⟩ := List.getElem?_eq_some_iff.1 h
  rw [part_one t hi, e]
  exact Gen.small hc Gen.nil
 exact (hf _ _ _ h).2.2.2
theorem SplitP.sound {R : Prods} {t : List UInt8} {f : UInt8 → Nat → Nat → Prop} (hf : Sound R t f) : ∀ {s : List UInt8} {i j : Nat}, SplitP f t s i j → Gen R s (part t i j)
 | [], i, j, h => by have h : i = j := h; subst h; rw [part_self]; exact Gen.nil
 | c :: s, i, j, h => by
  obtain ⟨m, h1, h2, h3, h4⟩ := h
  rw [part_append t h1 h2]
  exact Gen.append (s := [c]) (h3.sound hf) (SplitP.sound hf h4)
theorem Closed.complete {R : Prods} {t : List UInt8} {f : UInt8 → Nat → Nat → Prop} (hf : Closed R t f) {s w : List UInt8} (h : Gen R s w) : ∀ {i j : Nat}, i ≤ j → j ≤ t.length → part t i j = w → SplitP f t s i j := by
 induction h with
 | nil =>
  intro i j hij hj e
  have := part_length t (i := i) hj
  rw [e] at this
  simp at this
  show i = j
  omega
 | @small c r w hc hr ih =>
  intro i j hij hj e
  have hl := part_length t (i := i) hj
  rw [e, List.length_cons] at hl
  rw [part_cons t (show i < j by omega) hj] at e
  injection e with e1 e2
  refine ⟨i + 1, by omega, by omega, ?_, ih (by omega) hj e2⟩
  unfold DerP
  rw [if_pos hc, List.getElem?_eq_getElem (by omega), e1]
  exact ⟨rfl, rfl⟩
 | @big c x r u v hm hb hx hr ih1 ih2 =>
  intro i j hij hj e
  have hl := part_length t (i := i) hj
  rw [e, List.length_append] at hl
  have e2 := part_append t (show i ≤ i + u.length by omega) (show i + u.length ≤ j by omega)
  rw [e] at e2
  have h3 := List.append_inj e2 (by rw [part_length t (by omega)]; omega)
  refine ⟨i + u.length, by omega, by omega, ?_, ih2 (by omega) hj h3.2.symm⟩
  unfold DerP
  rw [big_not_small hb, if_neg (by decide)]
  exact hf (c, x) hm _ _ (by omega) (by omega) (ih1 (by omega) (by omega) h3.1.symm)
theorem chart_is {R : Prods} {t : List UInt8} {f : UInt8 → Nat → Nat → Prop} (h1 : Sound R t f) (h2 : Closed R t f) {c : UInt8} {i j : Nat} (hij : i ≤ j) (hj : j ≤ t.length) : DerP f t c i j ↔ Gen R [c] (part t i j) := by
 constructor
 ·exact fun h => h.sound h1
 intro h
 obtain ⟨m, h3, h4, h5, h6⟩ := h2.complete h hij hj rfl
 have h6 : m = j := h6
 subst h6
 exact h5
inductive Ed : List UInt8 → List UInt8 → Nat → Prop
 | nil {n : Nat} : Ed [] [] n
 | keep {c : UInt8} {s t : List UInt8} {n : Nat} : Ed s t n → Ed (c :: s) (c :: t) n
 | turn {c d : UInt8} {s t : List UInt8} {n : Nat} : Ed s t n → Ed (c :: s) (d :: t) (n + 1)
 | ins {d : UInt8} {s t : List UInt8} {n : Nat} : Ed s t n → Ed s (d :: t) (n + 1)
 | del {c : UInt8} {s t : List UInt8} {n : Nat} : Ed s t n → Ed (c :: s) t (n + 1)
theorem Ed.mono {s t : List UInt8} {n m : Nat} (h : Ed s t n) (hm : n ≤ m) : Ed s t m := by
 induction h generalizing m with
 | nil => exact Ed.nil
 | keep _ ih => exact Ed.keep (ih hm)
 | turn _ ih => obtain ⟨k, rfl⟩ : ∃ k, m = k + 1 := ⟨m - 1, by omega⟩; exact Ed.turn (ih (by omega))
 | ins _ ih => obtain ⟨k, rfl⟩ : ∃ k, m = k + 1 := ⟨m - 1, by omega⟩; exact Ed.ins (ih (by omega))
 | del _ ih => obtain ⟨k, rfl⟩ : ∃ k, m = k + 1 := ⟨m - 1, by omega⟩; exact Ed.del (ih (by omega))
theorem Ed.refl (s : List UInt8) (n : Nat) : Ed s s n := by
 induction s with
 | nil => exact Ed.nil
 | cons c s ih => exact Ed.keep ih
theorem Ed.all_del (s : List UInt8) : Ed s [] s.length := by
 induction s with
 | nil => exact Ed.nil
 | cons c s ih => exact Ed.del ih
theorem Ed.to_nil {s : List UInt8} {n : Nat} (h : Ed s [] n) : s.length ≤ n := by
 induction s generalizing n with
 | nil => exact Nat.zero_le _
 | cons c s ih =>
  cases h with
  | del h => have := ih h; simp; omega
theorem Ed.append {s t s' t' : List UInt8} {n m : Nat} (h : Ed s t n) (h' : Ed s' t' m) : Ed (s ++ s') (t ++ t') (n + m) := by
 induction h with
 | @nil n => exact h'.mono (by omega)
 | keep _ ih => exact Ed.keep ih
 | @turn _ _ _ _ n _ ih => rw [show n + 1 + m = n + m + 1 by omega]; exact Ed.turn ih
 | @ins _ _ _ n _ ih => rw [show n + 1 + m = n + m + 1 by omega]; exact Ed.ins ih
 | @del _ _ _ n _ ih => rw [show n + 1 + m = n + m + 1 by omega]; exact Ed.del ih
theorem Ed.split_right {s t t' : List UInt8} {n : Nat} (h : Ed s (t ++ t') n) : ∃ s1 s2 n1 n2, s = s1 ++ s2 ∧ n1 + n2 ≤ n ∧ Ed s1 t n1 ∧ Ed s2 t' n2 := by
 generalize e : t ++ t' = u at h
 induction h generalizing t with
 | @nil n =>
  obtain ⟨rfl, rfl⟩ := List.append_eq_nil_iff.1 e
  exact ⟨[], [], 0, 0, rfl, by omega, Ed.nil, Ed.nil⟩
 | @keep c s u n h ih =>
  cases t with
  | nil => exact ⟨[], c :: s, 0, n, rfl, by omega, Ed.nil, by rw [List.nil_append] at e; rw [e]; exact Ed.keep h⟩
  | cons a t =>
   rw [List.cons_append] at e
   injection e with e1 e2
   obtain ⟨s1, s2, n1, n2, rfl, hn, h1, h2⟩ := ih e2
   exact ⟨c :: s1, s2, n1, n2, rfl, hn, by rw [e1]; exact Ed.keep h1, h2⟩
 | @turn c d s u n h ih =>
  cases t with
  | nil => exact ⟨[], c :: s, 0, n + 1, rfl, by omega, Ed.nil, by rw [List.nil_append] at e; rw [e]; exact Ed.turn h⟩
  | cons a t =>
   rw [List.cons_append] at e
   injection e with e1 e2
   obtain ⟨s1, s2, n1, n2, rfl, hn, h1, h2⟩ := ih e2
   exact ⟨c :: s1, s2, n1 + 1, n2, rfl, by omega, Ed.turn h1, h2⟩
 | @ins d s u n h ih =>
  cases t with
  | nil => exact ⟨[], s, 0, n + 1, rfl, by omega, Ed.nil, by rw [List.nil_append] at e; rw [e]; exact Ed.ins h⟩
  | cons a t =>
   rw [List.cons_append] at e
   injection e with e1 e2
   obtain ⟨s1, s2, n1, n2, rfl, hn, h1, h2⟩ := ih e2
   exact ⟨s1, s2, n1 + 1, n2, rfl, by omega, Ed.ins h1, h2⟩
 | @del c s u n h ih =>
  obtain ⟨s1, s2, n1, n2, rfl, hn, h1, h2⟩ := ih e
  exact ⟨c :: s1, s2, n1 + 1, n2, rfl, by omega, Ed.del h1, h2⟩
theorem Ed.split_left {s s' t : List UInt8} {n : Nat} (h : Ed (s ++ s') t n) : ∃ t1 t2 n1 n2, t = t1 ++ t2 ∧ n1 + n2 ≤ n ∧ Ed s t1 n1 ∧ Ed s' t2 n2 := by
 generalize e : s ++ s' = u at h
 induction h generalizing s with
 | @nil n =>
  obtain ⟨rfl, rfl⟩ := List.append_eq_nil_iff.1 e
  exact ⟨[], [], 0, 0, rfl, by omega, Ed.nil, Ed.nil⟩
 | @keep c u t n h ih =>
  cases s with
  | nil => exact ⟨[], c :: t, 0, n, rfl, by omega, Ed.nil, by rw [List.nil_append] at e; rw [e]; exact Ed.keep h⟩
  | cons a s =>
   rw [List.cons_append] at e
   injection e with e1 e2
   obtain ⟨s1, s2, n1, n2, rfl, hn, h1, h2⟩ := ih e2
   exact ⟨c :: s1, s2, n1, n2, rfl, hn, by rw [e1]; exact Ed.keep h1, h2⟩
 | @turn c d u t n h ih =>
  cases s with
  | nil => exact ⟨[], d :: t, 0, n + 1, rfl, by omega, Ed.nil, by rw [List.nil_append] at e; rw [e]; exact Ed.turn h⟩
  | cons a s =>
   rw [List.cons_append] at e
   injection e with e1 e2
   obtain ⟨s1, s2, n1, n2, rfl, hn, h1, h2⟩ := ih e2
   exact ⟨d :: s1, s2, n1 + 1, n2, rfl, by omega, Ed.turn h1, h2⟩
 | @ins d u t n h ih =>
  obtain ⟨s1, s2, n1, n2, rfl, hn, h1, h2⟩ := ih e
  exact ⟨d :: s1, s2, n1 + 1, n2, rfl, by omega, Ed.ins h1, h2⟩
 | @del c u t n h ih =>
  cases s with
  | nil => exact ⟨[], t, 0, n + 1, rfl, by omega, Ed.nil, by rw [List.nil_append] at e; rw [e]; exact Ed.del h⟩
  | cons a s =>
   rw [List.cons_append] at e
   injection e with e1 e2
   obtain ⟨s1, s2, n1, n2, rfl, hn, h1, h2⟩ := ih e2
   exact ⟨s1, s2, n1 + 1, n2, rfl, by omega, Ed.del h1, h2⟩
theorem Ed.drop_head {c : UInt8} {s t : List UInt8} {n : Nat} (h : Ed (c :: s) t n) : Ed s t (n + 1) := by
 generalize e : c :: s = u at h
 induction h with
 | nil => cases e
 | keep h _ => injection e with e1 e2; rw [e2]; exact Ed.ins h
 | @turn _ _ _ _ n h _ => injection e with e1 e2; rw [e2]; exact Ed.ins (h.mono (by omega))
 | ins _ ih => exact Ed.ins (ih e)
 | @del _ _ _ n h _ => injection e with e1 e2; rw [e2]; exact h.mono (by omega)
theorem Ed.turn_head {c d : UInt8} {s t : List UInt8} {n : Nat} (h : Ed (c :: s) t n) : Ed (d :: s) t (n + 1) := by
 generalize e : c :: s = u at h
 induction h with
 | nil => cases e
 | keep h _ => injection e with e1 e2; rw [e2]; exact Ed.turn h
 | @turn _ _ _ _ n h _ => injection e with e1 e2; rw [e2]; exact Ed.turn (h.mono (by omega))
 | ins _ ih => exact Ed.ins (ih e)
 | @del _ _ _ n h _ => injection e with e1 e2; rw [e2]; exact (Ed.del h).mono (by omega)
inductive OneEdit : List UInt8 → List UInt8 → Prop
 | put {p q : List UInt8} {d : UInt8} : OneEdit (p ++ q) (p ++ d :: q)
 | out {p q : List UInt8} {c : UInt8} : OneEdit (p ++ c :: q) (p ++ q)
 | turn {p q : List UInt8} {c d : UInt8} : OneEdit (p ++ c :: q) (p ++ d :: q)
theorem OneEdit.far {s y t : List UInt8} {n : Nat} (h : OneEdit s y) (hy : Ed y t n) : Ed s t (n + 1) := by
 cases h with
 | put =>
  obtain ⟨t1, t2, n1, n2, rfl, hn, h1, h2⟩ := hy.split_left
  exact (h1.append h2.drop_head).mono (by omega)
 | out =>
  obtain ⟨t1, t2, n1, n2, rfl, hn, h1, h2⟩ := hy.split_left
  exact (h1.append (Ed.del h2)).mono (by omega)
 | turn =>
  obtain ⟨t1, t2, n1, n2, rfl, hn, h1, h2⟩ := hy.split_left
  exact (h1.append h2.turn_head).mono (by omega)
theorem Ed.first {s t : List UInt8} {n : Nat} (h : Ed s t (n + 1)) : Ed s t n ∨
  ∃ p q, (∃ d, s = p ++ q ∧ d ∈ t ∧ Ed (p ++ d :: q) t n) ∨ (∃ c, s = p ++ c :: q ∧ Ed (p ++ q) t n) ∨ (∃ c d, s = p ++ c :: q ∧ d ∈ t ∧ c ≠ d ∧ Ed (p ++ d :: q) t n) := by
 generalize e : n + 1 = m at h
 induction h with
 | nil => exact Or.inl Ed.nil
 | @keep c s t m h ih =>
  rcases ih e with g | ⟨p, q, ⟨d, hs, hd, g⟩ | ⟨a, hs, g⟩ | ⟨a, d, hs, hd, hne, g⟩⟩
  ·exact Or.inl (Ed.keep g)
  ·exact Or.inr ⟨c :: p, q, Or.inl ⟨d, by rw [hs]; rfl, List.mem_cons_of_mem _ hd, Ed.keep g⟩⟩
  ·exact Or.inr ⟨c :: p, q, Or.inr (Or.inl ⟨a, by rw [hs]; rfl, Ed.keep g⟩)⟩
  exact Or.inr ⟨c :: p, q, Or.inr (Or.inr ⟨a, d, by rw [hs]; rfl, List.mem_cons_of_mem _ hd, hne, Ed.keep g⟩)⟩
 | @turn c d s t m h ih =>
  obtain rfl : n = m := by omega
  by_cases hcd : c = d
  ·subst hcd; exact Or.inl (Ed.keep h)
  exact Or.inr ⟨[], s, Or.inr (Or.inr ⟨c, d, rfl, List.mem_cons_self, hcd, Ed.keep h⟩)⟩
 | @ins d s t m h ih =>
  obtain rfl : n = m := by omega
  exact Or.inr ⟨[], s, Or.inl ⟨d, rfl, List.mem_cons_self, Ed.keep h⟩⟩
 | @del c s t m h ih =>
  obtain rfl : n = m := by omega
  exact Or.inr ⟨[], s, Or.inr (Or.inl ⟨c, rfl, h⟩)⟩
def leafCost (w : List UInt8) (c : UInt8) : Nat := if w.contains c = true then w.length - 1 else if w.length = 0 then 1 else w.length
theorem Ed.leaf_le {w : List UInt8} {c : UInt8} {n : Nat} (h : Ed w [c] n) : leafCost w c ≤ n := by
 induction w generalizing n with
 | nil =>
  cases h with
  | ins h => simp [leafCost]
 | cons a w ih =>
  unfold leafCost
  cases h with
  | keep h => have := h.to_nil; simp; omega
  | turn h => have := h.to_nil; split <;> simp <;> omega
  | ins h => have := h.to_nil; simp at this; split <;> simp <;> omega
  | @del _ _ _ n h =>
   have := ih h
   unfold leafCost at this
   split
   ·simp
    split at this
    ·omega
    split at this <;> omega
   rename_i hc
   rw [if_neg (by intro h2; apply hc; simp at h2 ⊢; exact Or.inr h2)] at this
   simp
   split at this <;> omega
theorem Ed.leaf (w : List UInt8) (c : UInt8) : Ed w [c] (leafCost w c) := by
 induction w with
 | nil => exact Ed.ins Ed.nil
 | cons a w ih =>
  unfold leafCost
  split
  ·rename_i hc
   by_cases h : a = c
   ·subst h; simp; exact Ed.keep (Ed.all_del w)
   have hw : w.contains c = true := by
    simp at hc ⊢
    exact hc.resolve_left (fun e => h e.symm)
   unfold leafCost at ih
   rw [if_pos hw] at ih
   have hl : 0 < w.length := by cases w with | nil => simp at hw | cons => simp
   have := Ed.del (c := a) ih
   refine this.mono ?_
   simp; omega
  rw [if_neg (by simp)]
  exact (Ed.turn (Ed.all_del w)).mono (by simp)
def Far (R : Prods) (s w : List UInt8) (n : Nat) : Prop := ∃ v, Gen R s v ∧ Ed w v n
theorem Far.mono {R : Prods} {s w : List UInt8} {n m : Nat} (h : Far R s w n) (hm : n ≤ m) : Far R s w m := by
 obtain ⟨v, h1, h2⟩ := h
 exact ⟨v, h1, h2.mono hm⟩
theorem Far.zero {R : Prods} {s w : List UInt8} : Far R s w 0 ↔ Gen R s w := by
 constructor
 ·rintro ⟨v, h1, h2⟩
  generalize e : 0 = n at h2
  have : w = v := by
   clear h1
   induction h2 with
   | nil => rfl
   | keep _ ih => rw [ih e]
   | turn => omega
   | ins => omega
   | del => omega
  rw [this]; exact h1
 exact fun h => ⟨w, h, Ed.refl _ _⟩
theorem Far.cons {R : Prods} {c : UInt8} {r w1 w2 : List UInt8} {n1 n2 : Nat} (h1 : Far R [c] w1 n1) (h2 : Far R r w2 n2) : Far R (c :: r) (w1 ++ w2) (n1 + n2) := by
 obtain ⟨v1, g1, e1⟩ := h1
 obtain ⟨v2, g2, e2⟩ := h2
 exact ⟨v1 ++ v2, Gen.append (s := [c]) g1 g2, e1.append e2⟩
theorem Far.nil_iff {R : Prods} {w : List UInt8} {n : Nat} : Far R [] w n ↔ w.length ≤ n := by
 constructor
 ·rintro ⟨v, g, e⟩
  rw [g.nil_inv] at e
  exact e.to_nil
 exact fun h => ⟨[], Gen.nil, (Ed.all_del w).mono h⟩
theorem Far.small_iff {R : Prods} {c : UInt8} (hc : isSmallB c = true) {w : List UInt8} {n : Nat} : Far R [c] w n ↔ leafCost w c ≤ n := by
 constructor
 ·rintro ⟨v, g, e⟩
  rcases g.one_inv with ⟨_, rfl⟩ | ⟨hb, _⟩
  ·exact e.leaf_le
  rw [small_not_big hc] at hb; cases hb
 exact fun h => ⟨[c], Gen.small hc Gen.nil, (Ed.leaf w c).mono h⟩
theorem Far.rule {R : Prods} {c : UInt8} {x w : List UInt8} {n : Nat} (hm : (c, x) ∈ R) (hb : isBigB c = true) (h : Far R x w n) : Far R [c] w n := by
 obtain ⟨v, g, e⟩ := h
 exact ⟨v, g.rule hm hb, e⟩
theorem Far.append {R : Prods} {s s' w1 w2 : List UInt8} {n1 n2 : Nat} (h1 : Far R s w1 n1) (h2 : Far R s' w2 n2) : Far R (s ++ s') (w1 ++ w2) (n1 + n2) := by
 obtain ⟨v1, g1, e1⟩ := h1
 obtain ⟨v2, g2, e2⟩ := h2
 exact ⟨v1 ++ v2, Gen.append g1 g2, e1.append e2⟩
abbrev Costs := UInt8 → Nat → Nat → Nat
def costOf (f : Costs) (t : List UInt8) (c : UInt8) (i j : Nat) : Nat := if isSmallB c = true then leafCost (part t i j) c else f c i j
def RowP (f : Costs) (t : List UInt8) : List UInt8 → Nat → Nat → Nat → Prop
 | [], i, j, n => i = j ∧ n = 0
 | c :: r, i, j, n => ∃ m k, i ≤ m ∧ m ≤ j ∧ RowP f t r m j k ∧ n = costOf f t c i m + k
theorem RowP.le {f : Costs} {t s : List UInt8} {i j n : Nat} (h : RowP f t s i j n) : i ≤ j := by
 induction s generalizing i n with
 | nil => exact Nat.le_of_eq h.1
 | cons c s ih =>
  obtain ⟨m, k, h1, h2, h3, _⟩ := h
  omega
theorem RowP.snoc {f : Costs} {t : List UInt8} {c : UInt8} : ∀ {s : List UInt8} {i j n : Nat}, RowP f t (s ++ [c]) i j n ↔ ∃ m k, i ≤ m ∧ m ≤ j ∧ RowP f t s i m k ∧ n = k + costOf f t c m j
 | [], i, j, n => by
  constructor
  ·rintro ⟨m, k, h1, h2, ⟨rfl, rfl⟩, rfl⟩
   exact ⟨i, 0, Nat.le_refl _, h1, ⟨rfl, rfl⟩, by omega⟩
  rintro ⟨m, k, h1, h2, ⟨rfl, rfl⟩, rfl⟩
  exact ⟨j, 0, h2, Nat.le_refl _, ⟨rfl, rfl⟩, by omega⟩
 | a :: s, i, j, n => by
  constructor
  ·rintro ⟨m, k, h1, h2, h3, rfl⟩
   obtain ⟨m', k', h4, h5, h6, rfl⟩ := RowP.snoc.1 h3
   exact ⟨m', costOf f t a i m + k', by omega, h5, ⟨m, k', h1, h4, h6, rfl⟩, by omega⟩
  rintro ⟨m, k, h1, h2, ⟨m', k', h4, h5, h6, rfl⟩, rfl⟩
  exact ⟨m', k' + costOf f t c m j, h4, by omega, RowP.snoc.2 ⟨m, k', h5, h2, h6, rfl⟩, by omega⟩
def RuleP (f : Costs) (t : List UInt8) (x : List UInt8) (i j n : Nat) : Prop := if x = [] then n = j - i else RowP f t x i j n
def CSound (R : Prods) (t : List UInt8) (C : Nat) (f : Costs) : Prop := ∀ c i j, f c i j ≤ C ∧ (f c i j < C → i ≤ j ∧ j ≤ t.length ∧ isBigB c = true ∧ Far R [c] (part t i j) (f c i j))
def CClosed (R : Prods) (t : List UInt8) (C : Nat) (f : Costs) : Prop := ∀ p ∈ R, ∀ i j, i ≤ j → j ≤ t.length → ∀ n, n < C → RuleP f t p.2 i j n → f p.1 i j ≤ n
theorem costOf_sound {R : Prods} {t : List UInt8} {C : Nat} {f : Costs} (hf : CSound R t C f) {c : UInt8} {i j : Nat} (h : costOf f t c i j < C) : Far R [c] (part t i j) (costOf f t c i j) := by
 unfold costOf at h ⊢
 split
 ·rename_i hc
  exact (Far.small_iff hc).2 (Nat.le_refl _)
 rename_i hc
 rw [if_neg hc] at h
 exact ((hf c i j).2 h).2.2.2
theorem RowP.sound {R : Prods} {t : List UInt8} {C : Nat} {f : Costs} (hf : CSound R t C f) : ∀ {s : List UInt8} {i j n : Nat}, n < C → RowP f t s i j n → Far R s (part t i j) n
 | [], i, j, n, hn, h => by
  obtain ⟨rfl, rfl⟩ := h
  rw [part_self]
  exact Far.nil_iff.2 (Nat.le_refl _)
 | c :: s, i, j, n, hn, h => by
  obtain ⟨m, k, h1, h2, h3, rfl⟩ := h
  rw [part_append t h1 h2]
  exact Far.cons (costOf_sound hf (by omega)) (RowP.sound hf (by omega) h3)
theorem RuleP.sound {R : Prods} {t : List UInt8} {C : Nat} {f : Costs} (hf : CSound R t C f) {s : List UInt8} {i j n : Nat} (hj : j ≤ t.length) (hn : n < C) (h : RuleP f t s i j n) : Far R s (part t i j) n := by
 unfold RuleP at h
 split at h
 ·rename_i hs
  subst hs
  rw [Far.nil_iff, part_length t hj]
  omega
 exact h.sound hf hn
theorem CClosed.complete {R : Prods} {t : List UInt8} {C : Nat} {f : Costs} (hf : CClosed R t C f) {s v : List UInt8} (h : Gen R s v) : ∀ {i j n : Nat}, i ≤ j → j ≤ t.length → n < C → Ed (part t i j) v n → ∃ k, k ≤ n ∧ RuleP f t s i j k := by
 have cut : ∀ {i j : Nat} {s1 s2 : List UInt8}, i ≤ j → j ≤ t.length → part t i j = s1 ++ s2 → ∃ m, i ≤ m ∧ m ≤ j ∧ part t i m = s1 ∧ part t m j = s2 := by
  intro i j s1 s2 hij hj e
  have hl := part_length t (i := i) hj
  rw [e, List.length_append] at hl
  have e2 := part_append t (show i ≤ i + s1.length by omega) (show i + s1.length ≤ j by omega)
  rw [e] at e2
  have h3 := List.append_inj e2 (by rw [part_length t (by omega)]; omega)
  exact ⟨i + s1.length, by omega, by omega, h3.1.symm, h3.2.symm⟩
 have tail : ∀ {c : UInt8} {r v : List UInt8} {i j n : Nat}, i ≤ j → j ≤ t.length → n < C → (∀ {i m n}, i ≤ m → m ≤ t.length → n < C → ∀ {u : List UInt8}, Gen R [c] u → Ed (part t i m) u n → costOf f t c i m ≤ n) → ∀ {u : List UInt8}, Gen R [c] u → Gen R r v → (∀ {i j n : Nat}, i ≤ j → j ≤ t.length → n < C → Ed (part t i j) v n → ∃ k, k ≤ n ∧ RuleP f t r i j k) →
   Ed (part t i j) (u ++ v) n → ∃ k, k ≤ n ∧ RuleP f t (c :: r) i j k := by
  intro c r v i j n hij hj hn hone u hu hv ih he
  by_cases hr : r = []
  ·subst hr
   rw [hv.nil_inv, List.append_nil] at he
   exact ⟨costOf f t c i j, hone hij hj hn hu he, by unfold RuleP; rw [if_neg (by simp)]; exact ⟨j, 0, hij, Nat.le_refl _, ⟨rfl, rfl⟩, rfl⟩⟩
  obtain ⟨s1, s2, n1, n2, e, hle, h1, h2⟩ := he.split_right
  obtain ⟨m, hm1, hm2, rfl, rfl⟩ := cut hij hj e
  obtain ⟨k, hk, h3⟩ := ih hm2 hj (by omega) h2
  have h4 := hone hm1 (by omega) (show n1 < C by omega) hu h1
  unfold RuleP at h3
  rw [if_neg hr] at h3
  exact ⟨costOf f t c i m + k, by omega, by unfold RuleP; rw [if_neg (by simp)]; exact ⟨m, k, hm1, hm2, h3, rfl⟩⟩
 induction h with
 | nil =>
  intro i j n hij hj hn he
  have := he.to_nil
  rw [part_length t hj] at this
  exact ⟨j - i, this, by unfold RuleP; rw [if_pos rfl]⟩
 | @small c r w hc hr ih =>
  intro i j n hij hj hn he
  refine tail (u := [c]) hij hj hn ?_ (Gen.small hc Gen.nil) hr ih he
  intro i m n him hm hn u hu he
  unfold costOf
  rw [if_pos hc]
  exact (Far.small_iff hc).1 ⟨u, hu, he⟩
 | @big c x r u v hm hb hx hr ih1 ih2 =>
  intro i j n hij hj hn he
  -- the sign alone: by its rule; for any word u' of it, so an induction over that word would be needed: we cut at this very word
  by_cases hrn : r = []
  ·subst hrn
   rw [hr.nil_inv, List.append_nil] at he
   obtain ⟨k, hk, h3⟩ := ih1 hij hj hn he
   have h4 : f c i j ≤ k := hf (c, x) hm i j hij hj k (by omega) h3
   refine ⟨f c i j, by omega, ?_⟩
   unfold RuleP
   rw [if_neg (by simp)]
   exact ⟨j, 0, hij, Nat.le_refl _, ⟨rfl, rfl⟩, by unfold costOf; rw [big_not_small hb, if_neg (by decide)]; rfl⟩
  obtain ⟨s1, s2, n1, n2, e, hle, h1, h2⟩ := he.split_right
  obtain ⟨m, hm1, hm2, rfl, rfl⟩ := cut hij hj e
  obtain ⟨k1, hk1, h3⟩ := ih1 hm1 (by omega) (show n1 < C by omega) h1
  have h4 : f c i m ≤ k1 := hf (c, x) hm i m hm1 (by omega) k1 (by omega) h3
  obtain ⟨k2, hk2, h5⟩ := ih2 hm2 hj (show n2 < C by omega) h2
  unfold RuleP at h5
  rw [if_neg hrn] at h5
  refine ⟨f c i m + k2, by omega, ?_⟩
  unfold RuleP
  rw [if_neg (by simp)]
  exact ⟨m, k2, hm1, hm2, h5, by unfold costOf; rw [big_not_small hb, if_neg (by decide)]⟩
abbrev Chart := UInt8 → Nat → Nat → Prop
def gridL (N : Nat) : List (UInt8 × Nat × Nat) := [65, 66, 67, 68, 69].flatMap fun c => (List.range (N + 1)).flatMap fun i => (List.range (N + 1)).map fun j => (c, i, j)
theorem mem_gridL {N : Nat} {c : UInt8} {i j : Nat} : (c, i, j) ∈ gridL N ↔ isBigB c = true ∧ i ≤ N ∧ j ≤ N := by
 unfold gridL isBigB
 simp only [List.mem_flatMap, List.mem_map, List.mem_range, List.contains_iff_mem, Prod.mk.injEq]
 constructor
 ·rintro ⟨c', hc, i', hi, j', hj, rfl, rfl, rfl⟩
  exact ⟨hc, by omega, by omega⟩
 rintro ⟨hc, hi, hj⟩
 exact ⟨c, hc, i, by omega, j, by omega, rfl, rfl, rfl⟩
theorem gridL_length (N : Nat) : (gridL N).length = 5 * ((N + 1) * (N + 1)) := by
 unfold gridL
 simp only [List.length_flatMap, List.length_map, List.length_range, List.map_const', List.sum_replicate_nat, List.length_cons, List.length_nil]
open Classical in
noncomputable def openN (N : Nat) (f : Chart) : Nat := (gridL N).countP fun x => decide (¬ f x.1 x.2.1 x.2.2)
open Classical in
theorem openN_le (N : Nat) (f : Chart) : openN N f ≤ 5 * ((N + 1) * (N + 1)) := by
 rw [← gridL_length]; exact List.countP_le_length
theorem countP_less {α : Type} (p q : α → Bool) : ∀ (l : List α), (∀ x ∈ l, p x = true → q x = true) → (∃ x ∈ l, q x = true ∧ p x = false) → l.countP p < l.countP q
 | [], _, h => by obtain ⟨x, hx, _⟩ := h; cases hx
 | a :: l, h1, h2 => by
  have hle : l.countP p ≤ l.countP q := List.countP_mono_left fun x hx => h1 x (List.mem_cons_of_mem _ hx)
  obtain ⟨x, hx, hq, hp⟩ := h2
  rw [List.countP_cons, List.countP_cons]
  rcases List.mem_cons.1 hx with rfl | hx
  ·rw [hq, hp]; simp; omega
  have := countP_less p q l (fun x hx => h1 x (List.mem_cons_of_mem _ hx)) ⟨x, hx, hq, hp⟩
  have ha := h1 a List.mem_cons_self
  by_cases hpa : p a = true
  ·rw [hpa, ha hpa]; simpa using this
  rw [if_neg hpa]
  split <;> omega
open Classical in
theorem openN_less {N : Nat} {f g : Chart} (h : ∀ c i j, f c i j → g c i j) {c : UInt8} {i j : Nat} (hm : (c, i, j) ∈ gridL N) (hf : ¬ f c i j) (hg : g c i j) : openN N g < openN N f := by
 unfold openN
 refine countP_less _ _ _ (fun x _ hx => ?_) ⟨_, hm, ?_, ?_⟩
 ·simp only [decide_eq_true_eq] at hx ⊢
  exact fun h' => hx (h _ _ _ h')
 ·simpa using hf
 simpa using hg
def putC (f : Chart) (c : UInt8) (i j : Nat) : Chart := fun c' i' j' => (c' = c ∧ i' = i ∧ j' = j) ∨ f c' i' j'
structure BInv (R : Prods) (t : List UInt8) (f0 f : Chart) (ch : Bool) (done : (UInt8 × List UInt8) → Nat → Nat → Prop) : Prop where
 sound : Sound R t f
 le : ∀ c i j, f0 c i j → f c i j
 same : ch = false → (∀ c i j, f c i j ↔ f0 c i j) ∧ ∀ p i j, done p i j → SplitP f0 t p.2 i j → f0 p.1 i j
 less : ch = true → openN t.length f < openN t.length f0
variable {R : Prods} {t : List UInt8} {f0 f : Chart} {ch : Bool} {done done' : (UInt8 × List UInt8) → Nat → Nat → Prop}
theorem BInv.start (h : Sound R t f0) : BInv R t f0 f0 false (fun _ _ _ => False) := ⟨h, fun _ _ _ h => h, fun _ => ⟨fun _ _ _ => Iff.rfl, fun _ _ _ h => h.elim⟩, fun h => by cases h⟩
theorem BInv.weaken (h : BInv R t f0 f ch done) (hd : ∀ p i j, done' p i j → done p i j) : BInv R t f0 f ch done' := ⟨h.sound, h.le, fun e => ⟨(h.same e).1, fun p i j hp => (h.same e).2 p i j (hd p i j hp)⟩, h.less⟩
theorem BInv.skip (h : BInv R t f0 f ch done) {p : UInt8 × List UInt8} {i j : Nat} (hs : f p.1 i j ∨ ¬ SplitP f t p.2 i j) (hd : ∀ p' i' j', done' p' i' j' → done p' i' j' ∨ (p' = p ∧ i' = i ∧ j' = j)) : BInv R t f0 f ch done' := by
 refine ⟨h.sound, h.le, fun e => ⟨(h.same e).1, fun p' i' j' hp hsp => ?_⟩, h.less⟩
 rcases hd p' i' j' hp with hp | ⟨rfl, rfl, rfl⟩
 ·exact (h.same e).2 p' i' j' hp hsp
 rcases hs with hs | hs
 ·exact ((h.same e).1 _ _ _).1 hs
 exact absurd (hsp.mono fun c i j => ((h.same e).1 c i j).2) hs
theorem BInv.put (h : BInv R t f0 f ch done) {p : UInt8 × List UInt8} {i j : Nat} (hp : p ∈ R) (hb : isBigB p.1 = true) (hij : i ≤ j) (hj : j ≤ t.length) (hn : ¬ f p.1 i j) (hs : SplitP f t p.2 i j) : BInv R t f0 (putC f p.1 i j) true done' := by
 have hlt : openN t.length (putC f p.1 i j) < openN t.length f := openN_less (i := i) (fun c i j hf => Or.inr hf) (mem_gridL.2 ⟨hb, by omega, hj⟩) hn (Or.inl ⟨rfl, rfl, rfl⟩)
 refine ⟨?_, fun c i j hc => Or.inr (h.le c i j hc), fun e => (by cases e), fun _ => ?_⟩
 ·intro c' i' j' hc
  rcases hc with ⟨rfl, rfl, rfl⟩ | hc
  ·exact ⟨hij, hj, hb, (hs.sound h.sound).rule hp hb⟩
  exact h.sound _ _ _ hc
 cases ch with
 | true => have := h.less rfl; omega
 | false =>
  have e : f = f0 := by funext c i j; exact propext ((h.same rfl).1 c i j)
  rw [← e]; exact hlt
theorem BInv.openN_le (h : BInv R t f0 f ch done) : openN t.length f ≤ openN t.length f0 := by
 cases ch with
 | true => have := h.less rfl; omega
 | false =>
  have e : f = f0 := by funext c i j; exact propext ((h.same rfl).1 c i j)
  rw [← e]; exact Nat.le_refl _
theorem BInv.closed (h : BInv R t f0 f false done) (hd : ∀ p ∈ R, ∀ i j, i ≤ j → j ≤ t.length → done p i j) : Closed R t f := by
 have e : f = f0 := by funext c i j; exact propext ((h.same rfl).1 c i j)
 rw [e]
 exact fun p hp i j hij hj hs => (h.same rfl).2 p i j (hd p hp i j hij hj) hs
/-! ### the same for distances -/
def sumN (N : Nat) (f : Costs) : Nat := ((gridL N).map fun x => f x.1 x.2.1 x.2.2).sum
theorem sum_less {α : Type} (p q : α → Nat) : ∀ (l : List α), (∀ x ∈ l, p x ≤ q x) → (∃ x ∈ l, p x < q x) → (l.map p).sum < (l.map q).sum
 | [], _, h => by obtain ⟨x, hx, _⟩ := h; cases hx
 | a :: l, h1, h2 => by
  have hle : ∀ (l : List α), (∀ x ∈ l, p x ≤ q x) → (l.map p).sum ≤ (l.map q).sum := by
   intro l
   induction l with
   | nil => intro _; exact Nat.le_refl _
   | cons b l ih =>
    intro h
    rw [List.map_cons, List.map_cons, List.sum_cons, List.sum_cons]
    have := ih fun x hx => h x (List.mem_cons_of_mem _ hx)
    have := h b List.mem_cons_self
    omega
  obtain ⟨x, hx, hq⟩ := h2
  rw [List.map_cons, List.map_cons, List.sum_cons, List.sum_cons]
  rcases List.mem_cons.1 hx with rfl | hx
  ·have := hle l fun x hx => h1 x (List.mem_cons_of_mem _ hx)
   omega
  have := sum_less p q l (fun x hx => h1 x (List.mem_cons_of_mem _ hx)) ⟨x, hx, hq⟩
  have := h1 a List.mem_cons_self
  omega
def putD (f : Costs) (c : UInt8) (i j n : Nat) : Costs := fun c' i' j' => if c' = c ∧ i' = i ∧ j' = j then n else f c' i' j'
theorem sumN_less {N : Nat} {f g : Costs} (h : ∀ c i j, g c i j ≤ f c i j) {c : UInt8} {i j : Nat} (hm : (c, i, j) ∈ gridL N) (hf : g c i j < f c i j) : sumN N g < sumN N f :=
 sum_less _ _ _ (fun x _ => h _ _ _) ⟨_, hm, hf⟩
structure CInv (R : Prods) (t : List UInt8) (C : Nat) (f0 f : Costs) (ch : Bool) (done : (UInt8 × List UInt8) → Nat → Nat → Prop) : Prop where
 sound : CSound R t C f
 le : ∀ c i j, f c i j ≤ f0 c i j
 same : ch = false → f = f0 ∧ ∀ p i j, done p i j → ∀ n, n < C → RuleP f0 t p.2 i j n → f0 p.1 i j ≤ n
 less : ch = true → sumN t.length f < sumN t.length f0
variable {C : Nat} {e0 e1 : Costs}
theorem CInv.start (h : CSound R t C e0) : CInv R t C e0 e0 false (fun _ _ _ => False) := ⟨h, fun _ _ _ => Nat.le_refl _, fun _ => ⟨rfl, fun _ _ _ h => h.elim⟩, fun h => by cases h⟩
theorem CInv.weaken (h : CInv R t C e0 e1 ch done) (hd : ∀ p i j, done' p i j → done p i j) : CInv R t C e0 e1 ch done' := ⟨h.sound, h.le, fun e => ⟨(h.same e).1, fun p i j hp => (h.same e).2 p i j (hd p i j hp)⟩, h.less⟩
theorem CInv.skip (h : CInv R t C e0 e1 ch done) {p : UInt8 × List UInt8} {i j : Nat} (hs : ∀ n, n < C → RuleP e1 t p.2 i j n → e1 p.1 i j ≤ n) (hd : ∀ p' i' j', done' p' i' j' → done p' i' j' ∨ (p' = p ∧ i' = i ∧ j' = j)) : CInv R t C e0 e1 ch done' := by
 refine ⟨h.sound, h.le, fun e => ⟨(h.same e).1, fun p' i' j' hp => ?_⟩, h.less⟩
 rcases hd p' i' j' hp with hp | ⟨rfl, rfl, rfl⟩
 ·exact (h.same e).2 p' i' j' hp
 rw [(h.same e).1] at hs; exact hs
theorem CInv.put (h : CInv R t C e0 e1 ch done) {p : UInt8 × List UInt8} {i j n : Nat} (hp : p ∈ R) (hb : isBigB p.1 = true) (hij : i ≤ j) (hj : j ≤ t.length) (hn : n < e1 p.1 i j) (hs : RuleP e1 t p.2 i j n) : CInv R t C e0 (putD e1 p.1 i j n) true done' := by
 have hC : n < C := Nat.lt_of_lt_of_le hn (h.sound _ _ _).1
 have hle : ∀ c' i' j', putD e1 p.1 i j n c' i' j' ≤ e1 c' i' j' := by
  intro c' i' j'
  unfold putD
  split
  ·rename_i e; obtain ⟨rfl, rfl, rfl⟩ := e; omega
  exact Nat.le_refl _
 have hat : putD e1 p.1 i j n p.1 i j = n := by unfold putD; rw [if_pos ⟨rfl, rfl, rfl⟩]
 have hlt : sumN t.length (putD e1 p.1 i j n) < sumN t.length e1 := sumN_less (i := i) hle (mem_gridL.2 ⟨hb, by omega, hj⟩) (by rw [hat]; exact hn)
 refine ⟨?_, fun c i j => Nat.le_trans (hle c i j) (h.le c i j), fun e => (by cases e), fun _ => ?_⟩
 ·intro c' i' j'
  by_cases e : c' = p.1 ∧ i' = i ∧ j' = j
  ·obtain ⟨rfl, rfl, rfl⟩ := e
   rw [hat]
   exact ⟨Nat.le_of_lt hC, fun _ => ⟨hij, hj, hb, (hs.sound h.sound hj hC).rule hp hb⟩⟩
  have e2 : putD e1 p.1 i j n c' i' j' = e1 c' i' j' := by unfold putD; rw [if_neg e]
  rw [e2]; exact h.sound c' i' j'
 cases ch with
 | true => have := h.less rfl; omega
 | false => rw [← (h.same rfl).1]; exact hlt
theorem CInv.closed (h : CInv R t C e0 e1 false done) (hd : ∀ p ∈ R, ∀ i j, i ≤ j → j ≤ t.length → done p i j) : CClosed R t C e1 := by
 rw [(h.same rfl).1]
 exact fun p hp i j hij hj => (h.same rfl).2 p i j (hd p hp i j hij hj)
end Go.Proofs.YtiibnkibckklgaaDoor.P
namespace Go.Proofs.YtiibnkibckklgaaDoor.P
set_option linter.unusedVariables false
set_option linter.unusedSimpArgs false
open Go.RowKit Go.Sort Go.Proofs
set_option maxHeartbeats 1000000 in
theorem So_cmp_isNaN_int (x : Int) (w : World) : Calls Tryd.prog 199 #[.int .u8 x] w fun e w' => e = .returned (.bool false) ∧ w' = w := by
  go_enter Tryd.func199, Tryd.ntmps199
  go_wp2
  go_ret
  exact ⟨by simp, rfl⟩
set_option maxHeartbeats 1000000 in
theorem So_cmp_Less_int (x y : Int) (w : World) : Calls Tryd.prog 176 #[.int .u8 x, .int .u8 y] w fun e w' => e = .returned (.bool (Sort.ltInt x y)) ∧ w' = w := by
  go_enter Tryd.func176, Tryd.ntmps176
  go_wp2_with (go_at_call 199; refine (So_cmp_isNaN_int _ _).mono ?_; rintro e w' ⟨rfl, rfl⟩)
  go_ret
  exact ⟨rfl, rfl⟩
theorem So_insertionSort_int (blk off cap a b : Nat) (d : Array Int) (w : World) (hH : Holds (Value.int .u8) w blk off d) (hab : a ≤ b) (hb : b ≤ d.size) (hsz : d.size < 4611686018427387904) :
    Calls Tryd.prog 170 #[.slice (some ⟨blk, off, none⟩) d.size cap, .int .i64 a, .int .i64 b] w fun e w' =>
      e = .returned (.tuple #[]) ∧ ∃ n, w' = putRow (Value.int .u8) (Sort.ahead w n) blk off (Sort.insertionSort ltInt d a b) := by
  go_enter Tryd.func170, Tryd.ntmps170
  go_wp2
  go_loopw [6] (fun vi wr => ∃ (i n : Nat) (dk : Array Int), vi = .int .i64 i ∧ a < i ∧ i ≤ b + 1 ∧ dk.size = d.size ∧ wr = putRow (Value.int .u8) (Sort.ahead w n) blk off dk ∧
      insOuter ltInt a b i dk = insOuter ltInt a b (a + 1) d) (fun vi _ => b + 1 - (intOf vi).toNat)
  case atStart => exact ⟨a + 1, 0, d, by go_num, by omega, by omega, rfl, (putRow_self _ _ _ _ _ hH).symm, rfl⟩
  case round =>
    obtain ⟨i, n, dk, rfl, hai, hib, hsk, hwr, hO⟩ := hrel
    have HO : Hid (insOuter ltInt a b i dk = insOuter ltInt a b (a + 1) d) := hO
    clear hO
    go_wp2
    ·
      go_loopw [7] (fun vj wr2 => ∃ (j m : Nat) (dj : Array Int), vj = .int .i64 j ∧ a ≤ j ∧ j ≤ i ∧ dj.size = d.size ∧ wr2 = putRow (Value.int .u8) (Sort.ahead w m) blk off dj ∧
          insInner ltInt a j dj = insInner ltInt a i dk) (fun vj _ => (intOf vj).toNat)
      case atStart => exact ⟨i, n, dk, rfl, by omega, Nat.le_refl _, hsk, rfl, rfl⟩
      case round =>
        obtain ⟨j, m, dj, rfl, haj, hji, hsj, hw2, hI⟩ := hrel
        have hlt : i < b := by assumption
        obtain ⟨G, hG⟩ : ∃ G : Nat → Int, ∀ t, G t = dj[t]! := ⟨fun t => dj[t]!, fun _ => rfl⟩
        have hcw : ∀ t, t < d.size → wr.cell? ⟨blk, off + t, none⟩ = some (.int .u8 (G t)) := fun t ht => by
          rw [hw2, hG]; exact cell?_putRow _ _ _ _ d dj (holds_ahead _ _ _ _ _ _ hH) hsj t (by omega)
        have hfw : ∀ t, t < d.size → wr.frozen? ⟨blk, off + t, none⟩ = false := fun t ht => by
          rw [hw2, frozen?_putRow]; exact ((holds_ahead _ _ m _ _ _ hH) t ht).2
        have HW : Hid (wr = putRow (Value.int .u8) (Sort.ahead w m) blk off dj) := hw2
        have HG : Hid (∀ t, G t = dj[t]!) := hG
        have HI : Hid (insInner ltInt a j dj = insInner ltInt a i dk) := hI
        clear hw2 hG hI hH
        have out : (j ≤ a ∨ ltInt dj[j]! dj[j - 1]! = false) → ∀ q, ∃ i' n' dk', Value.int .i64 ((i : Int) + 1) = .int .i64 (i' : Nat) ∧ a < i' ∧ i' ≤ b + 1 ∧ dk'.size = d.size ∧
            wr.drewN q = putRow (Value.int .u8) (Sort.ahead w n') blk off dk' ∧ insOuter ltInt a b i' dk' = insOuter ltInt a b (a + 1) d := fun hs q =>
          ⟨i + 1, m + q, dj, by go_num, by omega, by omega, hsj, by rw [HW.out]; exact putRow_drewN _ _ _ _ _ _ _,
            by rw [← HO.out, insOuter_go _ _ _ _ _ hlt, ← HI.out, insInner_stop _ _ _ _ hs]⟩
        have OUT : Hid _ := out
        clear out
        go_wp2
        by_cases hja : a < j
        · go_quiet (first | (go_at_call 176; refine Calls.quiet_of_same (So_cmp_Less_int _ _ _)))
          go_wp2
          ·
            have hl : ltInt (G j) (G (j - 1)) = true := by assumption
            go_region
            all_goals go_wp2
            go_roundw
            case rel =>
              refine ⟨j - 1, m + (nq + 1), swp dj j (j - 1), by congr 1; omega, by omega, by omega, by rw [size_swp]; exact hsj, ?_, ?_⟩
              · rw [HW.out, HG.out, HG.out]
                exact swap_worldA _ w m (nq + 1) blk off dj j (j - 1) (by omega) (by omega)
              · rw [← HI.out, insInner_go ltInt a j dj hja (by rw [← HG.out, ← HG.out]; exact hl)]
            case measure => simp [intOf]; omega
          ·
            have hl : ltInt (G j) (G (j - 1)) = false := by assumption
            go_roundw
            case rel => exact OUT.out (Or.inr (by rw [← HG.out, ← HG.out]; exact hl)) nq
            case measure => simp [intOf]; omega
        · go_quiet (first | (go_at_call 176; refine Calls.quiet_of_same (So_cmp_Less_int _ _ _)))
          go_wp2
          go_roundw
          case rel => exact OUT.out (Or.inl (by omega)) nq
          case measure => simp [intOf]; omega
    ·
      have hge : ¬ i < b := by assumption
      go_end0
      exact ⟨rfl, n, by unfold Sort.insertionSort; rw [← HO.out, insOuter_stop _ _ _ _ _ hge]⟩
set_option maxHeartbeats 3200000 in
set_option maxRecDepth 1000000 in
theorem So_siftDown_int (blk off len cap : Nat) (d : Array Int) (hlen : d.size = len) (lo hi first : Nat) (w : World) (hH : Holds (Value.int .u8) w blk off d) (hlo : lo ≤ hi) (hb : first + hi ≤ d.size) (hsz : d.size < 4611686018427387904) :
    Calls Tryd.prog 194 #[.slice (some ⟨blk, off, none⟩) len cap, .int .i64 lo, .int .i64 hi, .int .i64 first] w fun e w' => e = .returned (.tuple #[]) ∧ ∃ n, w' = putRow (Value.int .u8) (Sort.ahead w n) blk off (siftDown ltInt hi first lo d) := by
  subst hlen
  go_enter Tryd.func194, Tryd.ntmps194
  go_wp2
  go_loopg [8] (hi - lo) (fun k s8 wr => ∃ (root : Nat) (dk : Array Int) (n : Nat), s8 = .int .i64 root ∧ root ≤ hi ∧ hi - root ≤ k ∧ dk.size = d.size ∧ wr = putRow (Value.int .u8) (Sort.ahead w n) blk off dk ∧ siftDown ltInt hi first root dk = siftDown ltInt hi first lo d)
  case atStart => exact ⟨lo, d, 0, rfl, hlo, Nat.le_refl _, rfl, (putRow_self (Value.int .u8) w blk off d hH).symm, rfl⟩
  case round =>
    obtain ⟨root, dk, n, rfl, hr, hk, hds, hwr, heq⟩ := hrel
    have hHk : Holds (Value.int .u8) wr blk off dk := by rw [hwr]; exact holds_putRow (Value.int .u8) _ blk off d dk (holds_ahead (Value.int .u8) w n blk off d hH) hds
    have hcw : ∀ t, t < d.size → wr.cell? ⟨blk, off + t, none⟩ = some (.int .u8 dk[t]!) := fun t ht => (hHk t (by omega)).1
    have hfw : ∀ t, t < d.size → wr.frozen? ⟨blk, off + t, none⟩ = false := fun t ht => (hHk t (by omega)).2
    have A : Aside (wr = putRow (Value.int .u8) (Sort.ahead w n) blk off dk) := hwr
    clear hwr hH hHk
    by_cases h0 : hi ≤ 2 * root + 1
    ·
      have h0z : (hi : Int) ≤ 2 * (root : Int) + 1 := by omega
      go_wp2
      go_end0
      refine ⟨rfl, n, ?_⟩
      rw [A.out, ← heq, sd_end ltInt dk h0]
    ·
      have h0z : ¬ ((hi : Int) ≤ 2 * (root : Int) + 1) := by omega
      by_cases h1 : 2 * root + 2 < hi
      · have h1z : 2 * (root : Int) + 1 + 1 < (hi : Int) := by omega
        go_wp2_with fail
        go_big_quiet (first | (go_at_call 176; refine Calls.quiet_of_same (So_cmp_Less_int _ _ _)))
        go_wp2_with fail
        ·
          have hL : ltInt dk[first + 2 * root + 1]! dk[first + 2 * root + 2]! = true := by assumption
          revert nq; intro nq1
          have hcw2 : ∀ t, t < d.size → (wr.drewN nq1).cell? ⟨blk, off + t, none⟩ = some (.int .u8 dk[t]!) := hcw
          have hfw2 : ∀ t, t < d.size → (wr.drewN nq1).frozen? ⟨blk, off + t, none⟩ = false := hfw
          have A2 : Aside (wr.drewN nq1 = putRow (Value.int .u8) (Sort.ahead w (n + nq1)) blk off dk) := drewN_world (Value.int .u8) A.out nq1
          clear hcw hfw A
          generalize wr.drewN nq1 = wr2 at hcw2 hfw2 A2 ⊢
          go_big_quiet (first | (go_at_call 176; refine Calls.quiet_of_same (So_cmp_Less_int _ _ _)))
          go_wp2_with fail
          ·
            have hS : ltInt dk[first + root]! dk[first + 2 * root + 2]! = false := by
              have : (!ltInt dk[first + root]! dk[first + 2 * root + 2]!) = true := by assumption
              simpa using this
            (try simp only [Exit.inBlock, Exit.then]); refine bodyPost_ret (results_none rfl _ _ _) rfl ?_
            refine ⟨rfl, n + nq1 + nq, ?_⟩
            rw [drewN_world (Value.int .u8) A2.out nq, ← heq, sd_right_stop ltInt dk h1 hL hS]
          ·
            have hG : ltInt dk[first + root]! dk[first + 2 * root + 2]! = true := by
              have : (!ltInt dk[first + root]! dk[first + 2 * root + 2]!) = false := by assumption
              simpa using this
            have hcw3 : ∀ t, t < d.size → (wr2.drewN nq).cell? ⟨blk, off + t, none⟩ = some (.int .u8 dk[t]!) := hcw2
            have hfw3 : ∀ t, t < d.size → (wr2.drewN nq).frozen? ⟨blk, off + t, none⟩ = false := hfw2
            have A3 : Aside (wr2.drewN nq = putRow (Value.int .u8) (Sort.ahead w (n + nq1 + nq)) blk off dk) := drewN_world (Value.int .u8) A2.out nq
            clear hcw2 hfw2 A2
            generalize wr2.drewN nq = wr3 at hcw3 hfw3 A3 ⊢
            go_region
            go_wp2
            go_roundg (hi - (2 * root + 2))
            case measure => omega
            case rel =>
              refine ⟨2 * root + 2, swp dk (first + root) (first + (2 * root + 1 + 1)), n + nq1 + nq + 1, by simp <;> omega, by omega, Nat.le_refl _, by rw [size_swp]; exact hds, swap_world (Value.int .u8) (by omega) (by omega) A3.out rfl rfl, ?_⟩
              rw [← heq, sd_right_go ltInt dk h1 hL hG]
        ·
          have hL : ltInt dk[first + 2 * root + 1]! dk[first + 2 * root + 2]! = false := by assumption
          revert nq; intro nq1
          have hcw2 : ∀ t, t < d.size → (wr.drewN nq1).cell? ⟨blk, off + t, none⟩ = some (.int .u8 dk[t]!) := hcw
          have hfw2 : ∀ t, t < d.size → (wr.drewN nq1).frozen? ⟨blk, off + t, none⟩ = false := hfw
          have A2 : Aside (wr.drewN nq1 = putRow (Value.int .u8) (Sort.ahead w (n + nq1)) blk off dk) := drewN_world (Value.int .u8) A.out nq1
          clear hcw hfw A
          generalize wr.drewN nq1 = wr2 at hcw2 hfw2 A2 ⊢
          go_big_quiet (first | (go_at_call 176; refine Calls.quiet_of_same (So_cmp_Less_int _ _ _)))
          go_wp2_with fail
          ·
            have hS : ltInt dk[first + root]! dk[first + 2 * root + 1]! = false := by
              have : (!ltInt dk[first + root]! dk[first + 2 * root + 1]!) = true := by assumption
              simpa using this
            (try simp only [Exit.inBlock, Exit.then]); refine bodyPost_ret (results_none rfl _ _ _) rfl ?_
            refine ⟨rfl, n + nq1 + nq, ?_⟩
            rw [drewN_world (Value.int .u8) A2.out nq, ← heq, sd_left_stop ltInt dk (by omega) (fun _ => hL) hS]
          ·
            have hG : ltInt dk[first + root]! dk[first + 2 * root + 1]! = true := by
              have : (!ltInt dk[first + root]! dk[first + 2 * root + 1]!) = false := by assumption
              simpa using this
            have hcw3 : ∀ t, t < d.size → (wr2.drewN nq).cell? ⟨blk, off + t, none⟩ = some (.int .u8 dk[t]!) := hcw2
            have hfw3 : ∀ t, t < d.size → (wr2.drewN nq).frozen? ⟨blk, off + t, none⟩ = false := hfw2
            have A3 : Aside (wr2.drewN nq = putRow (Value.int .u8) (Sort.ahead w (n + nq1 + nq)) blk off dk) := drewN_world (Value.int .u8) A2.out nq
            clear hcw2 hfw2 A2
            generalize wr2.drewN nq = wr3 at hcw3 hfw3 A3 ⊢
            go_region
            go_wp2
            go_roundg (hi - (2 * root + 1))
            case measure => omega
            case rel =>
              refine ⟨2 * root + 1, swp dk (first + root) (first + (2 * root + 1)), n + nq1 + nq + 1, by simp <;> omega, by omega, Nat.le_refl _, by rw [size_swp]; exact hds, swap_world (Value.int .u8) (by omega) (by omega) A3.out rfl rfl, ?_⟩
              rw [← heq, sd_left_go ltInt dk (by omega) (fun _ => hL) hG]
      ·
        have h1z : decide (2 * (root : Int) + 1 + 1 < (hi : Int)) = false := decide_eq_false (by omega)
        go_wp2_with fail
        go_big_quiet (first | (go_at_call 176; refine Calls.quiet_of_same (So_cmp_Less_int _ _ _)))
        go_wp2_with fail
        revert nq; intro nq1
        have hcw2 : ∀ t, t < d.size → (wr.drewN nq1).cell? ⟨blk, off + t, none⟩ = some (.int .u8 dk[t]!) := hcw
        have hfw2 : ∀ t, t < d.size → (wr.drewN nq1).frozen? ⟨blk, off + t, none⟩ = false := hfw
        have A2 : Aside (wr.drewN nq1 = putRow (Value.int .u8) (Sort.ahead w (n + nq1)) blk off dk) := drewN_world (Value.int .u8) A.out nq1
        clear hcw hfw A
        generalize wr.drewN nq1 = wr2 at hcw2 hfw2 A2 ⊢
        go_big_quiet (first | (go_at_call 176; refine Calls.quiet_of_same (So_cmp_Less_int _ _ _)))
        go_wp2_with fail
        ·
          have hS : ltInt dk[first + root]! dk[first + 2 * root + 1]! = false := by
            have : (!ltInt dk[first + root]! dk[first + 2 * root + 1]!) = true := by assumption
            simpa using this
          (try simp only [Exit.inBlock, Exit.then]); refine bodyPost_ret (results_none rfl _ _ _) rfl ?_
          refine ⟨rfl, n + nq1 + nq, ?_⟩
          rw [drewN_world (Value.int .u8) A2.out nq, ← heq, sd_left_stop ltInt dk (by omega) (fun h => absurd h h1) hS]
        ·
          have hG : ltInt dk[first + root]! dk[first + 2 * root + 1]! = true := by
            have : (!ltInt dk[first + root]! dk[first + 2 * root + 1]!) = false := by assumption
            simpa using this
          have hcw3 : ∀ t, t < d.size → (wr2.drewN nq).cell? ⟨blk, off + t, none⟩ = some (.int .u8 dk[t]!) := hcw2
          have hfw3 : ∀ t, t < d.size → (wr2.drewN nq).frozen? ⟨blk, off + t, none⟩ = false := hfw2
          have A3 : Aside (wr2.drewN nq = putRow (Value.int .u8) (Sort.ahead w (n + nq1 + nq)) blk off dk) := drewN_world (Value.int .u8) A2.out nq
          clear hcw2 hfw2 A2
          generalize wr2.drewN nq = wr3 at hcw3 hfw3 A3 ⊢
          go_region
          go_wp2
          go_roundg (hi - (2 * root + 1))
          case measure => omega
          case rel =>
            refine ⟨2 * root + 1, swp dk (first + root) (first + (2 * root + 1)), n + nq1 + nq + 1, by simp <;> omega, by omega, Nat.le_refl _, by rw [size_swp]; exact hds, swap_world (Value.int .u8) (by omega) (by omega) A3.out rfl rfl, ?_⟩
            rw [← heq, sd_left_go ltInt dk (by omega) (fun h => absurd h h1) hG]
set_option maxHeartbeats 3200000 in
set_option maxRecDepth 1000000 in
theorem So_heapSort_int (blk off len cap : Nat) (d : Array Int) (hlen : d.size = len) (a b : Nat) (w : World) (hH : Holds (Value.int .u8) w blk off d) (hab : a ≤ b) (hb : b ≤ d.size) (hsz : d.size < 4611686018427387904) :
    Calls Tryd.prog 171 #[.slice (some ⟨blk, off, none⟩) len cap, .int .i64 a, .int .i64 b] w fun e w' => e = .returned (.tuple #[]) ∧ ∃ n, w' = putRow (Value.int .u8) (Sort.ahead w n) blk off (heapSort ltInt d a b) := by
  subst hlen
  have ecast : ((b - a : Nat) : Int) = (b : Int) - (a : Int) := by omega
  go_enter Tryd.func171, Tryd.ntmps171
  go_wp2
  go_loopg [9] ((b - a - 1) / 2 + 1) (fun k s9 wr => s9 = .int .i64 ((k : Int) - 1) ∧ k ≤ (b - a - 1) / 2 + 1 ∧ ∃ (dk : Array Int) (n : Nat), dk.size = d.size ∧ wr = putRow (Value.int .u8) (Sort.ahead w n) blk off dk ∧
    heapBuild ltInt (b - a) a k dk = heapBuild ltInt (b - a) a ((b - a - 1) / 2 + 1) d)
  case atStart => exact ⟨by rw [half_start hab], Nat.le_refl _, d, 0, rfl, (putRow_self (Value.int .u8) w blk off d hH).symm, rfl⟩
  case round =>
    obtain ⟨rfl, hkk, dk, n, hds, hwr, heq⟩ := hrel
    have hHk : Holds (Value.int .u8) wr blk off dk := by rw [hwr]; exact holds_putRow (Value.int .u8) _ blk off d dk (holds_ahead (Value.int .u8) w n blk off d hH) hds
    have A : Aside (wr = putRow (Value.int .u8) (Sort.ahead w n) blk off dk) := hwr
    clear hwr
    cases gk with
    | zero =>
      have hB : dk = heapBuild ltInt (b - a) a ((b - a - 1) / 2 + 1) d := heq
      clear heq hHk hkk
      go_wp2
      go_loopg [10] (b - a) (fun k s10 wr2 => s10 = .int .i64 ((k : Int) - 1) ∧ k ≤ b - a ∧ ∃ (dj : Array Int) (n2 : Nat), dj.size = d.size ∧ wr2 = putRow (Value.int .u8) (Sort.ahead w n2) blk off dj ∧ heapPop ltInt a k dj = heapPop ltInt a (b - a) dk)
      case atStart => exact ⟨by rw [ecast], Nat.le_refl _, dk, n, hds, A.out, rfl⟩
      case round =>
        obtain ⟨rfl, hkk, dj, n2, hdj, hwr2, heq2⟩ := hrel
        cases gk with
        | zero =>
          go_wp2
          go_end0
          refine ⟨rfl, n2, ?_⟩
          have e : dj = heapSort ltInt d a b := by rw [heapSort, ← hB, ← heq2]; rfl
          rw [← e]
        | succ k =>
          have hHj : Holds (Value.int .u8) wr blk off dj := by rw [hwr2]; exact holds_putRow (Value.int .u8) _ blk off d dj (holds_ahead (Value.int .u8) w n2 blk off d hH) hdj
          have hcw : ∀ t, t < d.size → wr.cell? ⟨blk, off + t, none⟩ = some (.int .u8 dj[t]!) := fun t ht => (hHj t (by omega)).1
          have hfw : ∀ t, t < d.size → wr.frozen? ⟨blk, off + t, none⟩ = false := fun t ht => (hHj t (by omega)).2
          have A2 : Aside (wr = putRow (Value.int .u8) (Sort.ahead w n2) blk off dj) := hwr2
          clear hwr2 hHj
          rcases Nat.eq_zero_or_pos k with hk0 | hkp
          · subst hk0
            go_wp2_with fail
            go_region
            go_wp2_with fail
            rw [swap_world (Value.int .u8) (i := a) (j := a) (by omega) (by omega) A2.out rfl rfl]
            refine (So_siftDown_int blk off d.size cap (swp dj a (a)) (by rw [size_swp]; exact hdj) 0 0 a _ (holds_putRow (Value.int .u8) _ blk off d _ (holds_ahead (Value.int .u8) w (n2 + 1) blk off d hH) (by rw [size_swp]; exact hdj)) (Nat.zero_le _) (by rw [size_swp]; omega) (by rw [size_swp]; omega)).mono ?_
            rintro e w1 ⟨rfl, m, hw1⟩
            go_wp2
            go_roundg 0
            case measure => omega
            case rel =>
              refine ⟨by simp, by omega, siftDown ltInt 0 a 0 (swp dj a (a)), n2 + 1 + m, by rw [size_siftDown ltInt _ _ _ _ _ (Nat.le_refl _), size_swp]; exact hdj, ?_, heq2⟩
              first
                | rw [hw1, putRow_ahead_putRow (Value.int .u8) w (n2 + 1) m blk off _ _ (size_siftDown ltInt _ _ _ _ _ (Nat.le_refl _))]
                | rw [putRow_ahead_putRow (Value.int .u8) w (n2 + 1) m blk off _ _ (size_siftDown ltInt _ _ _ _ _ (Nat.le_refl _))]
          · skip
            go_wp2_with fail
            go_region
            go_wp2_with fail
            rw [swap_world (Value.int .u8) (i := a) (j := a + k) (by omega) (by omega) A2.out rfl rfl]
            refine (So_siftDown_int blk off d.size cap (swp dj a (a + k)) (by rw [size_swp]; exact hdj) 0 k a _ (holds_putRow (Value.int .u8) _ blk off d _ (holds_ahead (Value.int .u8) w (n2 + 1) blk off d hH) (by rw [size_swp]; exact hdj)) (Nat.zero_le _) (by rw [size_swp]; omega) (by rw [size_swp]; omega)).mono ?_
            rintro e w1 ⟨rfl, m, hw1⟩
            go_wp2
            go_roundg k
            case measure => omega
            case rel =>
              refine ⟨by simp, by omega, siftDown ltInt k a 0 (swp dj a (a + k)), n2 + 1 + m, by rw [size_siftDown ltInt _ _ _ _ _ (Nat.le_refl _), size_swp]; exact hdj, ?_, heq2⟩
              first
                | rw [hw1, putRow_ahead_putRow (Value.int .u8) w (n2 + 1) m blk off _ _ (size_siftDown ltInt _ _ _ _ _ (Nat.le_refl _))]
                | rw [putRow_ahead_putRow (Value.int .u8) w (n2 + 1) m blk off _ _ (size_siftDown ltInt _ _ _ _ _ (Nat.le_refl _))]
    | succ k =>
      have hcall := So_siftDown_int blk off d.size cap dk hds k (b - a) a wr hHk (by omega) (by omega) (by omega)
      rw [ecast] at hcall
      go_wp2_with (go_at_call 194; refine hcall.mono ?_; rintro e w1 ⟨rfl, m, hw1⟩)
      go_roundg k
      case measure => omega
      case rel =>
        refine ⟨by simp, by omega, siftDown ltInt (b - a) a k dk, n + m, by rw [size_siftDown ltInt _ _ _ _ _ (Nat.le_refl _)]; exact hds, ?_, heq⟩
        rw [A.out, putRow_ahead_putRow (Value.int .u8) w n m blk off dk _ (size_siftDown ltInt _ _ _ _ _ (Nat.le_refl _))]
set_option maxHeartbeats 1600000 in
set_option maxRecDepth 1000000 in
theorem So_reverseRange_int (blk off cap : Nat) (d : Array Int) (a b : Nat) (w : World) (hH : Holds (Value.int .u8) w blk off d) (hab : a ≤ b) (hb : b ≤ d.size) (hsz : d.size < 4611686018427387904) :
    Calls Tryd.prog 174 #[.slice (some ⟨blk, off, none⟩) d.size cap, .int .i64 a, .int .i64 b] w fun e w' => e = .returned (.tuple #[]) ∧ ∃ n, w' = putRow (Value.int .u8) (Sort.ahead w n) blk off (reverseRange d a b) := by
  go_enter Tryd.func174, Tryd.ntmps174
  go_wp2
  go_loopg [6, 7] (b - a) (fun k s6 s7 wr => ∃ (i jn : Nat) (jz : Int) (dk : Array Int) (n : Nat), s6 = .int .i64 i ∧ s7 = .int .i64 jz ∧ ((i : Int) < jz → jz = jn ∧ jn < d.size) ∧ (¬ (i : Int) < jz → ¬ i < jn) ∧ jn - i ≤ k ∧
    dk.size = d.size ∧ wr = putRow (Value.int .u8) (Sort.ahead w n) blk off dk ∧ reverseLoop i jn dk = reverseLoop a (b - 1) d)
  case atStart => exact ⟨a, b - 1, (b : Int) - 1, d, 0, rfl, rfl, fun h => ⟨by omega, by omega⟩, fun h => by omega, by omega, rfl, (putRow_self (Value.int .u8) w blk off d hH).symm, rfl⟩
  case round =>
    obtain ⟨i, jn, jz, dk, n, rfl, rfl, h1, h2, hk, hds, hwr, heq⟩ := hrel
    by_cases hlt : (i : Int) < jz
    · obtain ⟨rfl, hjn⟩ := h1 hlt
      have hij : i < jn := by omega
      have hHk : Holds (Value.int .u8) wr blk off dk := by rw [hwr]; exact holds_putRow (Value.int .u8) _ blk off d dk (holds_ahead (Value.int .u8) w n blk off d hH) hds
      obtain ⟨ci, fi⟩ := hHk i (by omega)
      obtain ⟨cj, fj⟩ := hHk jn (by omega)
      have A : Aside (wr = putRow (Value.int .u8) (Sort.ahead w n) blk off dk) := hwr
      clear hwr hHk hH h1 h2
      go_wp2_with fail
      go_region
      go_wp2
      go_roundg (jn - 1 - (i + 1))
      case measure => omega
      case rel =>
        rw [reverseLoop, if_pos hij] at heq
        exact ⟨i + 1, jn - 1, (jn : Int) - 1, swp dk i jn, n + 1, by simp, rfl, fun h => ⟨by omega, by omega⟩, fun h => by omega, Nat.le_refl _, by rw [size_swp]; exact hds,
          swap_world (Value.int .u8) (by omega) (by omega) A.out (by simp [getElem!_pos, show jn < dk.size by omega]) rfl, heq⟩
    · have hnot := h2 hlt
      go_wp2
      go_end0
      refine ⟨rfl, n, ?_⟩
      rw [reverseLoop, if_neg hnot] at heq
      rw [reverseRange, ← heq]
end Go.Proofs.YtiibnkibckklgaaDoor.P
namespace Go.Proofs.YtiibnkibckklgaaDoor.P
set_option linter.unusedVariables false
set_option linter.unusedSimpArgs false
open Go.RowKit Go.Sort Go.Proofs
set_option maxHeartbeats 1600000 in
set_option maxRecDepth 100000 in
theorem So_partialInsertionSort_int (blk off cap a b : Nat) (d : Array Int) (w : World) (hH : Holds (Value.int .u8) w blk off d) (hab : a < b) (hb : b ≤ d.size) (hsz : d.size < 4611686018427387904) :
    Calls Tryd.prog 175 #[.slice (some ⟨blk, off, none⟩) d.size cap, .int .i64 a, .int .i64 b] w fun e w' =>
      e = .returned (.bool (Sort.partialInsertionSort ltInt d a b).2) ∧ ∃ n, w' = putRow (Value.int .u8) (Sort.ahead w n) blk off (Sort.partialInsertionSort ltInt d a b).1 := by
  have HH : Hid (Holds (Value.int .u8) w blk off d) := hH
  have HST : Hid (w = putRow (Value.int .u8) (Sort.ahead w 0) blk off d) := (putRow_self _ _ _ _ _ hH).symm
  clear hH
  go_enter Tryd.func175, Tryd.ntmps175
  go_wp2
  go_loopw [7, 8] (fun vi vs wr => ∃ (i s n : Nat) (dk : Array Int), vi = .int .i64 i ∧ vs = .int .i64 s ∧ s ≤ 5 ∧ a < i ∧ i ≤ b ∧ dk.size = d.size ∧ wr = putRow (Value.int .u8) (Sort.ahead w n) blk off dk ∧
      partialIns ltInt a b (5 - s) i dk = partialIns ltInt a b 5 (a + 1) d) (fun _ vs _ => 5 - (intOf vs).toNat)
  case atStart => exact ⟨a + 1, 0, 0, d, by go_num, rfl, by omega, by omega, by omega, rfl, HST.out, rfl⟩
  case round =>
    obtain ⟨i, s, n, dk, rfl, rfl, hs5, hai, hib, hsk, hwr, hO⟩ := hrel
    have HO : Hid (partialIns ltInt a b (5 - s) i dk = partialIns ltInt a b 5 (a + 1) d) := hO
    clear hO
    go_wp2
    ·
      have hs : s < 5 := by omega
      go_loopw [7] (fun vi wr2 => ∃ (k m : Nat), vi = .int .i64 k ∧ i ≤ k ∧ k ≤ b ∧ wr2 = putRow (Value.int .u8) (Sort.ahead w m) blk off dk ∧ scanSorted ltInt dk b k = scanSorted ltInt dk b i) (fun vi _ => b - (intOf vi).toNat)
      case atStart => exact ⟨i, n, rfl, Nat.le_refl _, hib, rfl, rfl⟩
      case round =>
        obtain ⟨k, m, rfl, hik, hkb, hw2, hS⟩ := hrel
        obtain ⟨G, hG⟩ : ∃ G : Nat → Int, ∀ t, G t = dk[t]! := ⟨fun t => dk[t]!, fun _ => rfl⟩
        have hcw : ∀ t, t < d.size → wr.cell? ⟨blk, off + t, none⟩ = some (.int .u8 (G t)) := fun t ht => by
          rw [hw2, hG]; exact cell?_putRow _ _ _ _ d dk (holds_ahead _ _ _ _ _ _ HH.out) hsk t (by omega)
        have hfw : ∀ t, t < d.size → wr.frozen? ⟨blk, off + t, none⟩ = false := fun t ht => by
          rw [hw2, frozen?_putRow]; exact ((holds_ahead _ _ m _ _ _ HH.out) t ht).2
        have HW : Hid (wr = putRow (Value.int .u8) (Sort.ahead w m) blk off dk) := hw2
        have HG : Hid (∀ t, G t = dk[t]!) := hG
        have HS : Hid (scanSorted ltInt dk b k = scanSorted ltInt dk b i) := hS
        clear hw2 hG hS
        go_wp2
        by_cases hkb' : k < b
        · go_quiet (first | (go_at_call 176; refine Calls.quiet_of_same (So_cmp_Less_int _ _ _)))
          go_wp2
          all_goals first
            | (at_end
               have hl : ltInt (G k) (G (k - 1)) = false := by
                 have h : (!ltInt (G k) (G (k - 1))) = true := by assumption
                 simpa using h
               go_roundw
               case rel => exact ⟨k + 1, m + nq, by go_num, by omega, by omega, by rw [HW.out]; exact putRow_drewN _ _ _ _ _ _ _, by rw [← HS.out, scanSorted_go ltInt dk b k hkb' (by rw [← HG.out, ← HG.out]; exact hl)]⟩
               case measure => simp [intOf]; omega)
            | (have hl : ltInt (G k) (G (k - 1)) = true := by
                 have h : (!ltInt (G k) (G (k - 1))) = false := by assumption
                 simpa using h
               have HK : Hid (scanSorted ltInt dk b i = k) := by
                 show scanSorted ltInt dk b i = k
                 rw [← HS.out, scanSorted_stop ltInt dk b k (Or.inr (by rw [← HG.out, ← HG.out]; exact hl))]
               first
                 | (at_ret
                    have hv : Sort.partialInsertionSort ltInt d a b = (dk, false) := by
                      unfold Sort.partialInsertionSort
                      rw [← HO.out, pi_short ltInt a b s i dk hs (by rw [HK.out]; omega) (by omega)]
                    rw [hv]
                    go_ret
                    exact ⟨rfl, m + nq, by rw [HW.out]; exact putRow_drewN _ _ _ _ _ _ _⟩)
                 | (at_region 11
                    have h50 : ¬ b - a < 50 := by omega
                    go_region
                    have hsw : ((wr.drewN (nq + 1)).setCell ⟨blk, off + k, none⟩ (.int .u8 (G (k - 1)))).setCell ⟨blk, off + (k - 1), none⟩ (.int .u8 (G k)) = putRow (Value.int .u8) (Sort.ahead w (m + (nq + 1))) blk off (swp dk k (k - 1)) := by
                      rw [HW.out, HG.out, HG.out]
                      exact swap_worldA _ w m (nq + 1) blk off dk k (k - 1) (by omega) (by omega)
                    have hs1 : (swp dk k (k - 1)).size = d.size := by rw [size_swp]; exact hsk
                    go_wp2
                    all_goals first
                      | (at_loop
                         have hka : k - a ≥ 2 := by omega
                         go_loopw [9] (fun vj wr2 => ∃ (j m2 : Nat) (dj : Array Int), vj = .int .i64 j ∧ j ≤ k - 1 ∧ dj.size = d.size ∧ wr2 = putRow (Value.int .u8) (Sort.ahead w m2) blk off dj ∧
                             shiftDown ltInt j dj = shiftDown ltInt (k - 1) (swp dk k (k - 1))) (fun vj _ => (intOf vj).toNat)
                         case atStart => exact ⟨k - 1, _, (swp dk k (k - 1)), by congr 1; omega, Nat.le_refl _, hs1, rfl, rfl⟩
                         case round =>
                           obtain ⟨j, m2, dj, rfl, hjk, hsj, hw2, hDn⟩ := hrel
                           obtain ⟨G, hG⟩ : ∃ G : Nat → Int, ∀ t, G t = dj[t]! := ⟨fun t => dj[t]!, fun _ => rfl⟩
                           have hcw : ∀ t, t < d.size → wr.cell? ⟨blk, off + t, none⟩ = some (.int .u8 (G t)) := fun t ht => by
                             rw [hw2, hG]; exact cell?_putRow _ _ _ _ d dj (holds_ahead _ _ _ _ _ _ HH.out) hsj t (by omega)
                           have hfw : ∀ t, t < d.size → wr.frozen? ⟨blk, off + t, none⟩ = false := fun t ht => by
                             rw [hw2, frozen?_putRow]; exact ((holds_ahead _ _ m2 _ _ _ HH.out) t ht).2
                           have HW : Hid (wr = putRow (Value.int .u8) (Sort.ahead w m2) blk off dj) := hw2
                           have HG : Hid (∀ t, G t = dj[t]!) := hG
                           have HDn : Hid (shiftDown ltInt j dj = shiftDown ltInt (k - 1) (swp dk k (k - 1))) := hDn
                           clear hw2 hG hDn hsw
                           go_wp2
                           all_goals first
                             | (at_region 16
                                go_quiet (first | (go_at_call 176; refine Calls.quiet_of_same (So_cmp_Less_int _ _ _)))
                                go_wp2
                                all_goals first
                                  | (at_region 17
                                     have hl : ltInt (G j) (G (j - 1)) = true := by
                                       have h : (!ltInt (G j) (G (j - 1))) = false := by assumption
                                       simpa using h
                                     go_region
                                     all_goals go_wp2
                                     go_roundw
                                     case rel =>
                                       refine ⟨j - 1, m2 + (nq + 1), swp dj j (j - 1), by congr 1; omega, by omega, by rw [size_swp]; exact hsj, ?_, ?_⟩
                                       · rw [HW.out, HG.out, HG.out]
                                         exact swap_worldA _ w m2 (nq + 1) blk off dj j (j - 1) (by omega) (by omega)
                                       · rw [← HDn.out, shiftDown_go ltInt j dj (by omega) (by rw [← HG.out, ← HG.out]; exact hl)]
                                     case measure => simp [intOf]; omega)
                                  | (-- break
                                     have hl : ltInt (G j) (G (j - 1)) = false := by
                                       have h : (!ltInt (G j) (G (j - 1))) = true := by assumption
                                       simpa using h
                                     have HD : Hid (fixDown ltInt a k (swp dk k (k - 1)) = dj) := by
                                       show fixDown ltInt a k (swp dk k (k - 1)) = dj
                                       unfold fixDown; rw [if_pos hka, ← HDn.out, shiftDown_stop ltInt j dj (Or.inr (by rw [← HG.out, ← HG.out]; exact hl))]
                                     first
                                       | (at_end
                                          go_roundw
                                          case rel =>
                                            refine ⟨k, s + 1, _, dj, rfl, by go_num, by omega, by omega, by omega, hsj, (by first | rfl | exact HW.out | (rw [HW.out]; exact putRow_drewN _ _ _ _ _ _ _)), ?_⟩
                                            rw [← HO.out, pi_go ltInt a b s i k dk hs HK.out (by omega) (by omega), HD.out, show fixUp ltInt b k dj = dj from by unfold fixUp; rw [if_neg (by omega)]]
                                          case measure => simp [intOf]; omega)
                                       | (at_loop
                                          go_loopw [10] (fun vj wr2 => ∃ (j m3 : Nat) (du : Array Int), vj = .int .i64 j ∧ k + 1 ≤ j ∧ j ≤ b ∧ du.size = d.size ∧ wr2 = putRow (Value.int .u8) (Sort.ahead w m3) blk off du ∧
                                              shiftUp ltInt b j du = shiftUp ltInt b (k + 1) dj) (fun vj _ => b - (intOf vj).toNat)
                                          case atStart => exact ⟨k + 1, _, dj, by go_num, Nat.le_refl _, by omega, hsj, (by first | rfl | exact HW.out | (rw [HW.out]; exact putRow_drewN _ _ _ _ _ _ _)), rfl⟩
                                          case round =>
                                            obtain ⟨j, m3, du, rfl, hkj, hjb, hsu, hw3, hU⟩ := hrel
                                            obtain ⟨G, hG⟩ : ∃ G : Nat → Int, ∀ t, G t = du[t]! := ⟨fun t => du[t]!, fun _ => rfl⟩
                                            have hcw : ∀ t, t < d.size → wr.cell? ⟨blk, off + t, none⟩ = some (.int .u8 (G t)) := fun t ht => by
                                              rw [hw3, hG]; exact cell?_putRow _ _ _ _ d du (holds_ahead _ _ _ _ _ _ HH.out) hsu t (by omega)
                                            have hfw : ∀ t, t < d.size → wr.frozen? ⟨blk, off + t, none⟩ = false := fun t ht => by
                                              rw [hw3, frozen?_putRow]; exact ((holds_ahead _ _ m3 _ _ _ HH.out) t ht).2
                                            have HW : Hid (wr = putRow (Value.int .u8) (Sort.ahead w m3) blk off du) := hw3
                                            have HG : Hid (∀ t, G t = du[t]!) := hG
                                            have HU : Hid (shiftUp ltInt b j du = shiftUp ltInt b (k + 1) dj) := hU
                                            clear hw3 hG hU
                                            go_wp2
                                            all_goals first
                                              | (at_region 22
                                                 go_quiet (first | (go_at_call 176; refine Calls.quiet_of_same (So_cmp_Less_int _ _ _)))
                                                 go_wp2
                                                 all_goals first
                                                   | (at_region 23
                                                      have hl : ltInt (G j) (G (j - 1)) = true := by
                                                        have h : (!ltInt (G j) (G (j - 1))) = false := by assumption
                                                        simpa using h
                                                      go_region
                                                      all_goals go_wp2
                                                      go_roundw
                                                      case rel =>
                                                        refine ⟨j + 1, m3 + (nq + 1), swp du j (j - 1), by go_num, by omega, by omega, by rw [size_swp]; exact hsu, ?_, ?_⟩
                                                        · rw [HW.out, HG.out, HG.out]
                                                          exact swap_worldA _ w m3 (nq + 1) blk off du j (j - 1) (by omega) (by omega)
                                                        · rw [← HU.out, shiftUp_go ltInt b j du (by omega) (by rw [← HG.out, ← HG.out]; exact hl)]
                                                      case measure => simp [intOf]; omega)
                                                   | (at_end
                                                      have hl : ltInt (G j) (G (j - 1)) = false := by
                                                        have h : (!ltInt (G j) (G (j - 1))) = true := by assumption
                                                        simpa using h
                                                      go_roundw
                                                      case rel =>
                                                        refine ⟨k, s + 1, _, du, rfl, by go_num, by omega, by omega, by omega, hsu, (by first | rfl | exact HW.out | (rw [HW.out]; exact putRow_drewN _ _ _ _ _ _ _)), ?_⟩
                                                        rw [← HO.out, pi_go ltInt a b s i k dk hs HK.out (by omega) (by omega), HD.out, show fixUp ltInt b k dj = du from by unfold fixUp; rw [if_pos (by omega), ← HU.out, shiftUp_stop ltInt b j du (Or.inr (by rw [← HG.out, ← HG.out]; exact hl))]]
                                                      case measure => simp [intOf]; omega))
                                              | (at_end
                                                 go_roundw
                                                 case rel =>
                                                   refine ⟨k, s + 1, _, du, rfl, by go_num, by omega, by omega, by omega, hsu, (by first | rfl | exact HW.out | (rw [HW.out]; exact putRow_drewN _ _ _ _ _ _ _)), ?_⟩
                                                   rw [← HO.out, pi_go ltInt a b s i k dk hs HK.out (by omega) (by omega), HD.out, show fixUp ltInt b k dj = du from by unfold fixUp; rw [if_pos (by omega), ← HU.out, shiftUp_stop ltInt b j du (Or.inl (by omega))]]
                                                 case measure => simp [intOf]; omega))))
                             | (-- j < 1
                                have HD : Hid (fixDown ltInt a k (swp dk k (k - 1)) = dj) := by
                                  show fixDown ltInt a k (swp dk k (k - 1)) = dj
                                  unfold fixDown; rw [if_pos hka, ← HDn.out, shiftDown_stop ltInt j dj (Or.inl (by omega))]
                                first
                                  | (at_end
                                     go_roundw
                                     case rel =>
                                       refine ⟨k, s + 1, _, dj, rfl, by go_num, by omega, by omega, by omega, hsj, (by first | rfl | exact HW.out | (rw [HW.out]; exact putRow_drewN _ _ _ _ _ _ _)), ?_⟩
                                       rw [← HO.out, pi_go ltInt a b s i k dk hs HK.out (by omega) (by omega), HD.out, show fixUp ltInt b k dj = dj from by unfold fixUp; rw [if_neg (by omega)]]
                                     case measure => simp [intOf]; omega)
                                  | (at_loop
                                     go_loopw [10] (fun vj wr2 => ∃ (j m3 : Nat) (du : Array Int), vj = .int .i64 j ∧ k + 1 ≤ j ∧ j ≤ b ∧ du.size = d.size ∧ wr2 = putRow (Value.int .u8) (Sort.ahead w m3) blk off du ∧
                                         shiftUp ltInt b j du = shiftUp ltInt b (k + 1) dj) (fun vj _ => b - (intOf vj).toNat)
                                     case atStart => exact ⟨k + 1, _, dj, by go_num, Nat.le_refl _, by omega, hsj, (by first | rfl | exact HW.out | (rw [HW.out]; exact putRow_drewN _ _ _ _ _ _ _)), rfl⟩
                                     case round =>
                                       obtain ⟨j, m3, du, rfl, hkj, hjb, hsu, hw3, hU⟩ := hrel
                                       obtain ⟨G, hG⟩ : ∃ G : Nat → Int, ∀ t, G t = du[t]! := ⟨fun t => du[t]!, fun _ => rfl⟩
                                       have hcw : ∀ t, t < d.size → wr.cell? ⟨blk, off + t, none⟩ = some (.int .u8 (G t)) := fun t ht => by
                                         rw [hw3, hG]; exact cell?_putRow _ _ _ _ d du (holds_ahead _ _ _ _ _ _ HH.out) hsu t (by omega)
                                       have hfw : ∀ t, t < d.size → wr.frozen? ⟨blk, off + t, none⟩ = false := fun t ht => by
                                         rw [hw3, frozen?_putRow]; exact ((holds_ahead _ _ m3 _ _ _ HH.out) t ht).2
                                       have HW : Hid (wr = putRow (Value.int .u8) (Sort.ahead w m3) blk off du) := hw3
                                       have HG : Hid (∀ t, G t = du[t]!) := hG
                                       have HU : Hid (shiftUp ltInt b j du = shiftUp ltInt b (k + 1) dj) := hU
                                       clear hw3 hG hU
                                       go_wp2
                                       all_goals first
                                         | (at_region 22
                                            go_quiet (first | (go_at_call 176; refine Calls.quiet_of_same (So_cmp_Less_int _ _ _)))
                                            go_wp2
                                            all_goals first
                                              | (at_region 23
                                                 have hl : ltInt (G j) (G (j - 1)) = true := by
                                                   have h : (!ltInt (G j) (G (j - 1))) = false := by assumption
                                                   simpa using h
                                                 go_region
                                                 all_goals go_wp2
                                                 go_roundw
                                                 case rel =>
                                                   refine ⟨j + 1, m3 + (nq + 1), swp du j (j - 1), by go_num, by omega, by omega, by rw [size_swp]; exact hsu, ?_, ?_⟩
                                                   · rw [HW.out, HG.out, HG.out]
                                                     exact swap_worldA _ w m3 (nq + 1) blk off du j (j - 1) (by omega) (by omega)
                                                   · rw [← HU.out, shiftUp_go ltInt b j du (by omega) (by rw [← HG.out, ← HG.out]; exact hl)]
                                                 case measure => simp [intOf]; omega)
                                              | (at_end
                                                 have hl : ltInt (G j) (G (j - 1)) = false := by
                                                   have h : (!ltInt (G j) (G (j - 1))) = true := by assumption
                                                   simpa using h
                                                 go_roundw
                                                 case rel =>
                                                   refine ⟨k, s + 1, _, du, rfl, by go_num, by omega, by omega, by omega, hsu, (by first | rfl | exact HW.out | (rw [HW.out]; exact putRow_drewN _ _ _ _ _ _ _)), ?_⟩
                                                   rw [← HO.out, pi_go ltInt a b s i k dk hs HK.out (by omega) (by omega), HD.out, show fixUp ltInt b k dj = du from by unfold fixUp; rw [if_pos (by omega), ← HU.out, shiftUp_stop ltInt b j du (Or.inr (by rw [← HG.out, ← HG.out]; exact hl))]]
                                                 case measure => simp [intOf]; omega))
                                         | (at_end
                                            go_roundw
                                            case rel =>
                                              refine ⟨k, s + 1, _, du, rfl, by go_num, by omega, by omega, by omega, hsu, (by first | rfl | exact HW.out | (rw [HW.out]; exact putRow_drewN _ _ _ _ _ _ _)), ?_⟩
                                              rw [← HO.out, pi_go ltInt a b s i k dk hs HK.out (by omega) (by omega), HD.out, show fixUp ltInt b k dj = du from by unfold fixUp; rw [if_pos (by omega), ← HU.out, shiftUp_stop ltInt b j du (Or.inl (by omega))]]
                                            case measure => simp [intOf]; omega))))
                      | (-- i - a < 2
                         have HD : Hid (fixDown ltInt a k (swp dk k (k - 1)) = (swp dk k (k - 1))) := by
                           show fixDown ltInt a k (swp dk k (k - 1)) = (swp dk k (k - 1))
                           unfold fixDown; rw [if_neg (by omega)]
                         first
                           | (at_end
                              go_roundw
                              case rel =>
                                refine ⟨k, s + 1, _, (swp dk k (k - 1)), rfl, by go_num, by omega, by omega, by omega, hs1, (by first | rfl | exact HW.out | (rw [HW.out]; exact putRow_drewN _ _ _ _ _ _ _)), ?_⟩
                                rw [← HO.out, pi_go ltInt a b s i k dk hs HK.out (by omega) (by omega), HD.out, show fixUp ltInt b k (swp dk k (k - 1)) = (swp dk k (k - 1)) from by unfold fixUp; rw [if_neg (by omega)]]
                              case measure => simp [intOf]; omega)
                           | (at_loop
                              go_loopw [10] (fun vj wr2 => ∃ (j m3 : Nat) (du : Array Int), vj = .int .i64 j ∧ k + 1 ≤ j ∧ j ≤ b ∧ du.size = d.size ∧ wr2 = putRow (Value.int .u8) (Sort.ahead w m3) blk off du ∧
                                  shiftUp ltInt b j du = shiftUp ltInt b (k + 1) (swp dk k (k - 1))) (fun vj _ => b - (intOf vj).toNat)
                              case atStart => exact ⟨k + 1, _, (swp dk k (k - 1)), by go_num, Nat.le_refl _, by omega, hs1, (by first | rfl | exact HW.out | (rw [HW.out]; exact putRow_drewN _ _ _ _ _ _ _)), rfl⟩
                              case round =>
                                obtain ⟨j, m3, du, rfl, hkj, hjb, hsu, hw3, hU⟩ := hrel
                                obtain ⟨G, hG⟩ : ∃ G : Nat → Int, ∀ t, G t = du[t]! := ⟨fun t => du[t]!, fun _ => rfl⟩
                                have hcw : ∀ t, t < d.size → wr.cell? ⟨blk, off + t, none⟩ = some (.int .u8 (G t)) := fun t ht => by
                                  rw [hw3, hG]; exact cell?_putRow _ _ _ _ d du (holds_ahead _ _ _ _ _ _ HH.out) hsu t (by omega)
                                have hfw : ∀ t, t < d.size → wr.frozen? ⟨blk, off + t, none⟩ = false := fun t ht => by
                                  rw [hw3, frozen?_putRow]; exact ((holds_ahead _ _ m3 _ _ _ HH.out) t ht).2
                                have HW : Hid (wr = putRow (Value.int .u8) (Sort.ahead w m3) blk off du) := hw3
                                have HG : Hid (∀ t, G t = du[t]!) := hG
                                have HU : Hid (shiftUp ltInt b j du = shiftUp ltInt b (k + 1) (swp dk k (k - 1))) := hU
                                clear hw3 hG hU
                                go_wp2
                                all_goals first
                                  | (at_region 22
                                     go_quiet (first | (go_at_call 176; refine Calls.quiet_of_same (So_cmp_Less_int _ _ _)))
                                     go_wp2
                                     all_goals first
                                       | (at_region 23
                                          have hl : ltInt (G j) (G (j - 1)) = true := by
                                            have h : (!ltInt (G j) (G (j - 1))) = false := by assumption
                                            simpa using h
                                          go_region
                                          all_goals go_wp2
                                          go_roundw
                                          case rel =>
                                            refine ⟨j + 1, m3 + (nq + 1), swp du j (j - 1), by go_num, by omega, by omega, by rw [size_swp]; exact hsu, ?_, ?_⟩
                                            · rw [HW.out, HG.out, HG.out]
                                              exact swap_worldA _ w m3 (nq + 1) blk off du j (j - 1) (by omega) (by omega)
                                            · rw [← HU.out, shiftUp_go ltInt b j du (by omega) (by rw [← HG.out, ← HG.out]; exact hl)]
                                          case measure => simp [intOf]; omega)
                                       | (at_end
                                          have hl : ltInt (G j) (G (j - 1)) = false := by
                                            have h : (!ltInt (G j) (G (j - 1))) = true := by assumption
                                            simpa using h
                                          go_roundw
                                          case rel =>
                                            refine ⟨k, s + 1, _, du, rfl, by go_num, by omega, by omega, by omega, hsu, (by first | rfl | exact HW.out | (rw [HW.out]; exact putRow_drewN _ _ _ _ _ _ _)), ?_⟩
                                            rw [← HO.out, pi_go ltInt a b s i k dk hs HK.out (by omega) (by omega), HD.out, show fixUp ltInt b k (swp dk k (k - 1)) = du from by unfold fixUp; rw [if_pos (by omega), ← HU.out, shiftUp_stop ltInt b j du (Or.inr (by rw [← HG.out, ← HG.out]; exact hl))]]
                                          case measure => simp [intOf]; omega))
                                  | (at_end
                                     go_roundw
                                     case rel =>
                                       refine ⟨k, s + 1, _, du, rfl, by go_num, by omega, by omega, by omega, hsu, (by first | rfl | exact HW.out | (rw [HW.out]; exact putRow_drewN _ _ _ _ _ _ _)), ?_⟩
                                       rw [← HO.out, pi_go ltInt a b s i k dk hs HK.out (by omega) (by omega), HD.out, show fixUp ltInt b k (swp dk k (k - 1)) = du from by unfold fixUp; rw [if_pos (by omega), ← HU.out, shiftUp_stop ltInt b j du (Or.inl (by omega))]]
                                     case measure => simp [intOf]; omega)))))
        ·
          go_quiet (first | (go_at_call 176; refine Calls.quiet_of_same (So_cmp_Less_int _ _ _)))
          go_wp2
          obtain rfl : k = b := by omega
          have hv : Sort.partialInsertionSort ltInt d a k = (dk, true) := by
            unfold Sort.partialInsertionSort
            rw [← HO.out, pi_true ltInt a k s i dk hs (by rw [← HS.out, scanSorted_stop ltInt dk k k (Or.inl (by omega))])]
          rw [hv]
          go_ret
          exact ⟨rfl, m + nq, by rw [HW.out]; exact putRow_drewN _ _ _ _ _ _ _⟩
    ·
      obtain rfl : s = 5 := by omega
      have hv : Sort.partialInsertionSort ltInt d a b = (dk, false) := by
        unfold Sort.partialInsertionSort
        rw [← HO.out, pi_end]
      rw [hv]
      go_ret
      exact ⟨rfl, n, rfl⟩
end Go.Proofs.YtiibnkibckklgaaDoor.P
namespace Go.Proofs.YtiibnkibckklgaaDoor.P
set_option linter.unusedVariables false
set_option linter.unusedSimpArgs false
open Go.RowKit Go.Sort Go.Proofs
set_option maxHeartbeats 6400000 in
set_option maxRecDepth 100000 in
theorem So_partitionEqual_int (blk off cap a b pivot : Nat) (d : Array Int) (w : World) (hH : Holds (Value.int .u8) w blk off d) (hap : a ≤ pivot) (hpb : pivot < b) (hb : b ≤ d.size) (hsz : d.size < 4611686018427387904) :
    Calls Tryd.prog 177 #[.slice (some ⟨blk, off, none⟩) d.size cap, .int .i64 a, .int .i64 b, .int .i64 pivot] w fun e w' =>
      e = .returned (.int .i64 (Sort.partitionEqual Sort.ltInt d a b pivot).1) ∧ ∃ n, w' = (putRow (Value.int .u8) w blk off (Sort.partitionEqual Sort.ltInt d a b pivot).2).drewN n := by
  have hla : a < d.size := by omega
  have hlp : pivot < d.size := by omega
  obtain ⟨G, hG⟩ : ∃ G : Nat → Int, ∀ j, G j = d[j]! := ⟨fun j => d[j]!, fun _ => rfl⟩
  have ca : w.cell? ⟨blk, off + a, none⟩ = some (.int .u8 (G a)) := by rw [hG]; exact (hH a hla).1
  have fa := (hH a hla).2
  have cp : w.cell? ⟨blk, off + pivot, none⟩ = some (.int .u8 (G pivot)) := by rw [hG]; exact (hH pivot hlp).1
  have fp := (hH pivot hlp).2
  obtain ⟨v', hy'⟩ := cell?_setCell_some (w := w) (p := ⟨blk, off + a, none⟩) (x := .int .u8 (G pivot)) (q := ⟨blk, off + pivot, none⟩) cp
  have AG : Hid (∀ j, G j = d[j]!) := hG
  have AH : Hid (Holds (Value.int .u8) w blk off d) := hH
  clear hG hH
  go_enter Tryd.func177, Tryd.ntmps177
  go_wp2
  go_region
  go_wp2
  go_loopw [9, 10] (fun vi vj wr => ∃ (i j n : Nat) (dk : Array Int), vi = .int .i64 i ∧ vj = .int .i64 j ∧ a < i ∧ i ≤ j + 1 ∧ j < b ∧ dk.size = d.size ∧ wr = (putRow (Value.int .u8) w blk off dk).drewN n ∧
      Sort.partEqLoop Sort.ltInt a i j dk = Sort.partEqLoop Sort.ltInt a (a + 1) (b - 1) (Sort.swp d a pivot))
    (fun vi vj _ => (intOf vj).toNat + 1 - (intOf vi).toNat)
  case atStart =>
    refine ⟨a + 1, b - 1, 1, Sort.swp d a pivot, by go_num, by go_num, by omega, by omega, by omega, size_swp _ _ _, ?_, rfl⟩
    have e := swap_worldC (Value.int .u8) w blk off d 0 a pivot hla hlp
    rw [putRow_self _ w blk off d AH.out] at e
    rw [AG.out a, AG.out pivot]
    exact e
  case round =>
    obtain ⟨i, j, n, dk, rfl, rfl, hai, hij, hjb, hs, hw, heq⟩ := hrel
    clear ca fa cp fp hy' v' AG
    rename World => W1
    have hHk : Holds (Value.int .u8) W1 blk off dk := by
      rw [hw]
      exact holds_putRow (Value.int .u8) w blk off d dk AH.out hs
    obtain ⟨Gk, hG⟩ : ∃ Gk : Nat → Int, ∀ t, Gk t = dk[t]! := ⟨fun t => dk[t]!, fun _ => rfl⟩
    have hc : ∀ t, t < d.size → W1.cell? ⟨blk, off + t, none⟩ = some (.int .u8 (Gk t)) := fun t ht => by rw [hG]; exact (hHk t (by omega)).1
    have hf : ∀ t, t < d.size → W1.frozen? ⟨blk, off + t, none⟩ = false := fun t ht => (hHk t (by omega)).2
    have AG : Hid (∀ t, Gk t = dk[t]!) := hG
    have AW : Hid (W1 = (putRow (Value.int .u8) w blk off dk).drewN n) := hw
    have AE : Hid (Sort.partEqLoop Sort.ltInt a i j dk = Sort.partEqLoop Sort.ltInt a (a + 1) (b - 1) (Sort.swp d a pivot)) := heq
    clear hG hw heq hHk
    go_wp2
    go_loopw [9] (fun vi w1 => ∃ (i' n1 : Nat), vi = .int .i64 i' ∧ i ≤ i' ∧ i' ≤ j + 1 ∧ w1 = W1.drewN n1 ∧
        Hid (Sort.scanUp (fun x => !Sort.ltInt dk[a]! x) dk j i' = Sort.scanUp (fun x => !Sort.ltInt dk[a]! x) dk j i))
      (fun vi _ => j + 1 - (intOf vi).toNat)
    case atStart => exact ⟨i, 0, rfl, Nat.le_refl _, hij, rfl, rfl⟩
    case round =>
      obtain ⟨i', n1, rfl, hii, hij', hw1, hsc⟩ := hrel
      have hcw : ∀ t, t < d.size → wr.cell? ⟨blk, off + t, none⟩ = some (.int .u8 (Gk t)) := fun t ht => by rw [hw1]; exact hc t ht
      have HW1 : Hid (wr = W1.drewN n1) := hw1
      clear hw1
      by_cases hle : i' ≤ j
      · go_wp2_with fail
        go_big_quiet (first | (go_at_call 176; refine Calls.quiet_of_same (So_cmp_Less_int _ _ _)))
        go_wp2
        ·
          have ht : (!Sort.ltInt (Gk a) (Gk i')) = true := by assumption
          go_roundw
          case rel => exact ⟨i' + 1, n1 + nq, by go_num, by omega, by omega, by rw [HW1.out, World.drewN_drewN], (scanUp_go (fun x => !Sort.ltInt dk[a]! x) dk j i' hle (by rw [← AG.out a, ← AG.out i']; exact ht)).symm.trans hsc.out⟩
          case measure => simp [intOf]; omega
        ·
          have ht : (!Sort.ltInt (Gk a) (Gk i')) = false := by assumption
          have hi2 : Hid (i' = Sort.scanUp (fun x => !Sort.ltInt dk[a]! x) dk j i) := (scanUp_end (fun x => !Sort.ltInt dk[a]! x) dk j i' (Or.inr (by rw [← AG.out a, ← AG.out i']; exact ht))).symm.trans hsc.out
          clear ht
          have hw2 : wr.drewN nq = W1.drewN (n1 + nq) := by rw [HW1.out, World.drewN_drewN]
          clear hcw HW1 hsc
          go_loopw [10] (fun vj w2 => ∃ (j' n2 : Nat), vj = .int .i64 j' ∧ j' ≤ j ∧ i' ≤ j' + 1 ∧ w2 = W1.drewN n2 ∧
              Hid (Sort.scanDown (fun x => Sort.ltInt dk[a]! x) dk i' j' = Sort.scanDown (fun x => Sort.ltInt dk[a]! x) dk i' j))
            (fun vj _ => (intOf vj).toNat)
          case atStart => exact ⟨j, n1 + nq, rfl, Nat.le_refl _, hij', hw2, rfl⟩
          case round =>
            clear hw2
            obtain ⟨j', n2, rfl, hjj, hij2, hw2, hsd⟩ := hrel
            have hcw : ∀ t, t < d.size → wr.cell? ⟨blk, off + t, none⟩ = some (.int .u8 (Gk t)) := fun t ht => by rw [hw2]; exact hc t ht
            have HW2 : Hid (wr = W1.drewN n2) := hw2
            clear hw2
            by_cases hle2 : i' ≤ j'
            · go_wp2_with fail
              go_big_quiet (first | (go_at_call 176; refine Calls.quiet_of_same (So_cmp_Less_int _ _ _)))
              go_wp2
              ·
                have ht : Sort.ltInt (Gk a) (Gk j') = true := by assumption
                go_roundw
                case rel => exact ⟨j' - 1, n2 + nq, by go_num, by omega, by omega, by rw [HW2.out, World.drewN_drewN], (scanDown_go (fun x => Sort.ltInt dk[a]! x) dk i' j' hle2 (by omega) (by rw [← AG.out a, ← AG.out j']; exact ht)).symm.trans hsd.out⟩
                case measure => simp [intOf]; omega
              ·
                have ht : Sort.ltInt (Gk a) (Gk j') = false := by assumption
                have hj2 : Hid (j' = Sort.scanDown (fun x => Sort.ltInt dk[a]! x) dk i' j) := (scanDown_end (fun x => Sort.ltInt dk[a]! x) dk i' j' (Or.inr (by rw [← AG.out a, ← AG.out j']; exact ht))).symm.trans hsd.out
                clear hcw hsd ht
                have hw3 : wr.drewN nq = W1.drewN (n2 + nq) := by rw [HW2.out, World.drewN_drewN]
                generalize wr.drewN nq = W3 at hw3 ⊢
                have hc3 : ∀ t, t < d.size → W3.cell? ⟨blk, off + t, none⟩ = some (.int .u8 (Gk t)) := fun t ht => by rw [hw3]; exact hc t ht
                have hf3 : ∀ t, t < d.size → W3.frozen? ⟨blk, off + t, none⟩ = false := fun t ht => by rw [hw3]; exact hf t ht
                have HW3 : Hid (W3 = W1.drewN (n2 + nq)) := hw3
                clear hw3
                obtain ⟨v3, hy3⟩ := cell?_setCell_some (w := W3) (p := ⟨blk, off + i', none⟩) (x := .int .u8 (Gk j')) (q := ⟨blk, off + j', none⟩) (hc3 j' (by omega))
                have hlt3 := scans_lt Sort.ltInt a i j dk (by omega) hi2.out hj2.out hle2
                go_wp2
                go_region
                all_goals go_wp2
                all_goals go_roundw
                case rel =>
                  refine ⟨i' + 1, j' - 1, n + (n2 + nq) + 1, Sort.swp dk i' j', by go_num, by go_num, by omega, by omega, by omega, by rw [size_swp]; exact hs, ?_, ?_⟩
                  · rw [HW3.out, AW.out, World.drewN_drewN, AG.out i', AG.out j']
                    exact swap_worldC (Value.int .u8) w blk off dk _ i' j' (by omega) (by omega)
                  · rw [← AE.out]; exact (partEq_go Sort.ltInt a i j dk hi2.out hj2.out (by omega)).symm
                case measure => simp [intOf]; omega
            · go_wp2_with fail
              go_big_quiet (first | (go_at_call 176; refine Calls.quiet_of_same (So_cmp_Less_int _ _ _)))
              have hj2 : Hid (j' = Sort.scanDown (fun x => Sort.ltInt dk[a]! x) dk i' j) := (scanDown_end (fun x => Sort.ltInt dk[a]! x) dk i' j' (Or.inl hle2)).symm.trans hsd.out
              clear hcw hsd
              have hw3 : wr.drewN nq = W1.drewN (n2 + nq) := by rw [HW2.out, World.drewN_drewN]
              generalize wr.drewN nq = W3 at hw3 ⊢
              have hc3 : ∀ t, t < d.size → W3.cell? ⟨blk, off + t, none⟩ = some (.int .u8 (Gk t)) := fun t ht => by rw [hw3]; exact hc t ht
              have hf3 : ∀ t, t < d.size → W3.frozen? ⟨blk, off + t, none⟩ = false := fun t ht => by rw [hw3]; exact hf t ht
              have HW3 : Hid (W3 = W1.drewN (n2 + nq)) := hw3
              clear hw3
              go_wp2
              go_ret
              have e := partEq_break Sort.ltInt a i j dk hi2.out hj2.out (by omega)
              refine ⟨?_, n + (n2 + nq), ?_⟩
              · unfold Sort.partitionEqual; rw [← AE.out, e]; rfl
              · unfold Sort.partitionEqual; rw [← AE.out, e, HW3.out, AW.out, World.drewN_drewN]
      · go_wp2_with fail
        go_big_quiet (first | (go_at_call 176; refine Calls.quiet_of_same (So_cmp_Less_int _ _ _)))
        go_wp2
        have hi2 : Hid (i' = Sort.scanUp (fun x => !Sort.ltInt dk[a]! x) dk j i) := (scanUp_end (fun x => !Sort.ltInt dk[a]! x) dk j i' (Or.inl hle)).symm.trans hsc.out
        have hw2 : wr.drewN nq = W1.drewN (n1 + nq) := by rw [HW1.out, World.drewN_drewN]
        clear hcw HW1 hsc
        go_loopw [10] (fun vj w2 => ∃ (j' n2 : Nat), vj = .int .i64 j' ∧ j' ≤ j ∧ i' ≤ j' + 1 ∧ w2 = W1.drewN n2 ∧
            Hid (Sort.scanDown (fun x => Sort.ltInt dk[a]! x) dk i' j' = Sort.scanDown (fun x => Sort.ltInt dk[a]! x) dk i' j))
          (fun vj _ => (intOf vj).toNat)
        case atStart => exact ⟨j, n1 + nq, rfl, Nat.le_refl _, hij', hw2, rfl⟩
        case round =>
          clear hw2
          obtain ⟨j', n2, rfl, hjj, hij2, hw2, hsd⟩ := hrel
          have hcw : ∀ t, t < d.size → wr.cell? ⟨blk, off + t, none⟩ = some (.int .u8 (Gk t)) := fun t ht => by rw [hw2]; exact hc t ht
          have HW2 : Hid (wr = W1.drewN n2) := hw2
          clear hw2
          by_cases hle2 : i' ≤ j'
          · exfalso; omega
          · go_wp2_with fail
            go_big_quiet (first | (go_at_call 176; refine Calls.quiet_of_same (So_cmp_Less_int _ _ _)))
            have hj2 : Hid (j' = Sort.scanDown (fun x => Sort.ltInt dk[a]! x) dk i' j) := (scanDown_end (fun x => Sort.ltInt dk[a]! x) dk i' j' (Or.inl hle2)).symm.trans hsd.out
            clear hcw hsd
            have hw3 : wr.drewN nq = W1.drewN (n2 + nq) := by rw [HW2.out, World.drewN_drewN]
            generalize wr.drewN nq = W3 at hw3 ⊢
            have hc3 : ∀ t, t < d.size → W3.cell? ⟨blk, off + t, none⟩ = some (.int .u8 (Gk t)) := fun t ht => by rw [hw3]; exact hc t ht
            have hf3 : ∀ t, t < d.size → W3.frozen? ⟨blk, off + t, none⟩ = false := fun t ht => by rw [hw3]; exact hf t ht
            have HW3 : Hid (W3 = W1.drewN (n2 + nq)) := hw3
            clear hw3
            go_wp2
            go_ret
            have e := partEq_break Sort.ltInt a i j dk hi2.out hj2.out (by omega)
            refine ⟨?_, n + (n2 + nq), ?_⟩
            · unfold Sort.partitionEqual; rw [← AE.out, e]; rfl
            · unfold Sort.partitionEqual; rw [← AE.out, e, HW3.out, AW.out, World.drewN_drewN]
theorem So_partitionEqualOrdered_int (blk off cap a b pivot : Nat) (d : Array Int) (w : World) (hH : Holds (Value.int .u8) w blk off d) (hap : a ≤ pivot) (hpb : pivot < b) (hb : b ≤ d.size) (hsz : d.size < 4611686018427387904) :
    Calls Tryd.prog 177 #[.slice (some ⟨blk, off, none⟩) d.size cap, .int .i64 a, .int .i64 b, .int .i64 pivot] w fun e w' =>
      e = .returned (.int .i64 (Sort.partitionEqual Sort.ltInt d a b pivot).1) ∧ ∃ n, w' = putRow (Value.int .u8) (Sort.ahead w n) blk off (Sort.partitionEqual Sort.ltInt d a b pivot).2 :=
  (So_partitionEqual_int blk off cap a b pivot d w hH hap hpb hb hsz).mono fun _ _ ⟨he, n, hw⟩ => ⟨he, n, hw⟩
end Go.Proofs.YtiibnkibckklgaaDoor.P
namespace Go.Proofs.YtiibnkibckklgaaDoor.P
set_option linter.unusedVariables false
set_option linter.unusedSimpArgs false
open Go.RowKit Go.Sort Go.Proofs
set_option maxHeartbeats 12800000 in
set_option maxRecDepth 100000 in
theorem So_partition_int (blk off cap a b pivot : Nat) (d : Array Int) (w : World) (hH : Holds (Value.int .u8) w blk off d) (hap : a ≤ pivot) (hpb : pivot < b) (hb : b ≤ d.size) (hsz : d.size < 4611686018427387904) :
    Calls Tryd.prog 178 #[.slice (some ⟨blk, off, none⟩) d.size cap, .int .i64 a, .int .i64 b, .int .i64 pivot] w fun e w' =>
      e = .returned (.tuple #[.int .i64 (Sort.partition Sort.ltInt d a b pivot).1, .bool (Sort.partition Sort.ltInt d a b pivot).2.1]) ∧ ∃ n, w' = (putRow (Value.int .u8) w blk off (Sort.partition Sort.ltInt d a b pivot).2.2).drewN n := by
  have hla : a < d.size := by omega
  have hlp : pivot < d.size := by omega
  obtain ⟨G, hG⟩ : ∃ G : Nat → Int, ∀ j, G j = d[j]! := ⟨fun j => d[j]!, fun _ => rfl⟩
  have ca : w.cell? ⟨blk, off + a, none⟩ = some (.int .u8 (G a)) := by rw [hG]; exact (hH a hla).1
  have fa := (hH a hla).2
  have cp : w.cell? ⟨blk, off + pivot, none⟩ = some (.int .u8 (G pivot)) := by rw [hG]; exact (hH pivot hlp).1
  have fp := (hH pivot hlp).2
  obtain ⟨v', hy'⟩ := cell?_setCell_some (w := w) (p := ⟨blk, off + a, none⟩) (x := .int .u8 (G pivot)) (q := ⟨blk, off + pivot, none⟩) cp
  have hw : ((w.setCell ⟨blk, off + a, none⟩ (.int .u8 (G pivot))).setCell ⟨blk, off + pivot, none⟩ (.int .u8 (G a))).drew = (putRow (Value.int .u8) w blk off (Sort.swp d a pivot)).drewN 1 := by
    have e := swap_worldC (Value.int .u8) w blk off d 0 a pivot hla hlp
    rw [putRow_self _ w blk off d hH] at e
    rw [hG a, hG pivot]
    exact e
  have AH : Hid (Holds (Value.int .u8) w blk off d) := hH
  have HW0 := Hid.mk' hw
  clear hG hH hw
  go_enter Tryd.func178, Tryd.ntmps178
  go_wp2
  go_region
  go_wp2
  clear ca fa cp fp hy' v'
  have hw := HW0.out
  clear HW0
  generalize ((w.setCell ⟨blk, off + a, none⟩ (.int .u8 (G pivot))).setCell ⟨blk, off + pivot, none⟩ (.int .u8 (G a))).drew = W1 at hw ⊢
  obtain ⟨dk, hdk⟩ : ∃ dk, dk = Sort.swp d a pivot := ⟨_, rfl⟩
  obtain ⟨n, hn⟩ : ∃ n : Nat, n = 1 := ⟨_, rfl⟩
  rw [← hdk, ← hn] at hw
  clear hn
  have hs : dk.size = d.size := by rw [hdk, size_swp]
  have e1 : ((a : Int) + 1) = ((a + 1 : Nat) : Int) := by omega
  have e2 : ((b : Int) - 1) = ((b - 1 : Nat) : Int) := by omega
  rw [e1, e2]
  clear e1 e2
  obtain ⟨i, hi⟩ : ∃ i, i = a + 1 := ⟨_, rfl⟩
  obtain ⟨j, hj⟩ : ∃ j, j = b - 1 := ⟨_, rfl⟩
  rw [← hi, ← hj]
  have hai : a < i := by omega
  have hij : i ≤ j + 1 := by omega
  have hjb : j < b := by omega
  have HI := Hid.mk' hi
  have HJ := Hid.mk' hj
  have HDK := Hid.mk' hdk
  clear hi hj hdk
  have hHk : Holds (Value.int .u8) W1 blk off dk := by
    rw [hw]
    exact holds_putRow (Value.int .u8) w blk off d dk AH.out hs
  obtain ⟨Gk, hG⟩ : ∃ Gk : Nat → Int, ∀ t, Gk t = dk[t]! := ⟨fun t => dk[t]!, fun _ => rfl⟩
  have hc : ∀ t, t < d.size → W1.cell? ⟨blk, off + t, none⟩ = some (.int .u8 (Gk t)) := fun t ht => by rw [hG]; exact (hHk t (by omega)).1
  have hf : ∀ t, t < d.size → W1.frozen? ⟨blk, off + t, none⟩ = false := fun t ht => (hHk t (by omega)).2
  have AG : Hid (∀ t, Gk t = dk[t]!) := hG
  have AW : Hid (W1 = (putRow (Value.int .u8) w blk off dk).drewN n) := hw
  clear hG hw hHk
  go_loopw [10] (fun vi w1 => ∃ (i' n1 : Nat), vi = .int .i64 i' ∧ i ≤ i' ∧ i' ≤ j + 1 ∧ w1 = W1.drewN n1 ∧
      Hid (Sort.scanUp (fun x => Sort.ltInt x dk[a]!) dk j i' = Sort.scanUp (fun x => Sort.ltInt x dk[a]!) dk j i))
    (fun vi _ => j + 1 - (intOf vi).toNat)
  case atStart => exact ⟨i, 0, rfl, Nat.le_refl _, hij, rfl, rfl⟩
  case round =>
    obtain ⟨i', n1, rfl, hii, hij', hw1, hsc⟩ := hrel
    have hcw : ∀ t, t < d.size → wr.cell? ⟨blk, off + t, none⟩ = some (.int .u8 (Gk t)) := fun t ht => by rw [hw1]; exact hc t ht
    have HW1 : Hid (wr = W1.drewN n1) := hw1
    clear hw1
    by_cases hle : i' ≤ j
    · go_wp2_with fail
      go_big_quiet (first | (go_at_call 176; refine Calls.quiet_of_same (So_cmp_Less_int _ _ _)))
      go_wp2
      ·
        have ht : Sort.ltInt (Gk i') (Gk a) = true := by assumption
        go_roundw
        case rel => exact ⟨i' + 1, n1 + nq, by go_num, by omega, by omega, by rw [HW1.out, World.drewN_drewN], (scanUp_go (fun x => Sort.ltInt x dk[a]!) dk j i' hle (by rw [← AG.out a, ← AG.out i']; exact ht)).symm.trans hsc.out⟩
        case measure => simp [intOf]; omega
      ·
        have ht : Sort.ltInt (Gk i') (Gk a) = false := by assumption
        have hi2 : Hid (i' = Sort.scanUp (fun x => Sort.ltInt x dk[a]!) dk j i) := (scanUp_end (fun x => Sort.ltInt x dk[a]!) dk j i' (Or.inr (by rw [← AG.out a, ← AG.out i']; exact ht))).symm.trans hsc.out
        clear ht
        have hw2 : wr.drewN nq = W1.drewN (n1 + nq) := by rw [HW1.out, World.drewN_drewN]
        clear hcw HW1 hsc
        go_loopw [11] (fun vj w2 => ∃ (j' n2 : Nat), vj = .int .i64 j' ∧ j' ≤ j ∧ i' ≤ j' + 1 ∧ w2 = W1.drewN n2 ∧
            Hid (Sort.scanDown (fun x => !Sort.ltInt x dk[a]!) dk i' j' = Sort.scanDown (fun x => !Sort.ltInt x dk[a]!) dk i' j))
          (fun vj _ => (intOf vj).toNat)
        case atStart => exact ⟨j, n1 + nq, rfl, Nat.le_refl _, hij', hw2, rfl⟩
        case round =>
          clear hw2
          obtain ⟨j', n2, rfl, hjj, hij2, hw2, hsd⟩ := hrel
          have hcw : ∀ t, t < d.size → wr.cell? ⟨blk, off + t, none⟩ = some (.int .u8 (Gk t)) := fun t ht => by rw [hw2]; exact hc t ht
          have HW2 : Hid (wr = W1.drewN n2) := hw2
          clear hw2
          by_cases hle2 : i' ≤ j'
          · go_wp2_with fail
            go_big_quiet (first | (go_at_call 176; refine Calls.quiet_of_same (So_cmp_Less_int _ _ _)))
            go_wp2
            ·
              have ht : (!Sort.ltInt (Gk j') (Gk a)) = true := by assumption
              go_roundw
              case rel => exact ⟨j' - 1, n2 + nq, by go_num, by omega, by omega, by rw [HW2.out, World.drewN_drewN], (scanDown_go (fun x => !Sort.ltInt x dk[a]!) dk i' j' hle2 (by omega) (by rw [← AG.out a, ← AG.out j']; exact ht)).symm.trans hsd.out⟩
              case measure => simp [intOf]; omega
            ·
              have ht : (!Sort.ltInt (Gk j') (Gk a)) = false := by assumption
              have hj2 : Hid (j' = Sort.scanDown (fun x => !Sort.ltInt x dk[a]!) dk i' j) := (scanDown_end (fun x => !Sort.ltInt x dk[a]!) dk i' j' (Or.inr (by rw [← AG.out a, ← AG.out j']; exact ht))).symm.trans hsd.out
              clear hcw hsd ht
              have hw3 : wr.drewN nq = W1.drewN (n2 + nq) := by rw [HW2.out, World.drewN_drewN]
              generalize wr.drewN nq = W3 at hw3 ⊢
              have hc3 : ∀ t, t < d.size → W3.cell? ⟨blk, off + t, none⟩ = some (.int .u8 (Gk t)) := fun t ht => by rw [hw3]; exact hc t ht
              have hf3 : ∀ t, t < d.size → W3.frozen? ⟨blk, off + t, none⟩ = false := fun t ht => by rw [hw3]; exact hf t ht
              have HW3 : Hid (W3 = W1.drewN (n2 + nq)) := hw3
              clear hw3
              obtain ⟨v3, hy3⟩ := cell?_setCell_some (w := W3) (p := ⟨blk, off + i', none⟩) (x := .int .u8 (Gk j')) (q := ⟨blk, off + j', none⟩) (hc3 j' (by omega))
              have hlt3 := part_scans_lt Sort.ltInt a i j dk (by omega) hi2.out hj2.out hle2
              go_wp2
              go_region
              all_goals go_wp2
              obtain ⟨R, hR⟩ : ∃ R, R = Sort.partLoop Sort.ltInt a (i' + 1) (j' - 1) (Sort.swp dk i' j') := ⟨_, rfl⟩
              have HP : Hid (Sort.partition Sort.ltInt d a b pivot = (R.1, false, Sort.swp R.2 R.1 a)) := by rw [hR]; exact part_first_go Sort.ltInt d a b pivot HI.out HJ.out HDK.out hi2.out hj2.out (by omega)
              have hw0 : ((W3.setCell ⟨blk, off + i', none⟩ (.int .u8 (Gk j'))).setCell ⟨blk, off + j', none⟩ (.int .u8 (Gk i'))).drew = (putRow (Value.int .u8) w blk off (Sort.swp dk i' j')).drewN (n + (n2 + nq) + 1) := by
                rw [HW3.out, AW.out, World.drewN_drewN, AG.out i', AG.out j']
                exact swap_worldC (Value.int .u8) w blk off dk _ i' j' (by omega) (by omega)
              have HR : Hid (R = Sort.partLoop Sort.ltInt a (i' + 1) (j' - 1) (Sort.swp dk i' j')) := hR
              clear hR hc hf hc3 hf3 hy3 HW3 AW AG hi2 hj2
              go_loopw [10, 11] (fun vi vj wr => ∃ (i j n : Nat) (dk : Array Int), vi = .int .i64 i ∧ vj = .int .i64 j ∧ a < i ∧ i ≤ j + 1 ∧ j < b ∧ dk.size = d.size ∧ wr = (putRow (Value.int .u8) w blk off dk).drewN n ∧
                  Sort.partLoop Sort.ltInt a i j dk = R)
                (fun vi vj _ => (intOf vj).toNat + 1 - (intOf vi).toNat)
              case atStart => exact ⟨i' + 1, j' - 1, _, Sort.swp dk i' j', by go_num, by go_num, by omega, by omega, by omega, by rw [size_swp]; exact hs, hw0, HR.out.symm⟩
              case round =>
                clear hw0 HR
                obtain ⟨i, j, n, dk, rfl, rfl, hai, hij, hjb, hs, hw, heq⟩ := hrel
                rename World => W1
                have AE : Hid (Sort.partLoop Sort.ltInt a i j dk = R) := heq
                clear heq
                have hHk : Holds (Value.int .u8) W1 blk off dk := by
                  rw [hw]
                  exact holds_putRow (Value.int .u8) w blk off d dk AH.out hs
                obtain ⟨Gk, hG⟩ : ∃ Gk : Nat → Int, ∀ t, Gk t = dk[t]! := ⟨fun t => dk[t]!, fun _ => rfl⟩
                have hc : ∀ t, t < d.size → W1.cell? ⟨blk, off + t, none⟩ = some (.int .u8 (Gk t)) := fun t ht => by rw [hG]; exact (hHk t (by omega)).1
                have hf : ∀ t, t < d.size → W1.frozen? ⟨blk, off + t, none⟩ = false := fun t ht => (hHk t (by omega)).2
                have AG : Hid (∀ t, Gk t = dk[t]!) := hG
                have AW : Hid (W1 = (putRow (Value.int .u8) w blk off dk).drewN n) := hw
                clear hG hw hHk
                go_wp2
                go_loopw [10] (fun vi w1 => ∃ (i' n1 : Nat), vi = .int .i64 i' ∧ i ≤ i' ∧ i' ≤ j + 1 ∧ w1 = W1.drewN n1 ∧
                    Hid (Sort.scanUp (fun x => Sort.ltInt x dk[a]!) dk j i' = Sort.scanUp (fun x => Sort.ltInt x dk[a]!) dk j i))
                  (fun vi _ => j + 1 - (intOf vi).toNat)
                case atStart => exact ⟨i, 0, rfl, Nat.le_refl _, hij, rfl, rfl⟩
                case round =>
                  obtain ⟨i', n1, rfl, hii, hij', hw1, hsc⟩ := hrel
                  have hcw : ∀ t, t < d.size → wr.cell? ⟨blk, off + t, none⟩ = some (.int .u8 (Gk t)) := fun t ht => by rw [hw1]; exact hc t ht
                  have HW1 : Hid (wr = W1.drewN n1) := hw1
                  clear hw1
                  by_cases hle : i' ≤ j
                  · go_wp2_with fail
                    go_big_quiet (first | (go_at_call 176; refine Calls.quiet_of_same (So_cmp_Less_int _ _ _)))
                    go_wp2
                    ·
                      have ht : Sort.ltInt (Gk i') (Gk a) = true := by assumption
                      go_roundw
                      case rel => exact ⟨i' + 1, n1 + nq, by go_num, by omega, by omega, by rw [HW1.out, World.drewN_drewN], (scanUp_go (fun x => Sort.ltInt x dk[a]!) dk j i' hle (by rw [← AG.out a, ← AG.out i']; exact ht)).symm.trans hsc.out⟩
                      case measure => simp [intOf]; omega
                    ·
                      have ht : Sort.ltInt (Gk i') (Gk a) = false := by assumption
                      have hi2 : Hid (i' = Sort.scanUp (fun x => Sort.ltInt x dk[a]!) dk j i) := (scanUp_end (fun x => Sort.ltInt x dk[a]!) dk j i' (Or.inr (by rw [← AG.out a, ← AG.out i']; exact ht))).symm.trans hsc.out
                      clear ht
                      have hw2 : wr.drewN nq = W1.drewN (n1 + nq) := by rw [HW1.out, World.drewN_drewN]
                      clear hcw HW1 hsc
                      go_loopw [11] (fun vj w2 => ∃ (j' n2 : Nat), vj = .int .i64 j' ∧ j' ≤ j ∧ i' ≤ j' + 1 ∧ w2 = W1.drewN n2 ∧
                          Hid (Sort.scanDown (fun x => !Sort.ltInt x dk[a]!) dk i' j' = Sort.scanDown (fun x => !Sort.ltInt x dk[a]!) dk i' j))
                        (fun vj _ => (intOf vj).toNat)
                      case atStart => exact ⟨j, n1 + nq, rfl, Nat.le_refl _, hij', hw2, rfl⟩
                      case round =>
                        clear hw2
                        obtain ⟨j', n2, rfl, hjj, hij2, hw2, hsd⟩ := hrel
                        have hcw : ∀ t, t < d.size → wr.cell? ⟨blk, off + t, none⟩ = some (.int .u8 (Gk t)) := fun t ht => by rw [hw2]; exact hc t ht
                        have HW2 : Hid (wr = W1.drewN n2) := hw2
                        clear hw2
                        by_cases hle2 : i' ≤ j'
                        · go_wp2_with fail
                          go_big_quiet (first | (go_at_call 176; refine Calls.quiet_of_same (So_cmp_Less_int _ _ _)))
                          go_wp2
                          ·
                            have ht : (!Sort.ltInt (Gk j') (Gk a)) = true := by assumption
                            go_roundw
                            case rel => exact ⟨j' - 1, n2 + nq, by go_num, by omega, by omega, by rw [HW2.out, World.drewN_drewN], (scanDown_go (fun x => !Sort.ltInt x dk[a]!) dk i' j' hle2 (by omega) (by rw [← AG.out a, ← AG.out j']; exact ht)).symm.trans hsd.out⟩
                            case measure => simp [intOf]; omega
                          ·
                            have ht : (!Sort.ltInt (Gk j') (Gk a)) = false := by assumption
                            have hj2 : Hid (j' = Sort.scanDown (fun x => !Sort.ltInt x dk[a]!) dk i' j) := (scanDown_end (fun x => !Sort.ltInt x dk[a]!) dk i' j' (Or.inr (by rw [← AG.out a, ← AG.out j']; exact ht))).symm.trans hsd.out
                            clear hcw hsd ht
                            have hw3 : wr.drewN nq = W1.drewN (n2 + nq) := by rw [HW2.out, World.drewN_drewN]
                            generalize wr.drewN nq = W3 at hw3 ⊢
                            have hc3 : ∀ t, t < d.size → W3.cell? ⟨blk, off + t, none⟩ = some (.int .u8 (Gk t)) := fun t ht => by rw [hw3]; exact hc t ht
                            have hf3 : ∀ t, t < d.size → W3.frozen? ⟨blk, off + t, none⟩ = false := fun t ht => by rw [hw3]; exact hf t ht
                            have HW3 : Hid (W3 = W1.drewN (n2 + nq)) := hw3
                            clear hw3
                            obtain ⟨v3, hy3⟩ := cell?_setCell_some (w := W3) (p := ⟨blk, off + i', none⟩) (x := .int .u8 (Gk j')) (q := ⟨blk, off + j', none⟩) (hc3 j' (by omega))
                            have hlt3 := part_scans_lt Sort.ltInt a i j dk (by omega) hi2.out hj2.out hle2
                            go_wp2
                            go_region
                            all_goals go_wp2
                            all_goals go_roundw
                            case rel =>
                              refine ⟨i' + 1, j' - 1, n + (n2 + nq) + 1, Sort.swp dk i' j', by go_num, by go_num, by omega, by omega, by omega, by rw [size_swp]; exact hs, ?_, ?_⟩
                              · rw [HW3.out, AW.out, World.drewN_drewN, AG.out i', AG.out j']
                                exact swap_worldC (Value.int .u8) w blk off dk _ i' j' (by omega) (by omega)
                              · exact (part_go Sort.ltInt a i j dk hi2.out hj2.out (by omega)).symm.trans AE.out
                            case measure => simp [intOf]; omega
                        · go_wp2_with fail
                          go_big_quiet (first | (go_at_call 176; refine Calls.quiet_of_same (So_cmp_Less_int _ _ _)))
                          have hj2 : Hid (j' = Sort.scanDown (fun x => !Sort.ltInt x dk[a]!) dk i' j) := (scanDown_end (fun x => !Sort.ltInt x dk[a]!) dk i' j' (Or.inl hle2)).symm.trans hsd.out
                          clear hcw hsd
                          have hw3 : wr.drewN nq = W1.drewN (n2 + nq) := by rw [HW2.out, World.drewN_drewN]
                          generalize wr.drewN nq = W3 at hw3 ⊢
                          have hc3 : ∀ t, t < d.size → W3.cell? ⟨blk, off + t, none⟩ = some (.int .u8 (Gk t)) := fun t ht => by rw [hw3]; exact hc t ht
                          have hf3 : ∀ t, t < d.size → W3.frozen? ⟨blk, off + t, none⟩ = false := fun t ht => by rw [hw3]; exact hf t ht
                          have HW3 : Hid (W3 = W1.drewN (n2 + nq)) := hw3
                          clear hw3
                          obtain ⟨v3, hy3⟩ := cell?_setCell_some (w := W3) (p := ⟨blk, off + j', none⟩) (x := .int .u8 (Gk a)) (q := ⟨blk, off + a, none⟩) (hc3 a (by omega))
                          have hlj : j' < d.size := by omega
                          go_wp2
                          go_region
                          all_goals go_wp2
                          all_goals go_ret2
                          have e : Sort.partition Sort.ltInt d a b pivot = (j', false, Sort.swp dk j' a) := by
                            have e0 := (part_break Sort.ltInt a i j dk hi2.out hj2.out (by omega)).symm.trans AE.out
                            rw [HP.out, ← e0]
                          refine ⟨?_, n + (n2 + nq) + 1, ?_⟩
                          · rw [e]; rfl
                          · rw [e, HW3.out, AW.out, World.drewN_drewN, AG.out a, AG.out j']
                            exact swap_worldC (Value.int .u8) w blk off dk _ j' a (by omega) (by omega)
                  · go_wp2_with fail
                    go_big_quiet (first | (go_at_call 176; refine Calls.quiet_of_same (So_cmp_Less_int _ _ _)))
                    go_wp2
                    have hi2 : Hid (i' = Sort.scanUp (fun x => Sort.ltInt x dk[a]!) dk j i) := (scanUp_end (fun x => Sort.ltInt x dk[a]!) dk j i' (Or.inl hle)).symm.trans hsc.out
                    have hw2 : wr.drewN nq = W1.drewN (n1 + nq) := by rw [HW1.out, World.drewN_drewN]
                    clear hcw HW1 hsc
                    go_loopw [11] (fun vj w2 => ∃ (j' n2 : Nat), vj = .int .i64 j' ∧ j' ≤ j ∧ i' ≤ j' + 1 ∧ w2 = W1.drewN n2 ∧
                        Hid (Sort.scanDown (fun x => !Sort.ltInt x dk[a]!) dk i' j' = Sort.scanDown (fun x => !Sort.ltInt x dk[a]!) dk i' j))
                      (fun vj _ => (intOf vj).toNat)
                    case atStart => exact ⟨j, n1 + nq, rfl, Nat.le_refl _, hij', hw2, rfl⟩
                    case round =>
                      clear hw2
                      obtain ⟨j', n2, rfl, hjj, hij2, hw2, hsd⟩ := hrel
                      have hcw : ∀ t, t < d.size → wr.cell? ⟨blk, off + t, none⟩ = some (.int .u8 (Gk t)) := fun t ht => by rw [hw2]; exact hc t ht
                      have HW2 : Hid (wr = W1.drewN n2) := hw2
                      clear hw2
                      by_cases hle2 : i' ≤ j'
                      · exfalso; omega
                      · go_wp2_with fail
                        go_big_quiet (first | (go_at_call 176; refine Calls.quiet_of_same (So_cmp_Less_int _ _ _)))
                        have hj2 : Hid (j' = Sort.scanDown (fun x => !Sort.ltInt x dk[a]!) dk i' j) := (scanDown_end (fun x => !Sort.ltInt x dk[a]!) dk i' j' (Or.inl hle2)).symm.trans hsd.out
                        clear hcw hsd
                        have hw3 : wr.drewN nq = W1.drewN (n2 + nq) := by rw [HW2.out, World.drewN_drewN]
                        generalize wr.drewN nq = W3 at hw3 ⊢
                        have hc3 : ∀ t, t < d.size → W3.cell? ⟨blk, off + t, none⟩ = some (.int .u8 (Gk t)) := fun t ht => by rw [hw3]; exact hc t ht
                        have hf3 : ∀ t, t < d.size → W3.frozen? ⟨blk, off + t, none⟩ = false := fun t ht => by rw [hw3]; exact hf t ht
                        have HW3 : Hid (W3 = W1.drewN (n2 + nq)) := hw3
                        clear hw3
                        obtain ⟨v3, hy3⟩ := cell?_setCell_some (w := W3) (p := ⟨blk, off + j', none⟩) (x := .int .u8 (Gk a)) (q := ⟨blk, off + a, none⟩) (hc3 a (by omega))
                        have hlj : j' < d.size := by omega
                        go_wp2
                        go_region
                        all_goals go_wp2
                        all_goals go_ret2
                        have e : Sort.partition Sort.ltInt d a b pivot = (j', false, Sort.swp dk j' a) := by
                          have e0 := (part_break Sort.ltInt a i j dk hi2.out hj2.out (by omega)).symm.trans AE.out
                          rw [HP.out, ← e0]
                        refine ⟨?_, n + (n2 + nq) + 1, ?_⟩
                        · rw [e]; rfl
                        · rw [e, HW3.out, AW.out, World.drewN_drewN, AG.out a, AG.out j']
                          exact swap_worldC (Value.int .u8) w blk off dk _ j' a (by omega) (by omega)
          · go_wp2_with fail
            go_big_quiet (first | (go_at_call 176; refine Calls.quiet_of_same (So_cmp_Less_int _ _ _)))
            have hj2 : Hid (j' = Sort.scanDown (fun x => !Sort.ltInt x dk[a]!) dk i' j) := (scanDown_end (fun x => !Sort.ltInt x dk[a]!) dk i' j' (Or.inl hle2)).symm.trans hsd.out
            clear hcw hsd
            have hw3 : wr.drewN nq = W1.drewN (n2 + nq) := by rw [HW2.out, World.drewN_drewN]
            generalize wr.drewN nq = W3 at hw3 ⊢
            have hc3 : ∀ t, t < d.size → W3.cell? ⟨blk, off + t, none⟩ = some (.int .u8 (Gk t)) := fun t ht => by rw [hw3]; exact hc t ht
            have hf3 : ∀ t, t < d.size → W3.frozen? ⟨blk, off + t, none⟩ = false := fun t ht => by rw [hw3]; exact hf t ht
            have HW3 : Hid (W3 = W1.drewN (n2 + nq)) := hw3
            clear hw3
            obtain ⟨v3, hy3⟩ := cell?_setCell_some (w := W3) (p := ⟨blk, off + j', none⟩) (x := .int .u8 (Gk a)) (q := ⟨blk, off + a, none⟩) (hc3 a (by omega))
            have hlj : j' < d.size := by omega
            go_wp2
            go_region
            all_goals go_wp2
            all_goals go_ret2
            have e : Sort.partition Sort.ltInt d a b pivot = (j', true, Sort.swp dk j' a) := part_first_break Sort.ltInt d a b pivot HI.out HJ.out HDK.out hi2.out hj2.out (by omega)
            refine ⟨?_, n + (n2 + nq) + 1, ?_⟩
            · rw [e]; rfl
            · rw [e, HW3.out, AW.out, World.drewN_drewN, AG.out a, AG.out j']
              exact swap_worldC (Value.int .u8) w blk off dk _ j' a (by omega) (by omega)
    · go_wp2_with fail
      go_big_quiet (first | (go_at_call 176; refine Calls.quiet_of_same (So_cmp_Less_int _ _ _)))
      go_wp2
      have hi2 : Hid (i' = Sort.scanUp (fun x => Sort.ltInt x dk[a]!) dk j i) := (scanUp_end (fun x => Sort.ltInt x dk[a]!) dk j i' (Or.inl hle)).symm.trans hsc.out
      have hw2 : wr.drewN nq = W1.drewN (n1 + nq) := by rw [HW1.out, World.drewN_drewN]
      clear hcw HW1 hsc
      go_loopw [11] (fun vj w2 => ∃ (j' n2 : Nat), vj = .int .i64 j' ∧ j' ≤ j ∧ i' ≤ j' + 1 ∧ w2 = W1.drewN n2 ∧
          Hid (Sort.scanDown (fun x => !Sort.ltInt x dk[a]!) dk i' j' = Sort.scanDown (fun x => !Sort.ltInt x dk[a]!) dk i' j))
        (fun vj _ => (intOf vj).toNat)
      case atStart => exact ⟨j, n1 + nq, rfl, Nat.le_refl _, hij', hw2, rfl⟩
      case round =>
        clear hw2
        obtain ⟨j', n2, rfl, hjj, hij2, hw2, hsd⟩ := hrel
        have hcw : ∀ t, t < d.size → wr.cell? ⟨blk, off + t, none⟩ = some (.int .u8 (Gk t)) := fun t ht => by rw [hw2]; exact hc t ht
        have HW2 : Hid (wr = W1.drewN n2) := hw2
        clear hw2
        by_cases hle2 : i' ≤ j'
        · exfalso; omega
        · go_wp2_with fail
          go_big_quiet (first | (go_at_call 176; refine Calls.quiet_of_same (So_cmp_Less_int _ _ _)))
          have hj2 : Hid (j' = Sort.scanDown (fun x => !Sort.ltInt x dk[a]!) dk i' j) := (scanDown_end (fun x => !Sort.ltInt x dk[a]!) dk i' j' (Or.inl hle2)).symm.trans hsd.out
          clear hcw hsd
          have hw3 : wr.drewN nq = W1.drewN (n2 + nq) := by rw [HW2.out, World.drewN_drewN]
          generalize wr.drewN nq = W3 at hw3 ⊢
          have hc3 : ∀ t, t < d.size → W3.cell? ⟨blk, off + t, none⟩ = some (.int .u8 (Gk t)) := fun t ht => by rw [hw3]; exact hc t ht
          have hf3 : ∀ t, t < d.size → W3.frozen? ⟨blk, off + t, none⟩ = false := fun t ht => by rw [hw3]; exact hf t ht
          have HW3 : Hid (W3 = W1.drewN (n2 + nq)) := hw3
          clear hw3
          obtain ⟨v3, hy3⟩ := cell?_setCell_some (w := W3) (p := ⟨blk, off + j', none⟩) (x := .int .u8 (Gk a)) (q := ⟨blk, off + a, none⟩) (hc3 a (by omega))
          have hlj : j' < d.size := by omega
          go_wp2
          go_region
          all_goals go_wp2
          all_goals go_ret2
          have e : Sort.partition Sort.ltInt d a b pivot = (j', true, Sort.swp dk j' a) := part_first_break Sort.ltInt d a b pivot HI.out HJ.out HDK.out hi2.out hj2.out (by omega)
          refine ⟨?_, n + (n2 + nq) + 1, ?_⟩
          · rw [e]; rfl
          · rw [e, HW3.out, AW.out, World.drewN_drewN, AG.out a, AG.out j']
            exact swap_worldC (Value.int .u8) w blk off dk _ j' a (by omega) (by omega)
theorem So_partitionOrdered_int (blk off cap a b pivot : Nat) (d : Array Int) (w : World) (hH : Holds (Value.int .u8) w blk off d) (hap : a ≤ pivot) (hpb : pivot < b) (hb : b ≤ d.size) (hsz : d.size < 4611686018427387904) :
    Calls Tryd.prog 178 #[.slice (some ⟨blk, off, none⟩) d.size cap, .int .i64 a, .int .i64 b, .int .i64 pivot] w fun e w' =>
      e = .returned (.tuple #[.int .i64 (Sort.partition Sort.ltInt d a b pivot).1, .bool (Sort.partition Sort.ltInt d a b pivot).2.1]) ∧ ∃ n, w' = putRow (Value.int .u8) (Sort.ahead w n) blk off (Sort.partition Sort.ltInt d a b pivot).2.2 :=
  (So_partition_int blk off cap a b pivot d w hH hap hpb hb hsz).mono fun _ _ ⟨he, n, hw⟩ => ⟨he, n, hw⟩
end Go.Proofs.YtiibnkibckklgaaDoor.P
namespace Go.Proofs.YtiibnkibckklgaaDoor.P
set_option linter.unusedVariables false
set_option linter.unusedSimpArgs false
open Go.RowKit Go.Sort Go.Proofs
theorem So_bits_Len (x : Int) (w : World) (h0 : 0 ≤ x) (h1 : x ≤ 18446744073709551615) : Calls Tryd.prog 148 #[.int .u64 x] w fun e w' => e = .returned (.int .i64 (Lib.bitLen x.toNat)) ∧ w' = w := Any.bits_Len Tryd.lays125 x w h0 h1
theorem holds_aside8 {w : World} {blk off sb so n t : Nat} {d : Array Int} (h : Holds (Value.int .u8) w blk off d) (hne : sb ≠ blk) : Holds (Value.int .u8) (putRow (Value.int .i64) (Sort.ahead w n) sb so (one t)) blk off d := fun j hj =>
  ⟨by rw [cell?_putRow_other _ _ _ _ _ _ (Or.inl (Ne.symm hne))]; exact (h j hj).1, by rw [frozen?_putRow]; exact (h j hj).2⟩
set_option maxHeartbeats 1000000 in
theorem So_order2_int (d : Array Int) (len : Nat) (hlen : d.size = len) (blk off cap a b sb so s : Nat) (w : World) (hH : Holds (Value.int .u8) w blk off d) (ha : a < d.size) (hb : b < d.size)
    (hS : Holds (Value.int .i64) w sb so (one s)) (hs : s < 2 ^ 62) :
    Calls Tryd.prog 211 #[.slice (some ⟨blk, off, none⟩) len cap, .int .i64 a, .int .i64 b, .pointer (some ⟨sb, so, none⟩)] w fun e w' =>
      e = .returned (.tuple #[.int .i64 (order2 ltInt d a b s).1, .int .i64 (order2 ltInt d a b s).2.1]) ∧ ∃ n, w' = putRow (Value.int .i64) (Sort.ahead w n) sb so (one (order2 ltInt d a b s).2.2) := by
  subst hlen
  replace hs : s < 4611686018427387904 := by omega
  have ca := (hH a ha).1
  have cb := (hH b hb).1
  obtain ⟨cs, fs⟩ := one_cell hS
  have ea : d[a]! = d[a] := getElem!_pos d a ha
  have eb : d[b]! = d[b] := getElem!_pos d b hb
  go_enter Tryd.func211, Tryd.ntmps211
  go_wp2
  go_region_with (go_at_call 176; refine (So_cmp_Less_int _ _ _).mono ?_; rintro e w' ⟨rfl, rfl⟩)
  all_goals (try go_wp2)
  all_goals first
    | (have hlt : ltInt d[b] d[a] = true := by assumption
       have e2 : order2 ltInt d a b s = (b, a, s + 1) := by simp [order2, ea, eb, hlt]
       go_ret2
       rw [e2]
       refine ⟨rfl, 1, ?_⟩
       rw [putRow_ahead, ← one_set hS (s + 1)]
       simp [drew_eq_ahead])
    | (have hlt : ltInt d[b] d[a] = false := by assumption
       have e2 : order2 ltInt d a b s = (a, b, s) := by simp [order2, ea, eb, hlt]
       go_ret2
       rw [e2]
       refine ⟨rfl, 1, ?_⟩
       rw [putRow_ahead, putRow_self _ _ _ _ _ hS]
       rfl)
set_option maxHeartbeats 1000000 in
set_option maxRecDepth 100000 in
theorem So_median_int (d : Array Int) (len : Nat) (hlen : d.size = len) (blk off cap a b c sb so s : Nat) (w : World) (hH : Holds (Value.int .u8) w blk off d) (ha : a < d.size) (hb : b < d.size) (hc : c < d.size) (hne : sb ≠ blk)
    (hS : Holds (Value.int .i64) w sb so (one s)) (hs : s + 3 < 2 ^ 62) :
    Calls Tryd.prog 198 #[.slice (some ⟨blk, off, none⟩) len cap, .int .i64 a, .int .i64 b, .int .i64 c, .pointer (some ⟨sb, so, none⟩)] w fun e w' =>
      e = .returned (.int .i64 (median ltInt d a b c s).1) ∧ ∃ n, w' = putRow (Value.int .i64) (Sort.ahead w n) sb so (one (median ltInt d a b c s).2) := by
  subst hlen
  have l1 := order2_lt d s ha hb
  have s1 := order2_swaps d a b s
  have l2 := order2_lt d (order2 ltInt d a b s).2.2 l1.2 hc
  have s2 := order2_swaps d (order2 ltInt d a b s).2.1 c (order2 ltInt d a b s).2.2
  go_enter Tryd.func198, Tryd.ntmps198
  go_wp2_with (go_at_call_of 211 (Value.int .i64 (b : Int)); refine (So_order2_int d _ rfl blk off cap a b sb so s w hH ha hb hS (by omega)).mono ?_; rintro e w' ⟨rfl, n1, rfl⟩)
  go_wp2_with (go_at_call_of 211 (Value.int .i64 (c : Int)); refine (So_order2_int d _ rfl blk off cap (order2 ltInt d a b s).2.1 c sb so (order2 ltInt d a b s).2.2 _ (holds_aside8 hH hne) l1.2 hc (holds_one hS) (by omega)).mono ?_; rintro e w' ⟨rfl, n2, rfl⟩)
  go_wp2_with (go_at_call_of 211 (Value.int .i64 ((order2 ltInt d a b s).1 : Int)); refine (So_order2_int d _ rfl blk off cap (order2 ltInt d a b s).1 (order2 ltInt d (order2 ltInt d a b s).2.1 c (order2 ltInt d a b s).2.2).1 sb so (order2 ltInt d (order2 ltInt d a b s).2.1 c (order2 ltInt d a b s).2.2).2.2 _
    (holds_aside8 (holds_aside8 hH hne) hne) l1.1 l2.1 (holds_one (holds_one hS)) (by omega)).mono ?_; rintro e w' ⟨rfl, n3, rfl⟩)
  go_ret
  refine ⟨rfl, n1 + (n2 + n3), ?_⟩
  rw [one_one, one_one]
  rfl
set_option maxHeartbeats 1000000 in
set_option maxRecDepth 100000 in
theorem So_medianAdjacent_int (d : Array Int) (len : Nat) (hlen : d.size = len) (blk off cap a sb so s : Nat) (w : World) (hH : Holds (Value.int .u8) w blk off d) (ha0 : 1 ≤ a) (ha : a + 1 < d.size) (hsz : d.size < 2 ^ 62) (hne : sb ≠ blk)
    (hS : Holds (Value.int .i64) w sb so (one s)) (hs : s + 3 < 2 ^ 62) :
    Calls Tryd.prog 197 #[.slice (some ⟨blk, off, none⟩) len cap, .int .i64 a, .pointer (some ⟨sb, so, none⟩)] w fun e w' =>
      e = .returned (.int .i64 (medianAdjacent ltInt d a s).1) ∧ ∃ n, w' = putRow (Value.int .i64) (Sort.ahead w n) sb so (one (medianAdjacent ltInt d a s).2) := by
  subst hlen
  replace hsz : d.size < 4611686018427387904 := by omega
  go_enter Tryd.func197, Tryd.ntmps197
  go_wp2_with (go_at_call 198; rw [show ((a : Int) - 1) = ((a - 1 : Nat) : Int) by omega, show ((a : Int) + 1) = ((a + 1 : Nat) : Int) by omega]; refine (So_median_int d _ rfl blk off cap (a - 1) a (a + 1) sb so s w hH (by omega) (by omega) ha hne hS hs).mono ?_; rintro e w' ⟨rfl, n1, rfl⟩)
  go_ret
  exact ⟨rfl, n1, rfl⟩
theorem pivot_world_u8 (blk off cap : Nat) (d : Array Int) (w : World) (hH : Holds (Value.int .u8) w blk off d) (hblk : blk < w.heap.size) (hsz : d.size < 4611686018427387904) :
    ∃ Wc : Nat → Nat → World,
      w.alloc (.cells #[.int .i64 0] 3) = Wc 0 0 ∧
      (∀ N S : Nat, (Wc N S).cell? ⟨w.heap.size, 0, none⟩ = some (.int .i64 (S : Int))) ∧
      (∀ N S : Nat, ∃ os, Wc N S = grow (Sort.ahead w N) os) ∧
      (∀ x s N : Nat, 1 ≤ x → x + 1 < d.size → s + 3 < 4611686018427387904 → Calls Tryd.prog 197 #[.slice (some ⟨blk, off, none⟩) d.size cap, .int .i64 (x : Int), .pointer (some ⟨w.heap.size, 0, none⟩)] (Wc N s) fun e w' =>
        e = .returned (.int .i64 ((medianAdjacent ltInt d x s).1 : Int)) ∧ ∃ N', w' = Wc N' (medianAdjacent ltInt d x s).2) ∧
      (∀ x y z s N : Nat, x < d.size → y < d.size → z < d.size → s + 3 < 4611686018427387904 → Calls Tryd.prog 198 #[.slice (some ⟨blk, off, none⟩) d.size cap, .int .i64 (x : Int), .int .i64 (y : Int), .int .i64 (z : Int), .pointer (some ⟨w.heap.size, 0, none⟩)] (Wc N s) fun e w' =>
        e = .returned (.int .i64 ((median ltInt d x y z s).1 : Int)) ∧ ∃ N', w' = Wc N' (median ltInt d x y z s).2) := by
  have hne : w.heap.size ≠ blk := by omega
  have hH0 : Holds (Value.int .u8) (w.alloc (.cells #[.int .i64 0] 3)) blk off d := by rw [alloc_eq_grow]; exact holds_grow _ _ _ _ _ _ hblk hH
  have hS0 : Holds (Value.int .i64) (w.alloc (.cells #[.int .i64 0] 3)) w.heap.size 0 (one 0) := fun j hj => by
    obtain rfl : j = 0 := by simpa using hj
    simp
  refine ⟨fun N S => putRow (Value.int .i64) (Sort.ahead (w.alloc (.cells #[.int .i64 0] 3)) N) w.heap.size 0 (one S), (putRow_self _ _ _ _ _ hS0).symm, fun N S => (one_cell (holds_one (n := N) (t := S) hS0)).1, fun N S => counter_grow w N S, ?_, ?_⟩
  · intro x s N h1 h2 hs
    refine (So_medianAdjacent_int d _ rfl blk off cap x w.heap.size 0 s _ (holds_aside8 hH0 hne) h1 h2 (by omega) hne (holds_one hS0) (by omega)).mono ?_
    rintro e w' ⟨he, n, hw⟩
    exact ⟨he, N + n, by rw [hw, one_one]⟩
  · intro x y z s N h1 h2 h3 hs
    refine (So_median_int d _ rfl blk off cap x y z w.heap.size 0 s _ (holds_aside8 hH0 hne) h1 h2 h3 hne (holds_one hS0) (by omega)).mono ?_
    rintro e w' ⟨he, n, hw⟩
    exact ⟨he, N + n, by rw [hw, one_one]⟩
set_option maxRecDepth 100000 in
theorem So_choosePivot_int (blk off cap a b : Nat) (d : Array Int) (w : World) (hH : Holds (Value.int .u8) w blk off d) (hblk : blk < w.heap.size) (hab : a < b) (hb : b ≤ d.size) (hsz : d.size < 4611686018427387904) :
    Calls Tryd.prog 173 #[.slice (some ⟨blk, off, none⟩) d.size cap, .int .i64 a, .int .i64 b] w fun e w' =>
      e = .returned (.tuple #[.int .i64 (choosePivot ltInt d a b).1, .int .i64 (hintCode (choosePivot ltInt d a b).2)]) ∧ ∃ n os, w' = grow (Sort.ahead w n) os := by
  obtain ⟨Wc, hW0, cS, hG, MA, MD⟩ := pivot_world_u8 blk off cap d w hH hblk hsz
  clear hH
  rw [choosePivot_eq]
  obtain ⟨I, hI⟩ : ∃ I : Nat, I = a + (b - a) / 4 * 1 := ⟨_, rfl⟩
  obtain ⟨J, hJ⟩ : ∃ J : Nat, J = a + (b - a) / 4 * 2 := ⟨_, rfl⟩
  obtain ⟨K, hK⟩ : ∃ K : Nat, K = a + (b - a) / 4 * 3 := ⟨_, rfl⟩
  have eI : ((a : Int) + ((b : Int) - (a : Int)) / 4) = (I : Int) := by omega
  have eJ : ((a : Int) + ((b : Int) - (a : Int)) / 4 * 2) = (J : Int) := by omega
  have eK : ((a : Int) + ((b : Int) - (a : Int)) / 4 * 3) = (K : Int) := by omega
  by_cases h8 : b - a ≥ 8
  · by_cases h50 : b - a ≥ 50
    ·
      obtain ⟨i1, s1, h1⟩ : ∃ i1 s1, medianAdjacent ltInt d I 0 = (i1, s1) := ⟨_, _, rfl⟩
      obtain ⟨j1, s2, h2⟩ : ∃ j1 s2, medianAdjacent ltInt d J s1 = (j1, s2) := ⟨_, _, rfl⟩
      obtain ⟨k1, s3, h3⟩ : ∃ k1 s3, medianAdjacent ltInt d K s2 = (k1, s3) := ⟨_, _, rfl⟩
      obtain ⟨p, s, h4⟩ : ∃ p s, median ltInt d i1 j1 k1 s3 = (p, s) := ⟨_, _, rfl⟩
      have hraw : rawPivot ltInt d a b = (p, s) := by simp only [rawPivot, if_pos h8, if_pos h50, ← hI, ← hJ, ← hK, h1, h2, h3, h4]
      have m1 := medianAdjacent_mem ltInt d I 0; rw [h1] at m1
      have m2 := medianAdjacent_mem ltInt d J s1; rw [h2] at m2
      have m3 := medianAdjacent_mem ltInt d K s2; rw [h3] at m3
      have n1 := medianAdjacent_count ltInt d I 0; rw [h1] at n1
      have n2 := medianAdjacent_count ltInt d J s1; rw [h2] at n2
      have n3 := medianAdjacent_count ltInt d K s2; rw [h3] at n3
      simp only [] at m1 m2 m3 n1 n2 n3
      have c1 : Calls Tryd.prog 197 #[.slice (some ⟨blk, off, none⟩) d.size cap, .int .i64 (I : Int), .pointer (some ⟨w.heap.size, 0, none⟩)] (Wc 0 0) fun e w' => e = .returned (.int .i64 (i1 : Int)) ∧ ∃ N', w' = Wc N' s1 := by
        have h := MA I 0 0 (by omega) (by omega) (by omega); rw [h1] at h; exact h
      have c2 : ∀ N, Calls Tryd.prog 197 #[.slice (some ⟨blk, off, none⟩) d.size cap, .int .i64 (J : Int), .pointer (some ⟨w.heap.size, 0, none⟩)] (Wc N s1) fun e w' => e = .returned (.int .i64 (j1 : Int)) ∧ ∃ N', w' = Wc N' s2 := fun N => by
        have h := MA J s1 N (by omega) (by omega) (by omega); rw [h2] at h; exact h
      have c3 : ∀ N, Calls Tryd.prog 197 #[.slice (some ⟨blk, off, none⟩) d.size cap, .int .i64 (K : Int), .pointer (some ⟨w.heap.size, 0, none⟩)] (Wc N s2) fun e w' => e = .returned (.int .i64 (k1 : Int)) ∧ ∃ N', w' = Wc N' s3 := fun N => by
        have h := MA K s2 N (by omega) (by omega) (by omega); rw [h3] at h; exact h
      have c4 : ∀ N, Calls Tryd.prog 198 #[.slice (some ⟨blk, off, none⟩) d.size cap, .int .i64 (i1 : Int), .int .i64 (j1 : Int), .int .i64 (k1 : Int), .pointer (some ⟨w.heap.size, 0, none⟩)] (Wc N s3) fun e w' => e = .returned (.int .i64 (p : Int)) ∧ ∃ N', w' = Wc N' s := fun N => by
        have h := MD i1 j1 k1 s3 N (by omega) (by omega) (by omega) (by omega); rw [h4] at h; exact h
      rw [hraw]
      obtain ⟨Hc, hHc⟩ : ∃ Hc : Int, Hc = hintCode (hintOf s) := ⟨_, rfl⟩
      have hh0 : s = 0 → Hc = 1 := fun h => by rw [hHc, h]; rfl
      have hh12 : s = 12 → Hc = 2 := fun h => by rw [hHc, h]; rfl
      have hhx : s ≠ 0 → s ≠ 12 → Hc = 0 := fun h1 h2 => by rw [hHc]; unfold hintOf; rw [if_neg h1, if_neg h2]; rfl
      show Calls Tryd.prog 173 _ w fun e w' => e = .returned (.tuple #[.int .i64 (p : Int), .int .i64 (hintCode (hintOf s))]) ∧ ∃ n os, w' = grow (Sort.ahead w n) os
      rw [← hHc]
      clear hHc hraw
      clear h1 h2 h3 h4 MA MD hI hJ hK m1 m2 m3
      go_enter Tryd.func173, Tryd.ntmps173
      go_wp2_with (first
        | (go_at_call_has 197 (Value.int .i64 (I : Int)); refine c1.mono ?_; rintro e w' ⟨rfl, N1, rfl⟩)
        | (go_at_call_has 197 (Value.int .i64 (J : Int)); refine (c2 _).mono ?_; rintro e w' ⟨rfl, N2, rfl⟩)
        | (go_at_call_has 197 (Value.int .i64 (K : Int)); refine (c3 _).mono ?_; rintro e w' ⟨rfl, N3, rfl⟩)
        | (go_at_call 198; refine (c4 _).mono ?_; rintro e w' ⟨rfl, N4, rfl⟩))
      all_goals
        go_ret2
        refine ⟨?_, _, hG _ _⟩
        first
          | (have e0 : (s : Int) = 0 := of_beq_int (by assumption)
             rw [hh0 (by omega)]; rfl)
          | (have e1 : (s : Int) = 12 := of_beq_int (by assumption)
             rw [hh12 (by omega)]; rfl)
          | (have e0 : (s : Int) ≠ 0 := of_bne_int (by assumption)
             have e1 : (s : Int) ≠ 12 := of_bne_int (by assumption)
             rw [hhx (by omega) (by omega)]; rfl)
          | (rw [hh0 (by omega)]; rfl)
    ·
      obtain ⟨p, s, h4⟩ : ∃ p s, median ltInt d I J K 0 = (p, s) := ⟨_, _, rfl⟩
      have hraw : rawPivot ltInt d a b = (p, s) := by simp only [rawPivot, if_pos h8, if_neg h50, ← hI, ← hJ, ← hK, h4]
      have c4 : Calls Tryd.prog 198 #[.slice (some ⟨blk, off, none⟩) d.size cap, .int .i64 (I : Int), .int .i64 (J : Int), .int .i64 (K : Int), .pointer (some ⟨w.heap.size, 0, none⟩)] (Wc 0 0) fun e w' => e = .returned (.int .i64 (p : Int)) ∧ ∃ N', w' = Wc N' s := by
        have h := MD I J K 0 0 (by omega) (by omega) (by omega) (by omega); rw [h4] at h; exact h
      rw [hraw]
      obtain ⟨Hc, hHc⟩ : ∃ Hc : Int, Hc = hintCode (hintOf s) := ⟨_, rfl⟩
      have hh0 : s = 0 → Hc = 1 := fun h => by rw [hHc, h]; rfl
      have hh12 : s = 12 → Hc = 2 := fun h => by rw [hHc, h]; rfl
      have hhx : s ≠ 0 → s ≠ 12 → Hc = 0 := fun h1 h2 => by rw [hHc]; unfold hintOf; rw [if_neg h1, if_neg h2]; rfl
      show Calls Tryd.prog 173 _ w fun e w' => e = .returned (.tuple #[.int .i64 (p : Int), .int .i64 (hintCode (hintOf s))]) ∧ ∃ n os, w' = grow (Sort.ahead w n) os
      rw [← hHc]
      clear hHc hraw
      clear h4 MA MD hI hJ hK
      go_enter Tryd.func173, Tryd.ntmps173
      go_wp2_with (first | (go_at_call 198; refine c4.mono ?_; rintro e w' ⟨rfl, N4, rfl⟩))
      all_goals
        go_ret2
        refine ⟨?_, _, hG _ _⟩
        first
          | (have e0 : (s : Int) = 0 := of_beq_int (by assumption)
             rw [hh0 (by omega)]; rfl)
          | (have e1 : (s : Int) = 12 := of_beq_int (by assumption)
             rw [hh12 (by omega)]; rfl)
          | (have e0 : (s : Int) ≠ 0 := of_bne_int (by assumption)
             have e1 : (s : Int) ≠ 12 := of_bne_int (by assumption)
             rw [hhx (by omega) (by omega)]; rfl)
          | (rw [hh0 (by omega)]; rfl)
  ·
    obtain ⟨p, hp⟩ : ∃ p : Nat, p = J := ⟨_, rfl⟩
    obtain ⟨s, hs⟩ : ∃ s : Nat, s = 0 := ⟨_, rfl⟩
    have hraw : rawPivot ltInt d a b = (p, s) := by simp only [rawPivot, if_neg h8, ← hJ, hp, hs]
    rw [hraw]
    obtain ⟨Hc, hHc⟩ : ∃ Hc : Int, Hc = hintCode (hintOf s) := ⟨_, rfl⟩
    have hh0 : s = 0 → Hc = 1 := fun h => by rw [hHc, h]; rfl
    have hh12 : s = 12 → Hc = 2 := fun h => by rw [hHc, h]; rfl
    have hhx : s ≠ 0 → s ≠ 12 → Hc = 0 := fun h1 h2 => by rw [hHc]; unfold hintOf; rw [if_neg h1, if_neg h2]; rfl
    show Calls Tryd.prog 173 _ w fun e w' => e = .returned (.tuple #[.int .i64 (p : Int), .int .i64 (hintCode (hintOf s))]) ∧ ∃ n os, w' = grow (Sort.ahead w n) os
    rw [← hHc]
    clear hHc hraw
    subst hp
    clear MA MD hI hJ hK
    have hW0' : w.alloc (.cells #[.int .i64 0] 3) = Wc 0 s := by rw [hs]; exact hW0
    clear hW0
    go_enter Tryd.func173, Tryd.ntmps173
    go_wp2
    all_goals
      go_ret2
      refine ⟨?_, _, hG _ _⟩
      first
        | (have e0 : (s : Int) = 0 := of_beq_int (by assumption)
           rw [hh0 (by omega)]; rfl)
        | (have e1 : (s : Int) = 12 := of_beq_int (by assumption)
           rw [hh12 (by omega)]; rfl)
        | (have e0 : (s : Int) ≠ 0 := of_bne_int (by assumption)
           have e1 : (s : Int) ≠ 12 := of_bne_int (by assumption)
           rw [hhx (by omega) (by omega)]; rfl)
        | (rw [hh0 (by omega)]; rfl)
theorem So_xorshift_Next (rb ro X : Nat) (hX : X < 18446744073709551616) (w : World) (hc : w.cell? ⟨rb, ro, none⟩ = some (.int .u64 X)) (hf : w.frozen? ⟨rb, ro, none⟩ = false) :
    Calls Tryd.prog 196 #[.pointer (some ⟨rb, ro, none⟩)] w fun e w' => e = .returned (.int .u64 (xorNextN X : Nat)) ∧ w' = (w.setCell ⟨rb, ro, none⟩ (.int .u64 (xorNextN X : Nat))).drewN 3 := by
  obtain ⟨A, hA⟩ : ∃ A : Nat, A = X ^^^ (X * 8192 % 18446744073709551616) := ⟨_, rfl⟩
  obtain ⟨B, hB⟩ : ∃ B : Nat, B = A ^^^ (A / 128) := ⟨_, rfl⟩
  obtain ⟨C, hC⟩ : ∃ C : Nat, C = B ^^^ (B * 131072 % 18446744073709551616) := ⟨_, rfl⟩
  have lA : A < 18446744073709551616 := by rw [hA]; exact Nat.xor_lt_two_pow (n := 64) (by omega) (by omega)
  have lB : B < 18446744073709551616 := by rw [hB]; exact Nat.xor_lt_two_pow (n := 64) (by omega) (by omega)
  have e1 : bits .xor .u64 (X : Int) (IntKind.u64.wrap ((X : Int) * 8192)) = (A : Int) := by
    rw [IntKind.wrap_u64, show ((X : Int) * 8192 % 18446744073709551616) = ((X * 8192 % 18446744073709551616 : Nat) : Int) by omega, bits_xor_u64_nat _ _ hX (by omega), hA]
  have e2 : bits .xor .u64 (A : Int) ((A : Int) / 128) = (B : Int) := by
    rw [show ((A : Int) / 128) = ((A / 128 : Nat) : Int) by omega, bits_xor_u64_nat _ _ lA (by omega), hB]
  have e3 : bits .xor .u64 (B : Int) (IntKind.u64.wrap ((B : Int) * 131072)) = (C : Int) := by
    rw [IntKind.wrap_u64, show ((B : Int) * 131072 % 18446744073709551616) = ((B * 131072 % 18446744073709551616 : Nat) : Int) by omega, bits_xor_u64_nat _ _ lB (by omega), hC]
  have hv : xorNextN X = C := by unfold xorNextN; simp only []; rw [← hA, ← hB, ← hC]
  rw [hv]
  clear hA hB hC hv
  have hss : ∀ v v', (w.setCell ⟨rb, ro, none⟩ v).setCell ⟨rb, ro, none⟩ v' = w.setCell ⟨rb, ro, none⟩ v' := setCell_setCell w rb ro
  go_enter Tryd.func196, Tryd.ntmps196
  go_wp2
  go_region
  all_goals go_wp2
  all_goals go_region
  all_goals go_wp2
  all_goals go_region
  all_goals go_wp2
  go_ret
  exact ⟨rfl, rfl⟩
theorem So_nextPowerOfTwo (n : Nat) (hn : n < 4611686018427387904) (w : World) :
    Calls Tryd.prog 195 #[.int .i64 n] w fun e w' => e = .returned (.int .u64 ((1 <<< bitsLen n : Nat) : Int)) ∧ w' = w := by
  have hLen : ∀ w, Calls Tryd.prog 148 #[.int .u64 (n : Int)] w fun e w' => e = .returned (.int .i64 (bitsLen n : Nat)) ∧ w' = w := fun w => by
    have h := So_bits_Len (n : Int) w (by omega) (by omega)
    rwa [Int.toNat_natCast, bitLen_eq _ (by omega)] at h
  have hk : bitsLen n ≤ 62 := (bitsLen_le_iff n 62).2 (by omega)
  have hp := wrap_two_pow (bitsLen n) hk
  go_enter Tryd.func195, Tryd.ntmps195
  go_wp2_with (first | (go_at_call 148; refine (hLen _).mono ?_; rintro e w' ⟨rfl, rfl⟩))
  go_ret
  exact ⟨rfl, rfl⟩
set_option maxHeartbeats 1000000 in
set_option maxRecDepth 100000 in
theorem So_breakPatterns_int_go (blk off cap a L : Nat) (d : Array Int) (w : World) (hH : Holds (Value.int .u8) w blk off d) (hblk : blk < w.heap.size) (hb : a + L ≤ d.size) (hsz : d.size < 4611686018427387904) (h8 : 8 ≤ L) :
    Calls Tryd.prog 172 #[.slice (some ⟨blk, off, none⟩) d.size cap, .int .i64 a, .int .i64 ((a + L : Nat) : Int)] w fun e w' =>
      e = .returned (.tuple #[]) ∧ ∃ n os, w' = grow (putRow (Value.int .u8) (Sort.ahead w n) blk off (breakPatterns d a (a + L))) os := by
  rw [breakPatterns_eq d a L h8]
  obtain ⟨M, hM⟩ : ∃ M : Nat, M = 1 <<< bitsLen L := ⟨_, rfl⟩
  have hM1 : 1 ≤ M := by rw [hM, Nat.one_shiftLeft]; exact Nat.two_pow_pos _
  have hM2 : M ≤ 2 * L := by rw [hM, Nat.one_shiftLeft]; exact two_pow_bitsLen_le (by omega)
  have hNP : ∀ w, Calls Tryd.prog 195 #[.int .i64 (L : Int)] w fun e w' => e = .returned (.int .u64 (M : Int)) ∧ w' = w := by rw [hM]; exact fun w => So_nextPowerOfTwo L (by omega) w
  rw [← hM]
  clear hM
  have HH : Hid (Holds (Value.int .u8) w blk off d) := hH
  have HST : Hid (w.alloc (Obj.cells #[.int .u64 (L : Int)] 206) = grow (putRow (Value.int .u8) (Sort.ahead w 0) blk off d) #[Obj.cells #[.int .u64 ((UInt64.ofNat L).toNat : Int)] 206]) := by
    show _ = _
    rw [show Sort.ahead w 0 = w from rfl, putRow_self _ _ _ _ _ hH, alloc_eq_grow, show (UInt64.ofNat L).toNat = L from by simp; omega]
  clear hH
  go_enter Tryd.func172, Tryd.ntmps172
  go_wp2_with (first | (go_at_call 195; rw [show ((a : Int) + (L : Int) - (a : Int)) = (L : Int) by omega]; refine (hNP _).mono ?_; rintro e w' ⟨rfl, rfl⟩))
  go_loopw [9] (fun vi wr => ∃ (t n : Nat) (r : UInt64) (dk : Array Int), vi = .int .i64 ((a + L / 4 * 2 - 1 + t : Nat) : Int) ∧ t ≤ 3 ∧ dk.size = d.size ∧
      wr = grow (putRow (Value.int .u8) (Sort.ahead w n) blk off dk) #[Obj.cells #[.int .u64 (r.toNat : Int)] 206] ∧
      bpRest a L M (a + L / 4 * 2 - 1) (3 - t) t (r, dk) = bpRest a L M (a + L / 4 * 2 - 1) 3 0 (UInt64.ofNat L, d)) (fun vi _ => a + L / 4 * 2 + 3 - (intOf vi).toNat)
  case atStart => exact ⟨0, 0, UInt64.ofNat L, d, by congr 1; omega, by omega, rfl, HST.out, rfl⟩
  case round =>
    obtain ⟨t, n, r, dk, rfl, ht, hsk, hw, hR⟩ := hrel
    obtain ⟨R, hRr⟩ : ∃ R : Nat, R = r.toNat := ⟨_, rfl⟩
    have lR : R < 18446744073709551616 := by rw [hRr]; exact r.toNat_lt
    obtain ⟨R', hR'⟩ : ∃ R' : Nat, R' = xorNextN R := ⟨_, rfl⟩
    have lR' : R' < 18446744073709551616 := by rw [hR']; exact xorNextN_lt R lR
    obtain ⟨O, hO⟩ : ∃ O : Nat, O = R' &&& (M - 1) := ⟨_, rfl⟩
    have lO : O ≤ M - 1 := by rw [hO]; exact Nat.and_le_right
    have eAnd : bits .and .u64 (R' : Int) ((M : Int) - 1) = (O : Int) := by
      rw [show ((M : Int) - 1) = ((M - 1 : Nat) : Int) by omega, bits_and_u64_nat _ _ lR' (by omega), hO]
    obtain ⟨G, hG⟩ : ∃ G : Nat → Int, ∀ x, G x = dk[x]! := ⟨fun x => dk[x]!, fun _ => rfl⟩
    have hz : (putRow (Value.int .u8) (Sort.ahead w n) blk off dk).heap.size = w.heap.size := by simp
    have hcw : ∀ x, x < d.size → wr.cell? ⟨blk, off + x, none⟩ = some (.int .u8 (G x)) := fun x hx => by
      rw [hw, cell?_grow _ _ _ (by rw [hz]; exact hblk), hG]; exact cell?_putRow _ _ _ _ d dk (holds_ahead _ _ _ _ _ _ HH.out) hsk x (by omega)
    have hfw : ∀ x, x < d.size → wr.frozen? ⟨blk, off + x, none⟩ = false := fun x hx => by
      rw [hw, frozen?_grow _ _ _ (by rw [hz]; exact hblk), frozen?_putRow]; exact ((holds_ahead _ _ n _ _ _ HH.out) x hx).2
    have hcB : wr.cell? ⟨w.heap.size, 0, none⟩ = some (.int .u64 (R : Int)) := by rw [hw, hRr, ← hz]; exact grow_one_cell _ _ _
    have hfB : wr.frozen? ⟨w.heap.size, 0, none⟩ = false := by rw [hw, ← hz]; exact grow_one_frozen _ _ _
    have hNext : Calls Tryd.prog 196 #[.pointer (some ⟨w.heap.size, 0, none⟩)] wr fun e w' => e = .returned (.int .u64 (R' : Int)) ∧ w' = (wr.setCell ⟨w.heap.size, 0, none⟩ (.int .u64 (R' : Int))).drewN 3 := by
      rw [hR']; exact So_xorshift_Next _ _ R lR wr hcB hfB
    have HW : Hid (wr = grow (putRow (Value.int .u8) (Sort.ahead w n) blk off dk) #[Obj.cells #[.int .u64 (r.toNat : Int)] 206]) := hw
    have HG : Hid (∀ x, G x = dk[x]!) := hG
    have HR : Hid (bpRest a L M (a + L / 4 * 2 - 1) (3 - t) t (r, dk) = bpRest a L M (a + L / 4 * 2 - 1) 3 0 (UInt64.ofNat L, d)) := hR
    have HN : Hid (R' = (xorNext r).toNat ∧ O = (xorNext r).toNat &&& (M - 1)) := by
      have e : R' = (xorNext r).toNat := by rw [hR', hRr, xorNext_toNat]
      exact ⟨e, by rw [hO, e]⟩
    clear hw hG hR hRr hR' hO
    go_wp2_with (first | (go_at_call 196; refine hNext.mono ?_; rintro e w' ⟨rfl, rfl⟩))
    ·
      have hLO : L ≤ O := by omega
      by_cases hEq : a + L / 4 * 2 - 1 + t = a + (O - L)
      all_goals
        go_region
        all_goals go_wp2
        go_roundw
        case rel =>
          refine ⟨t + 1, n + 4, xorNext r, swp dk (a + L / 4 * 2 - 1 + t) (a + (O - L)), by first | rfl | (congr 1 <;> omega), by omega, by rw [size_swp]; exact hsk, ?_, ?_⟩
          · (try rw [hEq])
            rw [HW.out, HN.out.1]
            simp only [HG.out]
            exact step_world (Value.int .u8) w n 4 blk off dk _ _ hblk (by omega) (by omega) _ _ _
          · rw [← HR.out, bp_step a L M _ t r dk (O - L) (by omega) (by rw [← HN.out.2, if_pos (by omega)])]
        case measure => simp [intOf]; omega
    · have hLO : ¬ L ≤ O := by omega
      by_cases hEq : a + L / 4 * 2 - 1 + t = a + O
      all_goals
        go_region
        all_goals go_wp2
        go_roundw
        case rel =>
          refine ⟨t + 1, n + 4, xorNext r, swp dk (a + L / 4 * 2 - 1 + t) (a + O), by first | rfl | (congr 1 <;> omega), by omega, by rw [size_swp]; exact hsk, ?_, ?_⟩
          · (try rw [hEq])
            rw [HW.out, HN.out.1]
            simp only [HG.out]
            exact step_world (Value.int .u8) w n 4 blk off dk _ _ hblk (by omega) (by omega) _ _ _
          · rw [← HR.out, bp_step a L M _ t r dk O (by omega) (by rw [← HN.out.2, if_neg (by omega)])]
        case measure => simp [intOf]; omega
    ·
      obtain rfl : t = 3 := by omega
      go_end0
      exact ⟨rfl, n, _, by rw [← HR.out, HW.out]; rfl⟩
theorem So_breakPatterns_int (blk off cap a b : Nat) (d : Array Int) (w : World) (hH : Holds (Value.int .u8) w blk off d) (hblk : blk < w.heap.size) (hab : a ≤ b) (hb : b ≤ d.size) (hsz : d.size < 4611686018427387904) :
    Calls Tryd.prog 172 #[.slice (some ⟨blk, off, none⟩) d.size cap, .int .i64 a, .int .i64 b] w fun e w' =>
      e = .returned (.tuple #[]) ∧ ∃ n os, w' = grow (putRow (Value.int .u8) (Sort.ahead w n) blk off (breakPatterns d a b)) os := by
  obtain ⟨L, rfl⟩ : ∃ L, b = a + L := ⟨b - a, by omega⟩
  by_cases h8 : 8 ≤ L
  · exact So_breakPatterns_int_go blk off cap a L d w hH hblk hb hsz h8
  · have hv : breakPatterns d a (a + L) = d := by unfold breakPatterns; simp only [Nat.add_sub_cancel_left]; rw [if_neg h8]
    rw [hv]
    have HST : Hid (w = grow (putRow (Value.int .u8) (Sort.ahead w 0) blk off d) #[]) := by
      show _ = _
      rw [grow_empty, show Sort.ahead w 0 = w from rfl, putRow_self _ _ _ _ _ hH]
    clear hH
    go_enter Tryd.func172, Tryd.ntmps172
    go_wp2
    go_end0
    exact ⟨rfl, 0, #[], HST.out⟩
structure C13 : Prop where
  ins : ∀ (blk off cap a b : Nat) (d : Array Int) (w : World), Holds (Value.int .u8) w blk off d → a ≤ b → b ≤ d.size → d.size < 4611686018427387904 →
    Calls Tryd.prog 170 #[.slice (some ⟨blk, off, none⟩) d.size cap, .int .i64 a, .int .i64 b] w fun e w' => e = .returned (.tuple #[]) ∧ ∃ n, w' = putRow (Value.int .u8) (Sort.ahead w n) blk off (insertionSort ltInt d a b)
  brk : ∀ (blk off cap a b : Nat) (d : Array Int) (w : World), Holds (Value.int .u8) w blk off d → blk < w.heap.size → a ≤ b → b ≤ d.size → d.size < 4611686018427387904 →
    Calls Tryd.prog 172 #[.slice (some ⟨blk, off, none⟩) d.size cap, .int .i64 a, .int .i64 b] w fun e w' => e = .returned (.tuple #[]) ∧ ∃ n os, w' = grow (putRow (Value.int .u8) (Sort.ahead w n) blk off (breakPatterns d a b)) os
  piv : ∀ (blk off cap a b : Nat) (d : Array Int) (w : World), Holds (Value.int .u8) w blk off d → blk < w.heap.size → a < b → b ≤ d.size → d.size < 4611686018427387904 →
    Calls Tryd.prog 173 #[.slice (some ⟨blk, off, none⟩) d.size cap, .int .i64 a, .int .i64 b] w fun e w' => e = .returned (.tuple #[.int .i64 (choosePivot ltInt d a b).1, .int .i64 (hintCode (choosePivot ltInt d a b).2)]) ∧ ∃ n os, w' = grow (Sort.ahead w n) os
  par : ∀ (blk off cap a b : Nat) (d : Array Int) (w : World), Holds (Value.int .u8) w blk off d → a < b → b ≤ d.size → d.size < 4611686018427387904 →
    Calls Tryd.prog 175 #[.slice (some ⟨blk, off, none⟩) d.size cap, .int .i64 a, .int .i64 b] w fun e w' => e = .returned (.bool (partialInsertionSort ltInt d a b).2) ∧ ∃ n, w' = putRow (Value.int .u8) (Sort.ahead w n) blk off (partialInsertionSort ltInt d a b).1
  peq : ∀ (blk off cap a b pivot : Nat) (d : Array Int) (w : World), Holds (Value.int .u8) w blk off d → a ≤ pivot → pivot < b → b ≤ d.size → d.size < 4611686018427387904 →
    Calls Tryd.prog 177 #[.slice (some ⟨blk, off, none⟩) d.size cap, .int .i64 a, .int .i64 b, .int .i64 pivot] w fun e w' => e = .returned (.int .i64 (partitionEqual ltInt d a b pivot).1) ∧ ∃ n, w' = putRow (Value.int .u8) (Sort.ahead w n) blk off (partitionEqual ltInt d a b pivot).2
  prt : ∀ (blk off cap a b pivot : Nat) (d : Array Int) (w : World), Holds (Value.int .u8) w blk off d → a ≤ pivot → pivot < b → b ≤ d.size → d.size < 4611686018427387904 →
    Calls Tryd.prog 178 #[.slice (some ⟨blk, off, none⟩) d.size cap, .int .i64 a, .int .i64 b, .int .i64 pivot] w fun e w' => e = .returned (.tuple #[.int .i64 (partition ltInt d a b pivot).1, .bool (partition ltInt d a b pivot).2.1]) ∧ ∃ n, w' = putRow (Value.int .u8) (Sort.ahead w n) blk off (partition ltInt d a b pivot).2.2
set_option maxHeartbeats 6400000 in
set_option maxRecDepth 1000000 in
theorem So_pdqsort_int (C : C13) (S : Plain13) : ∀ (N blk off cap a b limit : Nat) (d : Array Int) (w : World), b - a < N → Holds (Value.int .u8) w blk off d → blk < w.heap.size → a ≤ b → b ≤ d.size → d.size < 4611686018427387904 → limit < 4611686018427387904 → Below ltInt a b d →
    Calls Tryd.prog 147 #[.slice (some ⟨blk, off, none⟩) d.size cap, .int .i64 a, .int .i64 b, .int .i64 limit] w fun e w' => e = .returned (.tuple #[]) ∧ At (Value.int .u8) w blk off (pdq ltInt d a b limit true true) w' := by
  intro N
  induction N with
  | zero => intro _ _ _ _ _ _ _ _ h; exact absurd h (Nat.not_lt_zero _)
  | succ N ih =>
    intro blk off cap a b limit d w hN hH hblk hab hb hsz hlimit hBel0
    go_enter Tryd.func147, Tryd.ntmps147
    go_wp2
    go_loopg [1, 2, 3, 8, 9] (b - a) (fun k s1 s2 s3 s8 s9 wr => ∃ (a' b' lim : Nat) (wb wp : Bool) (dk : Array Int), s1 = .int .i64 a' ∧ s2 = .int .i64 b' ∧ s3 = .int .i64 lim ∧ s8 = .bool wb ∧ s9 = .bool wp ∧
      a' ≤ b' ∧ b' ≤ d.size ∧ b' - a' ≤ k ∧ k ≤ b - a ∧ lim ≤ limit ∧ dk.size = d.size ∧ Below ltInt a' b' dk ∧ At (Value.int .u8) w blk off dk wr ∧ pdq ltInt dk a' b' lim wb wp = pdq ltInt d a b limit true true)
    case atStart => exact ⟨a, b, limit, true, true, d, rfl, rfl, rfl, rfl, rfl, hab, hb, Nat.le_refl _, Nat.le_refl _, Nat.le_refl _, rfl, hBel0, At.refl hH, rfl⟩
    case round =>
      obtain ⟨a', b', lim, wb, wp, dk, rfl, rfl, rfl, rfl, rfl, hab', hb', hk, hkN, hlim, hds, hBel, hAt, heq⟩ := hrel
      obtain ⟨hHk, hblk'⟩ := hAt.holds hH hds hblk
      have A : Aside (pdq ltInt dk a' b' lim wb wp = pdq ltInt d a b limit true true) := heq
      clear heq
      by_cases h12 : b' - a' ≤ 12
      ·
        have h12z : (b' : Int) - (a' : Int) ≤ 12 := by omega
        have hc := C.ins blk off cap a' b' dk wr hHk hab' (by omega) (by omega)
        rw [hds] at hc
        go_wp2_with (go_at_call 170; refine hc.mono ?_; rintro e w1 ⟨rfl, hw1⟩)
        (try simp only [Exit.inBlock, Exit.then]); refine bodyPost_ret (results_none rfl _ _ _) rfl ?_
        refine ⟨rfl, ?_⟩
        rw [← A.out, pdq_small h12]
        exact hAt.step hblk (S.ins S.swo dk a' b' hab' (by omega)).1.1 hw1
      · have h12z : ¬ ((b' : Int) - (a' : Int) ≤ 12) := by omega
        by_cases hl0 : lim = 0
        ·
          subst hl0
          have hc := So_heapSort_int blk off d.size cap dk hds a' b' wr hHk hab' (by omega) (by omega)
          go_wp2_with (go_at_call 171; refine hc.mono ?_; rintro e w1 ⟨rfl, hw1⟩)
          (try simp only [Exit.inBlock, Exit.then]); refine bodyPost_ret (results_none rfl _ _ _) rfl ?_
          refine ⟨rfl, ?_⟩
          rw [← A.out, pdq_heap h12 rfl]
          exact hAt.step hblk (heapSort_holds S.swo dk a' b' hab' (by omega)).1.1 hw1
        · have hl0z : ¬ ((lim : Int) = 0) := by omega
          obtain ⟨s1, B1, hc1, s2, B2, hpv, s3, B3⟩ := rd_facts (limit := lim) (wb := wb) (wp := wp) S.swo S.par reverseRange_holds (show a' < b' by omega) (show b' ≤ dk.size by omega) hBel
          go_upto_if 35 with fail
          go_cut [3] from 19 (fun s3 wc => s3 = .int .i64 (rd ltInt dk a' b' lim wb wp).lim ∧ At (Value.int .u8) w blk off (rd ltInt dk a' b' lim wb wp).d1 wc)
          case first =>
            cases wb
            · have hc := C.brk blk off cap a' b' dk wr hHk hblk' hab' (by omega) (by omega)
              rw [hds] at hc
              go_wp2_with (go_at_call 172; refine hc.mono ?_; rintro e w1 ⟨rfl, hw1⟩)
              go_meet
              case rel =>
                refine ⟨?_, hAt.stepG hblk s1 hw1⟩
                show Value.int .i64 ((lim : Int) - 1) = Value.int .i64 ((lim - 1 : Nat) : Int)
                congr 1
                omega
            · go_wp2_with fail
              go_meet
              case rel => exact ⟨rfl, hAt⟩
          case rest =>
            obtain ⟨rfl, hAt1⟩ := hcut
            obtain ⟨hH1, hblk1⟩ := hAt1.holds hH (s1.trans hds) hblk
            have hc17 : Calls Tryd.prog 173 #[.slice (some ⟨blk, off, none⟩) d.size cap, .int .i64 a', .int .i64 b'] wc fun e w' => e = .returned (.tuple #[.int .i64 (rd ltInt dk a' b' lim wb wp).c.1, .int .i64 (hintCode (rd ltInt dk a' b' lim wb wp).c.2)]) ∧ ∃ n os, w' = grow (Sort.ahead wc n) os := by
              have := C.piv blk off cap a' b' (rd ltInt dk a' b' lim wb wp).d1 wc hH1 hblk1 (by omega) (by omega) (by omega)
              rw [s1, hds] at this
              exact this
            go_upto_if 50 with (go_at_call 173; refine hc17.mono ?_; rintro e w2 ⟨rfl, hw2⟩)
            have hAt2 : At (Value.int .u8) w blk off (rd ltInt dk a' b' lim wb wp).d1 w2 := hAt1.same hH (s1.trans hds) hblk hw2
            obtain ⟨hH2, hblk2⟩ := hAt2.holds hH (s1.trans hds) hblk
            go_cut [11, 12] from 19 (fun s11 s12 wc => s11 = .int .i64 (rd ltInt dk a' b' lim wb wp).pivot ∧ s12 = .int .i64 (hintCode (rd ltInt dk a' b' lim wb wp).hint) ∧ At (Value.int .u8) w blk off (rd ltInt dk a' b' lim wb wp).d2 wc)
            case first =>
              by_cases hh : (rd ltInt dk a' b' lim wb wp).c.2 = .decreasing
              · have hcode : hintCode (rd ltInt dk a' b' lim wb wp).c.2 = 2 := by rw [hh]; rfl
                obtain ⟨e2, epv, eht⟩ := rd_dec hh
                have hc18 := So_reverseRange_int blk off cap (rd ltInt dk a' b' lim wb wp).d1 a' b' w2 hH2 hab' (by omega) (by omega)
                rw [s1, hds] at hc18
                go_wp2_with (go_at_call 174; refine hc18.mono ?_; rintro e w3 ⟨rfl, hw3⟩)
                go_meet
                case rel =>
                  refine ⟨?_, by rw [eht]; rfl, by rw [e2]; exact hAt2.step hblk (by rw [← e2, s2, s1]) hw3⟩
                  rw [epv]
                  congr 1
                  omega
              · have hcode : ¬ (hintCode (rd ltInt dk a' b' lim wb wp).c.2 = 2) := fun h => hh (hintCode_two h)
                obtain ⟨e2, epv, eht⟩ := rd_not hh
                go_wp2_with fail
                go_meet
                case rel => exact ⟨by rw [epv], by rw [eht], by rw [e2]; exact hAt2⟩
            case rest =>
              obtain ⟨rfl, rfl, hAt3⟩ := hcut
              obtain ⟨hH3, hblk3⟩ := hAt3.holds hH (s2.trans hds) hblk
              go_upto_region 15 with fail
              go_cut [12, 68] from 19 (fun s12 s68 wx => s12 = .int .i64 (hintCode (rd ltInt dk a' b' lim wb wp).hint) ∧ s68 = .bool (wb && wp && decide ((rd ltInt dk a' b' lim wb wp).hint = .increasing)) ∧ wx = wc)
              case first =>
                cases wb <;> cases wp <;> cases hh3 : (rd ltInt dk a' b' lim _ _).hint <;>
                  (have hcode3 := congrArg hintCode hh3
                   simp only [hintCode] at hcode3
                   go_wp2_with fail
                   go_meet
                   exact ⟨by simp [hh3, hintCode], by simp [hh3, hintCode], rfl⟩)
              case rest =>
                obtain ⟨rfl, rfl, rfl⟩ := hcut
                go_upto_if 68 with fail
                go_cut [] from 19 (fun wx => (rd ltInt dk a' b' lim wb wp).pi.2 = false ∧ At (Value.int .u8) w blk off (rd ltInt dk a' b' lim wb wp).pi.1 wx)
                case first =>
                  cases h68 : (wb && wp && decide ((rd ltInt dk a' b' lim wb wp).hint = .increasing))
                  · have epi := rd_pi_no h68
                    go_wp2_with fail
                    go_meet
                    case rel => exact ⟨by rw [epi], by rw [epi]; exact hAt3⟩
                  · have epi := rd_pi_yes h68
                    have hc19 := C.par blk off cap a' b' (rd ltInt dk a' b' lim wb wp).d2 wc hH3 (by omega) (by omega) (by omega)
                    rw [s2, hds, ← epi] at hc19
                    go_wp2_with (go_at_call 175; refine hc19.mono ?_; rintro e w4 ⟨rfl, hw4⟩)
                    all_goals first
                      | (have hp2 : (rd ltInt dk a' b' lim wb wp).pi.2 = false := by rw [epi]; assumption
                         go_meet
                         exact ⟨hp2, hAt3.step hblk (by rw [s3, s2]) hw4⟩)
                      | (have hp2 : (rd ltInt dk a' b' lim wb wp).pi.2 = true := by rw [epi]; assumption
                         (try simp only [Exit.inBlock, Exit.then]); refine bodyPost_ret (results_none rfl _ _ _) rfl ?_
                         refine ⟨rfl, ?_⟩
                         rw [← A.out, pdq_done h12 hl0 hp2]
                         exact hAt3.step hblk (by rw [s3, s2]) hw4)
                case rest =>
                  obtain ⟨hp2, hAt5⟩ := hcut
                  obtain ⟨hH5, hblk5⟩ := hAt5.holds hH (s3.trans hds) hblk
                  have hcw : ∀ t, t < d.size → wc.cell? ⟨blk, off + t, none⟩ = some (.int .u8 (rd ltInt dk a' b' lim wb wp).pi.1[t]!) := fun t ht => (hH5 t (by omega)).1
                  have hfw : ∀ t, t < d.size → wc.frozen? ⟨blk, off + t, none⟩ = false := fun t ht => (hH5 t (by omega)).2
                  go_upto_region 17 with fail
                  go_cut [87] from 19 (fun s87 wx => s87 = .bool (decide (a' > 0) && !ltInt (rd ltInt dk a' b' lim wb wp).pi.1[a' - 1]! (rd ltInt dk a' b' lim wb wp).pi.1[(rd ltInt dk a' b' lim wb wp).pivot]!) ∧ At (Value.int .u8) w blk off (rd ltInt dk a' b' lim wb wp).pi.1 wx)
                  case first =>
                    rcases Nat.eq_zero_or_pos a' with ha0 | ha0
                    · have ha0z : decide ((a' : Int) > 0) = false := decide_eq_false (by omega)
                      go_big_quiet (first | (go_at_call 176; refine Calls.quiet_of_same (So_cmp_Less_int _ _ _)))
                      go_wp2_with fail
                      go_meet
                      case rel => exact ⟨by simp [ha0], hAt5.ahead nq⟩
                    · have ha0z : (a' : Int) > 0 := by omega
                      go_big_quiet (first | (go_at_call 176; refine Calls.quiet_of_same (So_cmp_Less_int _ _ _)))
                      go_wp2_with fail
                      go_meet
                      case rel => exact ⟨by simp [ha0], hAt5.ahead nq⟩
                  case rest =>
                    obtain ⟨rfl, hAt6⟩ := hcut
                    obtain ⟨hH6, hblk6⟩ := hAt6.holds hH (s3.trans hds) hblk
                    clear hcw hfw
                    cases h87 : (decide (a' > 0) && !ltInt (rd ltInt dk a' b' lim wb wp).pi.1[a' - 1]! (rd ltInt dk a' b' lim wb wp).pi.1[(rd ltInt dk a' b' lim wb wp).pivot]!)
                    ·
                      obtain ⟨mid, ap, d4, hx⟩ : ∃ mid ap d4, partition ltInt (rd ltInt dk a' b' lim wb wp).pi.1 a' b' (rd ltInt dk a' b' lim wb wp).pivot = (mid, ap, d4) := ⟨(partition ltInt (rd ltInt dk a' b' lim wb wp).pi.1 a' b' (rd ltInt dk a' b' lim wb wp).pivot).1, (partition ltInt (rd ltInt dk a' b' lim wb wp).pi.1 a' b' (rd ltInt dk a' b' lim wb wp).pivot).2.1, (partition ltInt (rd ltInt dk a' b' lim wb wp).pi.1 a' b' (rd ltInt dk a' b' lim wb wp).pivot).2.2, rfl⟩
                      obtain ⟨r1, r2, r3, r4, r5, r6, r7⟩ := round_part S.swo S.prt hpv.1 hpv.2 (show b' ≤ (rd ltInt dk a' b' lim wb wp).pi.1.size by omega) B3 hx
                      have hc22 := C.prt blk off cap a' b' (rd ltInt dk a' b' lim wb wp).pivot (rd ltInt dk a' b' lim wb wp).pi.1 wc hH6 hpv.1 hpv.2 (by omega) (by omega)
                      rw [s3, hds, hx] at hc22
                      have X : Aside (partition ltInt (rd ltInt dk a' b' lim wb wp).pi.1 a' b' (rd ltInt dk a' b' lim wb wp).pivot = (mid, ap, d4)) := hx
                      clear hx
                      go_upto_if 113 with (go_at_call 178; refine hc22.mono ?_; rintro e w7 ⟨rfl, hw7⟩)
                      have hx := X.out
                      have hAt7 : At (Value.int .u8) w blk off d4 w7 := hAt6.step hblk r3 hw7
                      obtain ⟨hH7, hblk7⟩ := hAt7.holds hH (r3.trans (s3.trans hds)) hblk
                      by_cases h4 : mid - a' < b' - mid
                      · have h4z : (mid : Int) - (a' : Int) < (b' : Int) - (mid : Int) := by omega
                        have hih := ih blk off cap a' mid (rd ltInt dk a' b' lim wb wp).lim d4 w7 (by omega) hH7 hblk7 (by omega) (by omega) (by omega) (Nat.lt_of_le_of_lt (Nat.le_trans rd_lim_le hlim) hlimit) r4
                        rw [r3, s3, hds] at hih
                        obtain ⟨pL, sL⟩ := S.pdq S.swo d4 a' mid (rd ltInt dk a' b' lim wb wp).lim true true (by omega) (by omega) r4
                        go_wp2_with (go_at_call 147; refine hih.mono ?_; rintro e w8 ⟨rfl, hw8⟩)
                        go_roundg (b' - (mid + 1))
                        case measure => omega
                        case rel =>
                          refine ⟨mid + 1, b', (rd ltInt dk a' b' lim wb wp).lim, decide (mid - a' ≥ (b' - a') / 8), ap, pdq ltInt d4 a' mid (rd ltInt dk a' b' lim wb wp).lim true true, by simp, rfl, rfl, ?_, rfl, by omega, by omega, Nat.le_refl _, by omega, Nat.le_trans rd_lim_le hlim, by rw [pL.1, r3, s3, hds], (r6 _ pL sL).1, hAt7.stepG hblk pL.1 hw8, ?_⟩
                          · exact congrArg Value.bool (eighth (by omega) (by omega))
                          · rw [← A.out, pdq_left h12 hl0 hp2 h87 (by rw [hx]; exact ⟨r1, r2⟩) (by rw [hx]; exact h4), hx]
                      · have h4z : ¬ ((mid : Int) - (a' : Int) < (b' : Int) - (mid : Int)) := by omega
                        have hih := ih blk off cap (mid + 1) b' (rd ltInt dk a' b' lim wb wp).lim d4 w7 (by omega) hH7 hblk7 (by omega) (by omega) (by omega) (Nat.lt_of_le_of_lt (Nat.le_trans rd_lim_le hlim) hlimit) r5
                        rw [r3, s3, hds] at hih
                        obtain ⟨pL, sL⟩ := S.pdq S.swo d4 (mid + 1) b' (rd ltInt dk a' b' lim wb wp).lim true true (by omega) (by omega) r5
                        go_wp2_with (go_at_call 147; refine hih.mono ?_; rintro e w8 ⟨rfl, hw8⟩)
                        go_roundg (mid - a')
                        case measure => omega
                        case rel =>
                          refine ⟨a', mid, (rd ltInt dk a' b' lim wb wp).lim, decide (b' - mid ≥ (b' - a') / 8), ap, pdq ltInt d4 (mid + 1) b' (rd ltInt dk a' b' lim wb wp).lim true true, rfl, rfl, rfl, ?_, rfl, by omega, by omega, Nat.le_refl _, by omega, Nat.le_trans rd_lim_le hlim, by rw [pL.1, r3, s3, hds], (r7 _ pL sL).1, hAt7.stepG hblk pL.1 hw8, ?_⟩
                          · exact congrArg Value.bool (eighth (by omega) (by omega))
                          · rw [← A.out, pdq_right h12 hl0 hp2 h87 (by rw [hx]; exact ⟨r1, r2⟩) (by rw [hx]; exact h4), hx]
                    ·
                      have h87' := h87
                      simp only [Bool.and_eq_true, decide_eq_true_eq, Bool.not_eq_true'] at h87'
                      obtain ⟨mid, d4, hx⟩ : ∃ mid d4, partitionEqual ltInt (rd ltInt dk a' b' lim wb wp).pi.1 a' b' (rd ltInt dk a' b' lim wb wp).pivot = (mid, d4) := ⟨(partitionEqual ltInt (rd ltInt dk a' b' lim wb wp).pi.1 a' b' (rd ltInt dk a' b' lim wb wp).pivot).1, (partitionEqual ltInt (rd ltInt dk a' b' lim wb wp).pi.1 a' b' (rd ltInt dk a' b' lim wb wp).pivot).2, rfl⟩
                      obtain ⟨r1, r2, r3, r4, _⟩ := round_eq S.swo S.peq h87'.1 hpv.1 hpv.2 (show b' ≤ (rd ltInt dk a' b' lim wb wp).pi.1.size by omega) B3 h87'.2 hx
                      have hc21 := C.peq blk off cap a' b' (rd ltInt dk a' b' lim wb wp).pivot (rd ltInt dk a' b' lim wb wp).pi.1 wc hH6 hpv.1 hpv.2 (by omega) (by omega)
                      rw [s3, hds, hx] at hc21
                      have X : Aside (partitionEqual ltInt (rd ltInt dk a' b' lim wb wp).pi.1 a' b' (rd ltInt dk a' b' lim wb wp).pivot = (mid, d4)) := hx
                      clear hx
                      go_wp2_with (go_at_call 177; refine hc21.mono ?_; rintro e w7 ⟨rfl, hw7⟩)
                      go_roundg (b' - mid)
                      case measure => omega
                      case rel =>
                        have hx := X.out
                        exact ⟨mid, b', (rd ltInt dk a' b' lim wb wp).lim, wb, wp, d4, rfl, rfl, rfl, rfl, rfl, r2, hb', Nat.le_refl _, by omega, Nat.le_trans rd_lim_le hlim, by rw [r3, s3, hds], r4, hAt6.step hblk r3 hw7, by rw [← A.out, pdq_eq h12 hl0 hp2 h87 (by rw [hx]; exact ⟨r1, r2⟩), hx]⟩
def pdqWalk_u8 : Prop := ∀ (blk off cap a b limit : Nat) (d : Array Int) (w : World), Holds (Value.int .u8) w blk off d → blk < w.heap.size → a ≤ b → b ≤ d.size → d.size < 4611686018427387904 → limit < 4611686018427387904 → Below ltInt a b d →
  Calls Tryd.prog 147 #[.slice (some ⟨blk, off, none⟩) d.size cap, .int .i64 a, .int .i64 b, .int .i64 limit] w fun e w' =>
    e = .returned (.tuple #[]) ∧ ∃ n os, w' = grow (putRow (Value.int .u8) (Sort.ahead w n) blk off (Sort.pdq ltInt d a b limit true true)) os
set_option maxRecDepth 100000 in
theorem So_Sort_int (hpdq : pdqWalk_u8) (blk off cap : Nat) (d : Array Int) (w : World) (hH : Holds (Value.int .u8) w blk off d) (hblk : blk < w.heap.size) (hsz : d.size < 4611686018427387904) :
    Calls Tryd.prog 116 #[.slice (some ⟨blk, off, none⟩) d.size cap] w fun e w' => e = .returned (.tuple #[]) ∧ ∃ n os, w' = grow (putRow (Value.int .u8) (Sort.ahead w n) blk off (Sort.sort ltInt d)) os := by
  have HH : Hid (Holds (Value.int .u8) w blk off d) := hH
  clear hH
  have hLen : ∀ w, Calls Tryd.prog 148 #[.int .u64 (d.size : Int)] w fun e w' => e = .returned (.int .i64 (bitsLen d.size : Nat)) ∧ w' = w := fun w => by
    have h := So_bits_Len (d.size : Int) w (by omega) (by omega)
    rwa [Int.toNat_natCast, bitLen_eq _ (by omega)] at h
  have hk : bitsLen d.size ≤ 62 := (bitsLen_le_iff d.size 62).2 (by omega)
  go_enter Tryd.func116, Tryd.ntmps116
  go_wp2_with (first
    | (go_at_call 148; refine (hLen _).mono ?_; rintro e w' ⟨rfl, rfl⟩)
    | (go_at_call 147; refine (hpdq blk off cap 0 d.size (bitsLen d.size) d _ (by exact HH.out) (by exact hblk) (Nat.zero_le _) (Nat.le_refl _) hsz (by omega) (Or.inl rfl)).mono ?_; rintro e w' ⟨rfl, n, os, rfl⟩))
  go_end0
  exact ⟨rfl, n, os, rfl⟩
theorem callees13 : C13 where
 ins := So_insertionSort_int
 brk := So_breakPatterns_int
 piv := So_choosePivot_int
 par := So_partialInsertionSort_int
 peq := So_partitionEqualOrdered_int
 prt := So_partitionOrdered_int
theorem plain13 : Plain13 where
 swo := swo_ltInt
 ins := insertionSort_holds
 par := partialInsertionSort_holds
 prt := partition_holds _
 peq := partitionEqual_holds _
 pdq := pdq_sorts _
theorem pdqWalk8 : pdqWalk_u8 := fun blk off cap a b limit d w hH hb hab hbd hsz hl hB =>
 So_pdqsort_int callees13 plain13 (b - a + 1) blk off cap a b limit d w (by omega) hH hb hab hbd hsz hl hB
theorem sort_eq8 (zs : List Int) : Sort.sort ltInt zs.toArray = (zs.mergeSort fun x y => decide (x ≤ y)).toArray := by
 rw [← sortInt zs]
theorem sort_u8 (blk off cap : Nat) (zs : List Int) (w : World) (hH : Holds (Value.int .u8) w blk off zs.toArray) (hblk : blk < w.heap.size) (hsz : zs.length < 4611686018427387904) :
  Calls Tryd.prog 116 #[.slice (some ⟨blk, off, none⟩) zs.length cap] w fun e w' =>
   e = .returned (.tuple #[]) ∧ ∃ n os, w' = grow (putRow (Value.int .u8) (Sort.ahead w n) blk off (zs.mergeSort fun x y => decide (x ≤ y)).toArray) os := by
 have h := So_Sort_int pdqWalk8 blk off cap zs.toArray w hH hblk (by simpa using hsz)
 rw [sort_eq8] at h
 simpa using h
end Go.Proofs.YtiibnkibckklgaaDoor.P
namespace Go.Proofs
open Go.Shelf
def Tryd.laysCompact_ren : Go.Shelf.Ren := ⟨fun | 43 => 118 | n => n, fun | 22 => 22 | 23 => 5 | 3 => 3 | 4 => 4 | 0 => 0 | n => n, fun | n => n⟩
theorem Tryd.laysCompact : Go.Proofs.SlLaysE.n43 Tryd.prog Tryd.laysCompact_ren := {
 mixed := by kernel_rfl
 f43 := ⟨Tryd.f118.name, by decide, Tryd.func118.trans (congrArg some (by kernel_rfl))⟩
 t0 := Tryd.underlying0
 a0 := Tryd.isAgg0
 z0 := Tryd.sizeOf0
 v0 := Tryd.zeroValue0
 t3 := Tryd.underlying3
 a3 := Tryd.isAgg3
 z3 := Tryd.sizeOf3
 v3 := Tryd.zeroValue3
 t4 := Tryd.underlying4
 a4 := Tryd.isAgg4
 z4 := Tryd.sizeOf4
 v4 := Tryd.zeroValue4
 t22 := Tryd.underlying22
 a22 := Tryd.isAgg22
 z22 := Tryd.sizeOf22
 v22 := Tryd.zeroValue22
 a23 := Tryd.isAgg5
 z23 := Tryd.sizeOf5 }
def Tryd.laysDeleteFunc_ren : Go.Shelf.Ren := ⟨fun | 10 => 117 | 6 => 149 | n => n, fun | 22 => 22 | 23 => 5 | 25 => 119 | 3 => 3 | 4 => 4 | 0 => 0 | n => n, fun | n => n⟩
theorem Tryd.laysDeleteFunc : Go.Proofs.SlLaysH.n10 Tryd.prog Tryd.laysDeleteFunc_ren := {
 mixed := by kernel_rfl
 f6 := ⟨Tryd.f149.name, by decide, Tryd.func149.trans (congrArg some (by kernel_rfl))⟩
 f10 := ⟨Tryd.f117.name, by decide, Tryd.func117.trans (congrArg some (by kernel_rfl))⟩
 t0 := Tryd.underlying0
 a0 := Tryd.isAgg0
 z0 := Tryd.sizeOf0
 v0 := Tryd.zeroValue0
 t3 := Tryd.underlying3
 a3 := Tryd.isAgg3
 z3 := Tryd.sizeOf3
 v3 := Tryd.zeroValue3
 t4 := Tryd.underlying4
 a4 := Tryd.isAgg4
 z4 := Tryd.sizeOf4
 v4 := Tryd.zeroValue4
 t22 := Tryd.underlying22
 a22 := Tryd.isAgg22
 z22 := Tryd.sizeOf22
 v22 := Tryd.zeroValue22
 a23 := Tryd.isAgg5
 z23 := Tryd.sizeOf5
 t25 := Tryd.underlying119
 a25 := Tryd.isAgg119
 z25 := Tryd.sizeOf119
 v25 := Tryd.zeroValue119 }
end Go.Proofs
namespace Go.Proofs.YtiibnkibckklgaaDoor.P
set_option linter.unusedVariables false
set_option linter.unusedSimpArgs false
open Go.RowKit Go.Sort Go.Proofs Go.Shelf Go.Proofs.YtiibnkibckklgaaDoorW.PrintWords
def signS (x : Int) : ByteArray := Utf8.encode (wrap32 x)
theorem setOf_1.gives (g : Nat) (lb : Array Value) (eg : ∀ args w, (callFunc g args).run Tryd.prog w = .ok (.enter g args) w) (B : Nat) (q : Bool) (x : Int) (W : World) (hc : W.cell? ⟨B, 0, none⟩ = some (.func (.func g) #[] lb))
  (hg : FnGives Tryd.prog g lb #[.string (signS x)] (.bool q) W) :
  FnGives Tryd.prog 119 #[.pointer (some ⟨B, 0, none⟩)] #[.int .u8 x] (.bool (!q)) W := by
 show Calls Tryd.prog 119 #[.int .u8 x, .pointer (some ⟨B, 0, none⟩)] W _
 have hcall : Calls Tryd.prog g (#[.string (signS x)] ++ lb) W fun e w' => e = .returned (.bool q) ∧ ∃ q', w' = W.drewN q' := hg
 unfold signS at hcall
 clear hg
 go_enter Tryd.func119, Tryd.ntmps119
 go_wp2_with (go_at_fn g; refine hcall.mono ?_; rintro e w' ⟨rfl, q', rfl⟩)
 go_ret
 exact ⟨rfl, _, rfl⟩
/-! ### The row of bytes, step by step -/
theorem holds_prefix {w : World} {blk off : Nat} {l m : List Int} (h : Holds (Value.int .u8) w blk off (l ++ m).toArray) : Holds (Value.int .u8) w blk off l.toArray := fun j hj => by
 have hj' : j < l.length := by simpa using hj
 have := h j (by simp; omega)
 refine ⟨this.1.trans ?_, this.2⟩
 congr 2
 simp [List.getElem?_append_left hj', hj']
theorem sort_step (B0 blk cap : Nat) (zs : List Int) (W : World) (hH : Holds (Value.int .u8) W blk 0 zs.toArray) (hblk : blk < W.heap.size) (hB : B0 ≤ blk) (hsz : zs.length < 4611686018427387904) :
  Calls Tryd.prog 116 #[.slice (some ⟨blk, 0, none⟩) zs.length cap] W fun e w' => e = .returned (.tuple #[]) ∧ Holds (Value.int .u8) w' blk 0 (zs.mergeSort fun x y => decide (x ≤ y)).toArray ∧ Below B0 W w' ∧ blk < w'.heap.size := by
 refine (sort_u8 blk 0 cap zs W hH hblk hsz).mono ?_
 rintro e w' ⟨rfl, n, os, rfl⟩
 have hb := Lib.below_putRow (enc := Value.int .u8) (q := n) (d := (zs.mergeSort fun x y => decide (x ≤ y)).toArray) (Below.refl B0 W) hB
 refine ⟨rfl, holds_grow _ _ _ _ _ _ (by simpa using hblk) (holds_putRow _ _ _ _ zs.toArray _ (holds_ahead _ _ _ _ _ _ hH) (by simp)), ?_, ?_⟩
 ·have := Lib.below_grow B0 (putRow (Value.int .u8) (Sort.ahead W n) blk 0 (zs.mergeSort fun x y => decide (x ≤ y)).toArray) (by simp; exact Nat.le_trans hB (Nat.le_of_lt hblk)) 0 os
  exact hb.trans this
 simp [grow]; omega
theorem compact_step (B0 blk cap : Nat) (zs : List Int) (W : World) (hH : Holds (Value.int .u8) W blk 0 zs.toArray) (hblk : blk < W.heap.size) (hB : B0 ≤ blk) (hsz : zs.length < 4611686018427387904) (hcap : zs.length ≤ cap) :
  Calls Tryd.prog 118 #[.slice (some ⟨blk, 0, none⟩) zs.length cap] W fun e w' => e = .returned (.slice (some ⟨blk, 0, none⟩) (Lib.compact zs).length cap) ∧ Holds (Value.int .u8) w' blk 0 (Lib.compact zs).toArray ∧ Below B0 W w' ∧ blk < w'.heap.size := by
 have h := AnyE.slices_Compact Tryd.laysCompact (Value.int .u8) (fun _ => rfl) (EqlAt.intD _ _ _) (NeqAt.intD _ _ _) 0 Tryd.zeroValue5 blk 0 cap zs.toArray W hH (by simp; omega) (by simpa using hcap)
 change Calls Tryd.prog 118 _ _ _ at h
 have hsz' : zs.toArray.size = zs.length := by simp
 rw [hsz'] at h
 refine h.mono ?_
 rintro e w' ⟨rfl, q, rfl⟩
 refine ⟨rfl, holds_prefix (m := List.replicate (zs.length - (Lib.compact zs).length) 0) (holds_putRow _ _ _ _ zs.toArray _ (holds_ahead _ _ _ _ _ _ hH) ?_), Lib.below_putRow (enc := Value.int .u8) (Below.refl B0 W) hB, by simpa using hblk⟩
 have : (Lib.compactUpTo zs.toArray zs.length).length ≤ zs.length := by
  unfold Lib.compactUpTo
  rw [List.length_map]
  exact Nat.le_trans (List.length_filter_le _ _) (by simp)
 simp; omega
theorem delete_step (g : Nat) (lb : Array Value) (eg : ∀ args w, (callFunc g args).run Tryd.prog w = .ok (.enter g args) w) (p : Int → Bool) (B0 B blk cap : Nat) (zs : List Int) (w W : World) (hw : Below B0 w W) (hB0 : B < B0) (hwB : B0 ≤ W.heap.size)
  (hp : ∀ W x, Below B0 w W → FnGives Tryd.prog g lb #[.string (signS x)] (.bool (p x)) W) (hc : W.cell? ⟨B, 0, none⟩ = some (.func (.func g) #[] lb))
  (hH : Holds (Value.int .u8) W blk 0 zs.toArray) (hblk : blk < W.heap.size) (hB : B0 ≤ blk) (hsz : zs.length < 4611686018427387904) (hcap : zs.length ≤ cap) :
  Calls Tryd.prog 117 #[.slice (some ⟨blk, 0, none⟩) zs.length cap, .func (.func 119) #[] #[.pointer (some ⟨B, 0, none⟩)]] W fun e w' => e = .returned (.slice (some ⟨blk, 0, none⟩) (zs.filter p).length cap) ∧ Holds (Value.int .u8) w' blk 0 (zs.filter p).toArray ∧ Below B0 W w' ∧ blk < w'.heap.size := by
 have e119 : ∀ args w, (callFunc 119 args).run Tryd.prog w = .ok (.enter 119 args) w := enters_of Tryd.func119 (by kernel_rfl) rfl
 have gv : ∀ (V : World) (x : Int), Below B0 W V → FnGives Tryd.prog 119 #[.pointer (some ⟨B, 0, none⟩)] #[.int .u8 x] (.bool (!p x)) V := fun V x hV =>
  setOf_1.gives g lb eg B (p x) x V ((hV.cell (p := ⟨B, 0, none⟩) hB0).trans hc) (hp V x (hw.trans hV))
 have h := AnyE.slices_DeleteFunc Tryd.laysDeleteFunc (Value.int .u8) (fun _ => rfl) (fun x => !p x) 119 #[.pointer (some ⟨B, 0, none⟩)] e119 0 Tryd.zeroValue5 blk 0 cap zs.toArray W
  (fun V x hV => gv V x ⟨hV.os, hV.tape, hV.output, hV.size, fun k hk => hV.block k (Nat.lt_of_lt_of_le hk hwB)⟩) (fun n os dk x _ => gv _ x (by
   unfold sortWorld
   exact (Lib.below_putRow (enc := Value.int .u8) (q := n) (d := dk) (Below.refl B0 W) hB).trans (Lib.below_grow B0 (putRow (Value.int .u8) (Sort.ahead W n) blk 0 dk) (by simpa using hwB) 0 os)))
  hH (by simp; omega) (by simpa using hcap)
 change Calls Tryd.prog 117 _ _ _ at h
 have hsz' : zs.toArray.size = zs.length := by simp
 rw [hsz', show (fun x => !(fun x => !p x) x) = p from by funext x; simp] at h
 refine h.mono ?_
 rintro e w' ⟨rfl, q, rfl⟩
 refine ⟨rfl, holds_prefix (m := List.replicate (zs.length - (zs.filter p).length) 0) (holds_putRow _ _ _ _ zs.toArray _ (holds_ahead _ _ _ _ _ _ hH) ?_), Lib.below_putRow (enc := Value.int .u8) (Below.refl B0 W) hB, by simpa using hblk⟩
 have : (zs.filter p).length ≤ zs.length := List.length_filter_le _ _
 simp; omega
def bytesI (s : ByteArray) : List Int := s.data.toList.map fun b => (b.toNat : Int)
def setL (p : Int → Bool) (zs : List Int) : List Int := (Lib.compact (zs.mergeSort fun x y => decide (x ≤ y))).filter p
theorem bytesI_length (s : ByteArray) : (bytesI s).length = s.size := by
 unfold bytesI
 rw [List.length_map]
 rfl
theorem bytesRow_le (s : ByteArray) (cap : Nat) : s.size ≤ (bytesRow s cap).size := by
 unfold bytesRow
 rw [Array.size_append, Array.size_map]
 exact Nat.le_add_right _ _
theorem bytesRow_at (s : ByteArray) (cap j : Nat) (hj : j < s.size) : (bytesRow s cap)[j]? = some (.int .u8 (bytesI s).toArray[j]!) := by
 have hd : j < s.data.size := hj
 have hl : j < s.data.toList.length := hj
 unfold bytesRow bytesI
 rw [Array.getElem?_append_left (by rw [Array.size_map]; exact hd), Array.getElem?_map, Array.getElem?_eq_getElem hd]
 simp only [List.getElem!_toArray, List.getElem!_eq_getElem?_getD, List.getElem?_map, Array.getElem?_toList, Array.getElem?_eq_getElem hd, Option.map_some]
 rfl
theorem holds_bytes (s : ByteArray) (w : World) (cap : Nat) (e : TypeId) : Holds (Value.int .u8) (w.drew.alloc (.cells (bytesRow s cap) e ((bytesRow s cap).size, (bytesRow s cap).size + 1))) w.heap.size 0 (bytesI s).toArray := by
 intro j hj
 have hj' : j < s.size := by rw [← bytesI_length]; simpa using hj
 have hn := bytesRow_le s cap
 have hr := bytesRow_at s cap j hj'
 generalize bytesRow s cap = row at hn hr
 have hg : (w.drew.alloc (.cells row e (row.size, row.size + 1))).heap[w.heap.size]? = some (.cells row e (row.size, row.size + 1)) := by
  show (w.heap.push _)[w.heap.size]? = _
  exact Array.getElem?_push_size ..
 constructor
 ·unfold World.cell?
  simp only [hg]
  simpa using hr
 unfold World.frozen?
 simp only [hg]
 simp; omega
theorem string_step (blk cap : Nat) (l : List Int) (W : World) (hH : Holds (Value.int .u8) W blk 0 l.toArray) :
  (convert 22 9 (.slice (some ⟨blk, 0, none⟩) l.length cap)).run Tryd.prog W = .ok (.string (strOfNums l)) W := by
 refine run_convert_bytes_arg W 22 5 Tryd.underlying22 Tryd.underlying5 blk 0 l.length cap l rfl (fun i hi => ?_) _ Tryd.underlying9
 refine (hH i (by simpa using hi)).1.trans ?_
 simp [List.getD_eq_getElem?_getD, hi]
theorem below_less {a b : World} {m n : Nat} (h : Below n a b) (hm : m ≤ n) : Below m a b := ⟨h.os, h.tape, h.output, h.size, fun k hk => h.block k (Nat.lt_of_lt_of_le hk hm)⟩
set_option maxHeartbeats 4000000 in
set_option maxRecDepth 100000 in
theorem impl_setOf.calls (s : ByteArray) (p : Int → Bool) (g : Nat) (lb : Array Value) (eg : ∀ args w, (callFunc g args).run Tryd.prog w = .ok (.enter g args) w) (w : World) (hs : s.size ≤ 1000000000000)
  (hp : ∀ W x, Below w.heap.size w W → FnGives Tryd.prog g lb #[.string (signS x)] (.bool (p x)) W) :
  Calls Tryd.prog 71 #[.string s, .func (.func g) #[] lb] w fun e w' => e = .returned (.string (strOfNums (setL p (bytesI s)))) ∧ Below w.heap.size w w' := by
 have hcv := fun (W : World) => run_bytes_of_string (P := Tryd.prog) W 9 22 5 s Tryd.underlying9 Tryd.underlying22 Tryd.underlying5
 go_enter Tryd.func71, Tryd.ntmps71
 have hx := Lib.hid hp
 clear hp
 go_wp2_with fail
 have hcap : s.size ≤ grownCap (w.alloc (.cells #[.func (.func g) #[] lb] 44)) s.size 0 5 := grownCap_ge _ _ _ _
 generalize grownCap (w.alloc (.cells #[.func (.func g) #[] lb] 44)) s.size 0 5 = cap at hcap ⊢
 have hb0 : Below w.heap.size w (w.alloc (.cells #[.func (.func g) #[] lb] 44)) := (Below.refl _ _).alloc (Nat.le_refl _) _
 have hc0 : (w.alloc (.cells #[.func (.func g) #[] lb] 44)).cell? ⟨w.heap.size, 0, none⟩ = some (.func (.func g) #[] lb) := by simp
 have hz0 : (w.alloc (.cells #[.func (.func g) #[] lb] 44)).heap.size = w.heap.size + 1 := by simp
 generalize (w.alloc (.cells #[.func (.func g) #[] lb] 44)) = W0 at hb0 hc0 hz0 ⊢
 have hH1 : Holds (Value.int .u8) (W0.alloc (.cells (bytesRow s cap) 5 ((bytesRow s cap).size, (bytesRow s cap).size + 1))).drew W0.heap.size 0 (bytesI s).toArray := holds_bytes s W0 cap 5
 have hb1 : Below (w.heap.size + 1) W0 (W0.alloc (.cells (bytesRow s cap) 5 ((bytesRow s cap).size, (bytesRow s cap).size + 1))).drew := ((Below.refl _ _).alloc (Nat.le_of_eq hz0.symm) _).drew
 have hz1 : (W0.alloc (.cells (bytesRow s cap) 5 ((bytesRow s cap).size, (bytesRow s cap).size + 1))).drew.heap.size = w.heap.size + 2 := by simp [hz0]
 rw [hz0] at hH1
 generalize (W0.alloc (.cells (bytesRow s cap) 5 ((bytesRow s cap).size, (bytesRow s cap).size + 1))).drew = W1 at hH1 hb1 hz1 ⊢
 have hlen := bytesI_length s
 have hsort := sort_step (w.heap.size + 1) (w.heap.size + 1) cap (bytesI s) W1 hH1 (by omega) (Nat.le_refl _) (by omega)
 rw [hlen] at hsort
 refine hsort.mono ?_
 rintro e w2 ⟨rfl, h2, b2, l2⟩
 clear hsort hH1
 have hl2 : ((bytesI s).mergeSort fun x y => decide (x ≤ y)).length = s.size := by rw [List.length_mergeSort, hlen]
 have hset : setL p (bytesI s) = (Lib.compact ((bytesI s).mergeSort fun x y => decide (x ≤ y))).filter p := rfl
 generalize hfin : setL p (bytesI s) = fin at hset
 have HF := Lib.hid hfin
 clear hfin
 generalize ((bytesI s).mergeSort fun x y => decide (x ≤ y)) = srt at hl2 h2 hset
 have hcl : (Lib.compact srt).length ≤ s.size := by
  rw [← hl2]
  unfold Lib.compact Lib.compactUpTo
  rw [List.length_map]
  exact Nat.le_trans (List.length_filter_le _ _) (by simp)
 go_wp2_with fail
 have hcom := compact_step (w.heap.size + 1) (w.heap.size + 1) cap srt w2 h2 l2 (Nat.le_refl _) (by omega) (by omega)
 rw [hl2] at hcom
 refine hcom.mono ?_
 rintro e w3 ⟨rfl, h3, b3, l3⟩
 clear hcom h2
 go_wp2_with fail
 have hdel := delete_step g lb eg p (w.heap.size + 1) w.heap.size (w.heap.size + 1) cap (Lib.compact srt) W0 w3 (hb1.trans (b2.trans b3)) (Nat.lt_succ_self _) (by omega)
  (fun V x hV => hx.out V x (hb0.trans (below_less hV (Nat.le_succ _)))) (((hb1.trans (b2.trans b3)).cell (p := ⟨w.heap.size, 0, none⟩) (Nat.lt_succ_self _)).trans hc0) h3 l3 (Nat.le_refl _) (by omega) (by omega)
 rw [← hset] at hdel
 refine hdel.mono ?_
 rintro e w4 ⟨rfl, h4, b4, l4⟩
 clear hdel h3 hx hcv hset
 have hstr := fun c => string_step (w.heap.size + 1) c fin w4 h4
 go_wp2
 go_ret
 exact ⟨by rw [HF.out]; rfl, hb0.trans (below_less (hb1.trans (b2.trans (b3.trans b4))) (Nat.le_succ _))⟩
end Go.Proofs.YtiibnkibckklgaaDoor.P
namespace Go.Proofs.YtiibnkibckklgaaDoor.P
set_option linter.unusedVariables false
set_option linter.unusedSimpArgs false
open Go.RowKit Go.Proofs.YtiibnkibckklgaaDoorW.PrintWords
theorem asc_eq {l m : List Int} (hl : l.Pairwise (· < ·)) (hm : m.Pairwise (· < ·)) (h : ∀ x, x ∈ l ↔ x ∈ m) : l = m := by
 induction l generalizing m with
 | nil =>
  cases m with
  | nil => rfl
  | cons b m => exact absurd ((h b).2 List.mem_cons_self) (by simp)
 | cons a l ih =>
  cases m with
  | nil => exact absurd ((h a).1 List.mem_cons_self) (by simp)
  | cons b m =>
   rw [List.pairwise_cons] at hl hm
   have hab : a = b := by
    rcases List.mem_cons.1 ((h a).1 List.mem_cons_self) with e | e
    ·exact e
    rcases List.mem_cons.1 ((h b).2 List.mem_cons_self) with e2 | e2
    ·exact e2.symm
    have h1 := hm.1 a e
    have h2 := hl.1 b e2
    omega
   subst hab
   congr 1
   refine ih hl.2 hm.2 fun x => ?_
   constructor
   ·intro hx
    rcases List.mem_cons.1 ((h x).1 (List.mem_cons_of_mem _ hx)) with e | e
    ·have := hl.1 x hx; omega
    exact e
   intro hx
   rcases List.mem_cons.1 ((h x).2 (List.mem_cons_of_mem _ hx)) with e | e
   ·have := hm.1 x hx; omega
   exact e
theorem mem_compact (zs : List Int) (x : Int) : x ∈ Lib.compact zs ↔ x ∈ zs := by
 unfold Lib.compact Lib.compactUpTo
 constructor
 ·intro h
  obtain ⟨j, hj, rfl⟩ := List.mem_map.1 h
  have hj' := List.mem_range.1 (List.mem_filter.1 hj).1
  simp [hj']
 intro h
 obtain ⟨j, hj, rfl⟩ := List.mem_iff_getElem.1 h
 have key : ∀ (n j : Nat) (hj : j < zs.length), j ≤ n → zs[j] ∈ ((List.range zs.length).filter (Lib.keeps zs.toArray)).map (zs.toArray[·]!) := by
  intro n
  induction n with
  | zero =>
   intro j hj hn
   obtain rfl : j = 0 := by omega
   exact List.mem_map.2 ⟨0, List.mem_filter.2 ⟨List.mem_range.2 hj, by simp [Lib.keeps]⟩, by simp [hj]⟩
  | succ n ih =>
   intro j hj hn
   by_cases hk : Lib.keeps zs.toArray j = true
   ·exact List.mem_map.2 ⟨j, List.mem_filter.2 ⟨List.mem_range.2 hj, hk⟩, by simp [hj]⟩
   unfold Lib.keeps at hk
   rw [decide_eq_true_eq] at hk
   have h0 : j ≠ 0 := fun e => hk (Or.inl e)
   have he : zs.toArray[j]! = zs.toArray[j - 1]! := Classical.not_not.1 fun e => hk (Or.inr e)
   have hj1 : j - 1 < zs.length := by omega
   have e2 : zs[j] = zs[j - 1] := by simpa [hj, hj1] using he
   rw [e2]
   exact ih (j - 1) hj1 (by omega)
 exact key j j hj (Nat.le_refl _)
theorem compact_asc (zs : List Int) (h : zs.Pairwise (· ≤ ·)) : (Lib.compact zs).Pairwise (· < ·) := by
 unfold Lib.compact Lib.compactUpTo
 rw [List.pairwise_map]
 refine ((List.pairwise_lt_range (n := zs.length)).filter _).imp_of_mem ?_
 intro a b ha hb hab
 have ha' := List.mem_range.1 (List.mem_filter.1 ha).1
 have hb' := List.mem_range.1 (List.mem_filter.1 hb).1
 have hk := (List.mem_filter.1 hb).2
 unfold Lib.keeps at hk
 rw [decide_eq_true_eq] at hk
 have hne : zs.toArray[b]! ≠ zs.toArray[b - 1]! := by
  rcases hk with e | e
  ·omega
  exact e
 have hb1 : b - 1 < zs.length := by omega
 have g : ∀ i, i < zs.length → zs.toArray[i]! = zs.getD i 0 := fun i hi => by simp [hi]
 have le : ∀ i j, i ≤ j → j < zs.length → zs.getD i 0 ≤ zs.getD j 0 := by
  intro i j hij hj
  rcases Nat.lt_or_eq_of_le hij with e | e
  ·have := List.pairwise_iff_getElem.1 h i j (by omega) hj e
   simpa [List.getD_eq_getElem?_getD, hj, show i < zs.length by omega] using this
  rw [e]; exact Int.le_refl _
 rw [g a ha', g b hb']
 rw [g b hb', g (b - 1) hb1] at hne
 have h1 := le a (b - 1) (by omega) hb1
 have h2 := le (b - 1) b (by omega) hb'
 omega
theorem setL_asc (p : Int → Bool) (zs : List Int) : (setL p zs).Pairwise (· < ·) := by
 unfold setL
 refine (compact_asc _ ?_).filter _
 have := List.pairwise_mergeSort (le := fun x y : Int => decide (x ≤ y)) (fun a b c h1 h2 => by simp at *; omega) (fun a b => by simp; omega) zs
 exact this.imp fun h => by simpa using h
theorem mem_setL (p : Int → Bool) (zs : List Int) (x : Int) : x ∈ setL p zs ↔ x ∈ zs ∧ p x = true := by
 unfold setL
 rw [List.mem_filter, mem_compact, List.mem_mergeSort]
def ascB (q : UInt8 → Bool) : ByteArray := ⟨(((List.range 256).map UInt8.ofNat).filter q).toArray⟩
def setB (p : UInt8 → Bool) (s : ByteArray) : ByteArray := ascB fun c => p c && s.data.toList.contains c
theorem mem_bytesI (s : ByteArray) (c : UInt8) : (c.toNat : Int) ∈ bytesI s ↔ c ∈ s.data.toList := by
 unfold bytesI
 rw [List.mem_map]
 constructor
 ·rintro ⟨d, hd, e⟩
  have : d = c := UInt8.toNat_inj.1 (by omega)
  rwa [this] at hd
 intro h
 exact ⟨c, h, rfl⟩
theorem setB_is (p : UInt8 → Bool) (p' : Int → Bool) (hp : ∀ c : UInt8, p' (c.toNat : Int) = p c) (s : ByteArray) : strOfNums (setL p' (bytesI s)) = setB p s := by
 have hM : setL p' (bytesI s) = ((List.range 256).filter fun n => p (UInt8.ofNat n) && s.data.toList.contains (UInt8.ofNat n)).map (fun n : Nat => (n : Int)) := by
  refine asc_eq (setL_asc _ _) ?_ fun x => ?_
  ·rw [List.pairwise_map]
   exact ((List.pairwise_lt_range (n := 256)).filter _).imp fun h => by omega
  rw [mem_setL, List.mem_map]
  constructor
  ·rintro ⟨hx, hq⟩
   have hx' := hx
   unfold bytesI at hx'
   obtain ⟨c, hc, rfl⟩ := List.mem_map.1 hx'
   refine ⟨c.toNat, List.mem_filter.2 ⟨List.mem_range.2 c.toNat_lt, ?_⟩, rfl⟩
   rw [UInt8.ofNat_toNat, ← hp, hq, Bool.true_and, List.contains_iff_mem.2 hc]
  rintro ⟨n, hn, rfl⟩
  obtain ⟨hn1, hn2⟩ := List.mem_filter.1 hn
  have hn1 := List.mem_range.1 hn1
  have e : (UInt8.ofNat n).toNat = n := by rw [UInt8.toNat_ofNat']; exact Nat.mod_eq_of_lt hn1
  rw [Bool.and_eq_true, List.contains_iff_mem] at hn2
  have h1 := (mem_bytesI s _).2 hn2.2
  have h2 := hp (UInt8.ofNat n)
  rw [e] at h1 h2
  exact ⟨h1, h2.trans hn2.1⟩
 rw [hM]
 unfold strOfNums setB ascB
 congr 2
 rw [List.map_map, List.filter_map]
 refine List.map_congr_left fun n hn => ?_
 simp
end Go.Proofs.YtiibnkibckklgaaDoor.P
namespace Go.Proofs.YtiibnkibckklgaaDoor.P
open Go.RowKit Go.Proofs.YtiibnkibckklgaaDoorW.PrintWords Go.Proofs.YtiibnkibckklgaaDoorW.PrintLast Go.Proofs.YtiibnkibckklgaaDoorW.PrintMore
attribute [local go_sem] max2_int min2_int max_two min_two max_three min_three max_four min_four
set_option linter.unusedVariables false
set_option linter.unusedSimpArgs false
/-! ### impl_SignSmall: function 29 -/
def impl_SignSmall.f (a0 : ByteArray) : Option (Bool) := (impl_isIn.f a0 97 100).bind fun t101 => (some t101)
set_option maxHeartbeats 8000000 in
set_option maxRecDepth 100000 in
theorem impl_SignSmall.calls (a0 : ByteArray) (r : Bool) (w : World) (h : impl_SignSmall.f a0 = some r) :
  Calls Tryd.prog 29 #[.string a0] w fun e w' => e = .returned (.bool r) ∧ Drawn0 w w' := by
 have H : ((impl_isIn.f a0 97 100).bind fun t101 => (some t101)) = some r := h
 clear h
 replace H := Option.bind_eq_some_iff.mp H
 obtain ⟨t101, A20, H⟩ := H
 replace H : (some t101) = some r := H
 have A2 := Aside0.mk A20
 clear A20
 obtain rfl := Option.some.inj H
 go_enter Tryd.func29, Tryd.ntmps29
 go_wp2_with (first | ((with_reducible refine gate_callee (f := 77) rfl ?_); refine goesL_ (some 4) rfl rfl Tryd.func77 (by kernel_rfl) rfl #[.string a0, .int .u8 97, .int .u8 100] rfl (by (try simp only [List.map_toArray, List.map_cons, List.map_nil]); first | done | rfl | (simp only [List.length_drop, List.length_take]; rfl)) ?_; (with_reducible refine (impl_isIn.calls a0 97 100 t101 _ A2.out).mono ?_); rintro e w' ⟨rfl, ⟨nd, rfl⟩⟩; refine ⟨_, rfl, ?_⟩))
 go_ret
 exact ⟨by first | rfl | (simp; done) | (simp [*]; done), by repeat (first | exact Drawn0.refl _ | apply Drawn0.step)⟩
end Go.Proofs.YtiibnkibckklgaaDoor.P
namespace Go.Proofs.YtiibnkibckklgaaDoor.P
set_option linter.unusedVariables false
set_option linter.unusedSimpArgs false
open Go.RowKit Go.Proofs Go.Shelf Go.Proofs.YtiibnkibckklgaaDoorW.PrintWords
theorem signS_big : ∀ n, n < 256 → oneBig (signS (n : Nat)) = isBigB (UInt8.ofNat n) := by decide +kernel
theorem signS_small : ∀ n, n < 256 → oneSmall (signS (n : Nat)) = isSmallB (UInt8.ofNat n) := by decide +kernel
theorem signBig_gives (W : World) (x : Int) : FnGives Tryd.prog 28 #[] #[.string (signS x)] (.bool (oneBig (signS x))) W := by
 refine (impl_SignBig.calls (signS x) _ W (impl_SignBig.is _)).mono ?_
 rintro e w' ⟨rfl, h⟩
 exact ⟨rfl, h.out⟩
theorem impl_SignSmall.is (s : ByteArray) : impl_SignSmall.f s = some (oneSmall s) := by
 unfold impl_SignSmall.f impl_isIn.f oneSmall
 rcases one_cases s with ⟨h, c, e, hb⟩ | ⟨h, e⟩
 ·rw [if_pos (by omega), if_pos (by omega), hb, e]
  have := isSmallB_iff c
  by_cases h1 : (c.toNat : Int) ≥ 97
  ·rw [if_pos h1]; simp only [Option.bind_some]; congr 1; rw [Bool.eq_iff_iff, decide_eq_true_eq, this]; omega
  rw [if_neg h1]; simp only [Option.bind_some]; congr 1; symm; rw [Bool.eq_false_iff]; intro h; rw [this] at h; omega
 rw [if_neg (by omega)]
 split
 ·exact absurd ‹_› (e _)
 rfl
theorem signSmall_gives (W : World) (x : Int) : FnGives Tryd.prog 29 #[] #[.string (signS x)] (.bool (oneSmall (signS x))) W := by
 refine (impl_SignSmall.calls (signS x) _ W (impl_SignSmall.is _)).mono ?_
 rintro e w' ⟨rfl, h⟩
 exact ⟨rfl, h.out⟩
theorem union_1_gives (W : World) (x : Int) : FnGives Tryd.prog 182 #[] #[.string (signS x)] (.bool true) W := by
 show Calls Tryd.prog 182 #[.string (signS x)] W _
 go_enter Tryd.func182, Tryd.ntmps182
 go_wp2
 go_ret
 exact ⟨rfl, 0, rfl⟩
theorem setOf_big (s : ByteArray) (w : World) (hs : s.size ≤ 1000000000000) : Calls Tryd.prog 71 #[.string s, .func (.func 28) #[] #[]] w fun e w' => e = .returned (.string (setB isBigB s)) ∧ Below w.heap.size w w' := by
 have h := impl_setOf.calls s (fun x => oneBig (signS x)) 28 #[] (enters_of Tryd.func28 (by kernel_rfl) rfl) w hs (fun W x _ => signBig_gives W x)
 rwa [setB_is isBigB _ (fun c => by have := signS_big c.toNat c.toNat_lt; rwa [UInt8.ofNat_toNat] at this)] at h
theorem setOf_small (s : ByteArray) (w : World) (hs : s.size ≤ 1000000000000) : Calls Tryd.prog 71 #[.string s, .func (.func 29) #[] #[]] w fun e w' => e = .returned (.string (setB isSmallB s)) ∧ Below w.heap.size w w' := by
 have h := impl_setOf.calls s (fun x => oneSmall (signS x)) 29 #[] (enters_of Tryd.func29 (by kernel_rfl) rfl) w hs (fun W x _ => signSmall_gives W x)
 rwa [setB_is isSmallB _ (fun c => by have := signS_small c.toNat c.toNat_lt; rwa [UInt8.ofNat_toNat] at this)] at h
theorem setOf_all (s : ByteArray) (w : World) (hs : s.size ≤ 1000000000000) : Calls Tryd.prog 71 #[.string s, .func (.func 182) #[] #[]] w fun e w' => e = .returned (.string (setB (fun _ => true) s)) ∧ Below w.heap.size w w' := by
 have h := impl_setOf.calls s (fun _ => true) 182 #[] (enters_of Tryd.func182 (by kernel_rfl) rfl) w hs (fun W x _ => union_1_gives W x)
 rwa [setB_is (fun _ => true) _ (fun c => rfl)] at h
def impl_union.f (a0 : ByteArray) (a1 : ByteArray) : Option (ByteArray) := if a0.size + a1.size ≤ 1000000000000 then some (setB (fun _ => true) (a0 ++ a1)) else none
theorem impl_union.calls (a0 : ByteArray) (a1 : ByteArray) (r : ByteArray) (w : World) (h : impl_union.f a0 a1 = some r) :
  Calls Tryd.prog 152 #[.string a0, .string a1] w fun e w' => e = .returned (.string r) ∧ Below w.heap.size w w' := by
 unfold impl_union.f at h
 by_cases hs : a0.size + a1.size ≤ 1000000000000
 case neg => rw [if_neg hs] at h; cases h
 rw [if_pos hs] at h
 obtain rfl := Option.some.inj h
 have hc := fun W => setOf_all (a0 ++ a1) W (by rw [ByteArray.size_append]; exact hs)
 have hsz : a0.size + a1.size ≤ 9223372036854775807 := by omega
 clear h hs
 generalize setB (fun _ => true) (a0 ++ a1) = r at hc ⊢
 go_enter Tryd.func152, Tryd.ntmps152
 go_wp2_with (go_at_call 71; refine (hc _).mono ?_; rintro e w' ⟨rfl, hB⟩)
 go_ret
 exact ⟨rfl, hB⟩
end Go.Proofs.YtiibnkibckklgaaDoor.P
namespace Go.Proofs.YtiibnkibckklgaaDoor.P
set_option linter.unusedVariables false
set_option linter.unusedSimpArgs false
open Go.RowKit Go.Maps Go.Proofs.YtiibnkibckklgaaDoorW.PrintWords
def chartD (D : DataW Unit) : Chart := fun c i j => i ≤ 1000000 ∧ j ≤ 1000000 ∧ D.atKey (partLit ⟨#[c]⟩ i j) (.lit (.bool false)) = .lit (.bool true)
structure ChartAt (w : World) (cb mb n : Nat) (gv : Array Value) (t : ByteArray) (D : DataW Unit) : Prop where
 two : gv.size = 2
 blk : w.heap[cb]? = some (.cells (gv ++ #[.string t, .map (some mb)]) 172 (0, 0))
 own : w.ownsMap Tryd.prog 159 (plainElem Tryd.prog 4) mb n D
theorem below_grown {w w' : World} (h : Below w.heap.size w w') : w.grownBy w' none := ⟨h.os, h.tape, h.output, h.size, fun i hi _ => h.block i hi⟩
theorem ChartAt.below {w w' : World} {cb mb n : Nat} {gv : Array Value} {t : ByteArray} {D : DataW Unit} (h : ChartAt w cb mb n gv t D) (hb : Below w.heap.size w w') : ChartAt w' cb mb n gv t D := by
 refine ⟨h.two, ?_, h.own.kept (below_grown hb) (by simp)⟩
 rw [hb.block cb (Array.getElem?_eq_some_iff.1 h.blk).1]
 exact h.blk
theorem ChartAt.text {w : World} {cb mb n : Nat} {gv : Array Value} {t : ByteArray} {D : DataW Unit} (h : ChartAt w cb mb n gv t D) : w.cell? ⟨cb, 2, none⟩ = some (.string t) := by
 refine (blk_cell h.blk 2).trans ?_
 rw [Array.getElem?_append_right (by rw [h.two]; exact Nat.le_refl _), h.two]; rfl
theorem ChartAt.has {w : World} {cb mb n : Nat} {gv : Array Value} {t : ByteArray} {D : DataW Unit} (h : ChartAt w cb mb n gv t D) : w.cell? ⟨cb, 3, none⟩ = some (.map (some mb)) := by
 refine (blk_cell h.blk 3).trans ?_
 rw [Array.getElem?_append_right (by rw [h.two]; exact Nat.le_succ _), h.two]; rfl
theorem plainElem_bool_inv {P : Program} {e : TypeId} (he : P.underlying e = some .bool) {v : Value} {z : DataW Unit × List MemPlace} (h : plainElem P e v = some z) : ∃ b, v = .bool b ∧ z.1 = .lit (.bool b) := by
 unfold plainElem at h
 rw [he] at h
 cases v <;> simp at h
 exact ⟨_, rfl, by rw [← h]⟩
theorem boolZero (w : World) : (zeroValue 4).run Tryd.prog w = .ok (.bool false) w := by kernel_rfl
theorem has_run {w : World} {mb n : Nat} {D : DataW Unit} (h : w.ownsMap Tryd.prog 159 (plainElem Tryd.prog 4) mb n D) (s : ByteArray) (i j : Int) (hs : s.size ≤ maxLen) (hi : (Lit.int .i64 i).wf = true) (hj : (Lit.int .i64 j).wf = true) :
  ∃ b, (Instr.lookup 170 (.map (some mb)) (partV s i j) false).run Tryd.prog w = .ok (.bool b) w ∧ D.atKey (partLit s i j) (.lit (.bool false)) = .lit (.bool b) := by
 obtain ⟨v, ps, hrun, hv⟩ := h.lookup partKeyed Tryd.underlying170 (boolZero w) (plainElem_bool Tryd.underlying4 false) (partKey s i j hs hi hj)
 obtain ⟨b, rfl, hb⟩ := plainElem_bool_inv Tryd.underlying4 hv
 exact ⟨b, hrun, hb⟩
open Classical in
noncomputable def hasB (D : DataW Unit) (c : UInt8) (i j : Nat) : Bool := decide (chartD D c i j)
open Classical in
noncomputable def derB (D : DataW Unit) (t : ByteArray) (c : UInt8) (i j : Nat) : Bool := decide (DerP (chartD D) t.data.toList c i j)
open Classical in
theorem derB_iff {D : DataW Unit} {t : ByteArray} {c : UInt8} {i j : Nat} : derB D t c i j = true ↔ DerP (chartD D) t.data.toList c i j := by unfold derB; exact decide_eq_true_iff
open Classical in
theorem hasB_iff {D : DataW Unit} {c : UInt8} {i j : Nat} : hasB D c i j = true ↔ chartD D c i j := by unfold hasB; exact decide_eq_true_iff
theorem has_look {w : World} {mb n : Nat} {D : DataW Unit} (h : w.ownsMap Tryd.prog 159 (plainElem Tryd.prog 4) mb n D) (c : UInt8) (i j : Nat) (hi : i ≤ 1000000) (hj : j ≤ 1000000) :
  (Instr.lookup 170 (.map (some mb)) (.agg #[.string ⟨#[c]⟩, .int .i64 i, .int .i64 j]) false).run Tryd.prog w = .ok (.bool (hasB D c i j)) w := by
 obtain ⟨b, hrun, hb⟩ := has_run h ⟨#[c]⟩ i j (by show 1 ≤ maxLen; unfold maxLen; omega) (i64wf (by omega) (by omega)) (i64wf (by omega) (by omega))
 have : hasB D c i j = b := by
  rw [Bool.eq_iff_iff, hasB_iff]
  unfold chartD
  rw [hb]
  cases b <;> simp [hi, hj]
 rw [this]
 exact hrun
set_option maxHeartbeats 1000000 in
set_option maxRecDepth 100000 in
theorem derives_calls (cb mb n : Nat) (gv : Array Value) (t : ByteArray) (D : DataW Unit) (c : UInt8) (i j : Nat) (w : World) (hA : ChartAt w cb mb n gv t D) (hij : i ≤ j) (hj : j ≤ t.size) (ht : t.size ≤ 1000000) :
  Calls Tryd.prog 134 #[.pointer (some ⟨cb, 0, none⟩), .string ⟨#[c]⟩, .int .i64 i, .int .i64 j] w fun e w' => e = .returned (.bool (derB D t c i j)) ∧ Below w.heap.size w w' := by
 have htext := hA.text
 have hhas := hA.has
 have hrun := fun nd => has_look (hA.below (pw_below_drewN (Below.refl _ _) nd)).own c i j (by omega) (by omega)
 clear hA
 by_cases hc : isSmallB c = true
 case neg =>
  have hS := Lib.hid (fun W => impl_SignSmall.calls ⟨#[c]⟩ false W (by rw [impl_SignSmall.is]; exact congrArg some (Bool.eq_false_iff.2 hc)))
  have hres : derB D t c i j = hasB D c i j := by
   rw [Bool.eq_iff_iff, derB_iff, hasB_iff]
   unfold DerP
   rw [if_neg hc]
  rw [hres]
  clear hres htext hc
  go_enter Tryd.func134, Tryd.ntmps134
  go_wp2_with (first
   | (go_at_call 29; refine (hS.out _).mono ?_; rintro e w' ⟨rfl, nd, rfl⟩))
  go_ret
  exact ⟨rfl, pw_below_drewN (Below.refl _ _) _⟩
 case pos =>
  have hS := Lib.hid (fun W => impl_SignSmall.calls ⟨#[c]⟩ true W (by rw [impl_SignSmall.is]; exact congrArg some hc))
  clear hrun hhas
  by_cases hji : j = i + 1
  case neg =>
   have hres : derB D t c i j = false := by
    rw [Bool.eq_false_iff]
    intro h
    exact hji (by have := derB_iff.1 h; unfold DerP at this; rw [if_pos hc] at this; exact this.1)
   rw [hres]
   have he : ¬ (j : Int) = (i : Int) + 1 := by omega
   clear hres hc hji
   go_enter Tryd.func134, Tryd.ntmps134
   go_wp2_with (first
    | (go_at_call 29; refine (hS.out _).mono ?_; rintro e w' ⟨rfl, nd, rfl⟩))
   go_ret
   exact ⟨rfl, pw_below_drewN (Below.refl _ _) _⟩
  case pos =>
   subst hji
   have hlt : i < t.data.toList.length := by rw [← size_toList]; omega
   have hex : t.extract i (i + 1) = ⟨#[t.data.toList[i]]⟩ := bytes_ext (by rw [show (t.extract i (i + 1)).data.toList = part t.data.toList i (i + 1) from by unfold part; simp only [ByteArray.data_extract, Array.toList_extract, List.extract_eq_take_drop], part_one _ hlt])
   have hres : derB D t c i (i + 1) = (t.data.toList[i] == c) := by
    rw [Bool.eq_iff_iff, derB_iff, beq_iff_eq]
    unfold DerP
    rw [if_pos hc, List.getElem?_eq_getElem hlt]
    generalize t.data.toList[i] = x
    constructor
    ·rintro ⟨_, h⟩; exact Option.some.inj h
    intro h
    exact ⟨rfl, by rw [h]⟩
   rw [hres]
   clear hres hc
   have hsl := fun W => run_slice_string (P := Tryd.prog) (w := W) 9 t .i64 .i64 (i : Int) ((i : Int) + 1) Tryd.underlying9 (by omega) (by omega) (by omega)
   rw [show ((i : Int)).toNat = i by omega, show ((i : Int) + 1).toNat = i + 1 by omega, hex] at hsl
   generalize t.data.toList[i] = x at hsl ⊢
   go_enter Tryd.func134, Tryd.ntmps134
   go_wp2_with (first
    | (go_at_call 29; refine (hS.out _).mono ?_; rintro e w' ⟨rfl, nd, rfl⟩))
   go_ret
   exact ⟨rfl, pw_below_drewN (Below.refl _ _) _⟩
end Go.Proofs.YtiibnkibckklgaaDoor.P
namespace Go.Proofs.YtiibnkibckklgaaDoor.P
set_option linter.unusedVariables false
set_option linter.unusedSimpArgs false
open Go.RowKit Go.Proofs.YtiibnkibckklgaaDoorW.PrintWords
def iterL {α : Type} (nx : α → α) (a : α) : Nat → List α
 | 0 => []
 | n + 1 => a :: iterL nx (nx a) n
def iter {α : Type} (nx : α → α) (a : α) : Nat → α
 | 0 => a
 | n + 1 => iter nx (nx a) n
theorem iter_add {α : Type} (nx : α → α) (n m : Nat) : ∀ a : α, iter nx a (n + m) = iter nx (iter nx a n) m := by
 induction n with
 | zero => intro a; rw [Nat.zero_add]; rfl
 | succ n ih => intro a; rw [show n + 1 + m = (n + m) + 1 by omega]; exact ih (nx a)
theorem iterL_add {α : Type} (nx : α → α) (n m : Nat) : ∀ a : α, iterL nx a (n + m) = iterL nx a n ++ iterL nx (iter nx a n) m := by
 induction n with
 | zero => intro a; rw [Nat.zero_add]; rfl
 | succ n ih => intro a; rw [show n + 1 + m = (n + m) + 1 by omega]; show a :: iterL nx (nx a) (n + m) = _; rw [ih (nx a)]; rfl
theorem iterL_length {α : Type} (nx : α → α) (n : Nat) : ∀ a : α, (iterL nx a n).length = n := by
 induction n with
 | zero => intro a; rfl
 | succ n ih => intro a; show (a :: iterL nx (nx a) n).length = _; rw [List.length_cons, ih]
def succS (S : List UInt8) (c : UInt8) : Option UInt8 :=
 match S with
 | [] => none
 | [_] => none
 | x :: y :: r => if x = c then some y else succS (y :: r) c
def nxt (S : List UInt8) : List UInt8 → Nat → List UInt8
 | [], n => List.replicate (n + 1) (S.headD 0)
 | c :: r, n => match succS S c with
  | some d => r.reverse ++ ([d] ++ List.replicate n (S.headD 0))
  | none => nxt S r (n + 1)
def nextW (S : List UInt8) (w : List UInt8) : List UInt8 := nxt S w.reverse 0
theorem nxt_succ (S : List UInt8) : ∀ (r : List UInt8) (n : Nat), nxt S r (n + 1) = nxt S r n ++ [S.headD 0]
 | [], n => by unfold nxt; rw [List.replicate_succ' (n := n + 1)]
 | c :: r, n => by
  unfold nxt
  cases succS S c with
  | some d => simp only [List.replicate_succ', List.append_assoc]
  | none => exact nxt_succ S r (n + 1)
theorem nextW_some {S : List UInt8} {c d : UInt8} (h : succS S c = some d) (w : List UInt8) : nextW S (w ++ [c]) = w ++ [d] := by
 unfold nextW
 rw [List.reverse_append]
 show nxt S (c :: w.reverse) 0 = _
 unfold nxt
 rw [h]
 simp
theorem nextW_none {S : List UInt8} {c : UInt8} (h : succS S c = none) (w : List UInt8) : nextW S (w ++ [c]) = nextW S w ++ [S.headD 0] := by
 unfold nextW
 rw [List.reverse_append]
 show nxt S (c :: w.reverse) 0 = _
 rw [nxt, h]
 exact nxt_succ S _ 0
def words (S : List UInt8) : Nat → List (List UInt8)
 | 0 => [[]]
 | k + 1 => (words S k).flatMap fun w => S.map fun c => w ++ [c]
def upTo (S : List UInt8) : Nat → List (List UInt8)
 | 0 => [[]]
 | k + 1 => upTo S k ++ words S (k + 1)
theorem words_length (S : List UInt8) (k : Nat) : ∀ w ∈ words S k, w.length = k := by
 induction k with
 | zero => intro w hw; rw [words, List.mem_singleton] at hw; rw [hw]; rfl
 | succ k ih =>
  intro w hw
  rw [words, List.mem_flatMap] at hw
  obtain ⟨u, hu, hw⟩ := hw
  obtain ⟨c, _, rfl⟩ := List.mem_map.1 hw
  rw [List.length_append, ih u hu]; rfl
theorem words_count (S : List UInt8) (k : Nat) : (words S k).length = S.length ^ k := by
 induction k with
 | zero => rfl
 | succ k ih =>
  rw [words, List.length_flatMap]
  have : ((words S k).map fun w => (S.map fun c => w ++ [c]).length) = (words S k).map fun _ => S.length := by
   apply List.map_congr_left; intro w _; simp
  rw [this, List.map_const', List.sum_replicate_nat, ih, Nat.pow_succ]
theorem words_among (S : List UInt8) (k : Nat) : ∀ w ∈ words S k, ∀ c ∈ w, c ∈ S := by
 induction k with
 | zero => intro w hw; rw [words, List.mem_singleton] at hw; rw [hw]; simp
 | succ k ih =>
  intro w hw
  rw [words, List.mem_flatMap] at hw
  obtain ⟨u, hu, hw⟩ := hw
  obtain ⟨c, hc, rfl⟩ := List.mem_map.1 hw
  intro d hd
  rcases List.mem_append.1 hd with hd | hd
  ·exact ih u hu d hd
  rw [List.mem_singleton.1 hd]; exact hc
theorem mem_words (S : List UInt8) : ∀ (k : Nat) (w : List UInt8), w.length = k → (∀ c ∈ w, c ∈ S) → w ∈ words S k := by
 intro k
 induction k with
 | zero => intro w hl _; rw [List.length_eq_zero_iff.1 hl]; exact List.mem_singleton_self _
 | succ k ih =>
  intro w hl hc
  obtain ⟨u, c, rfl⟩ : ∃ u c, w = u ++ [c] := by
   have hne : w ≠ [] := by intro e; rw [e] at hl; cases hl
   exact ⟨w.dropLast, w.getLast hne, (List.dropLast_concat_getLast hne).symm⟩
  rw [List.length_append] at hl
  rw [words, List.mem_flatMap]
  exact ⟨u, ih u (by simpa using hl) (fun d hd => hc d (List.mem_append_left _ hd)), List.mem_map.2 ⟨c, hc c (by simp), rfl⟩⟩
theorem mem_upTo (S : List UInt8) (k : Nat) (w : List UInt8) : w ∈ upTo S k ↔ w.length ≤ k ∧ ∀ c ∈ w, c ∈ S := by
 induction k with
 | zero =>
  rw [upTo, List.mem_singleton]
  constructor
  ·rintro rfl; simp
  rintro ⟨h, _⟩; exact List.length_eq_zero_iff.1 (by omega)
 | succ k ih =>
  rw [upTo, List.mem_append, ih]
  constructor
  ·rintro (h | h)
   ·exact ⟨by omega, h.2⟩
   exact ⟨by have := words_length S _ w h; omega, words_among S _ w h⟩
  rintro ⟨h1, h2⟩
  by_cases h : w.length ≤ k
  ·exact Or.inl ⟨h, h2⟩
  exact Or.inr (mem_words S _ w (by omega) h2)
/-! ### the order is that of the word behind a word -/
theorem succS_block {S : List UInt8} (hn : S.Nodup) : ∀ (p : List UInt8) (c : UInt8) (q : List UInt8), S = p ++ c :: q → succS S c = q.head? := by
 have key : ∀ (S p : List UInt8) (c : UInt8) (q : List UInt8), S.Nodup → S = p ++ c :: q → succS S c = q.head? := by
  intro S p
  induction p generalizing S with
  | nil =>
   intro c q hn e
   subst e
   cases q with
   | nil => rfl
   | cons d q => show (if c = c then some d else _) = _; rw [if_pos rfl]; rfl
  | cons a p ih =>
   intro c q hn e
   subst e
   have hac : a ≠ c := by
    intro h; subst h
    rw [List.cons_append, List.nodup_cons] at hn
    exact hn.1 (by simp)
   have hn' : (p ++ c :: q).Nodup := by rw [List.cons_append, List.nodup_cons] at hn; exact hn.2
   have := ih (p ++ c :: q) c q hn' rfl
   cases hp : p ++ c :: q with
   | nil => simp at hp
   | cons y r =>
    rw [List.cons_append, hp]
    rw [hp] at this
    show (if a = c then some y else succS (y :: r) c) = _
    rw [if_neg hac, this]
 exact fun p c q e => key S p c q hn e
theorem block_iter {S : List UInt8} (hn : S.Nodup) (w : List UInt8) : ∀ (q p : List UInt8) (c : UInt8), S = p ++ c :: q → ((c :: q).map fun c => w ++ [c]) = iterL (nextW S) (w ++ [c]) (q.length + 1) ∧ iter (nextW S) (w ++ [c]) (q.length + 1) = nextW S w ++ [S.headD 0] := by
 intro q
 induction q with
 | nil =>
  intro p c e
  have h := succS_block hn p c [] e
  refine ⟨rfl, ?_⟩
  show nextW S (w ++ [c]) = _
  exact nextW_none h w
 | cons d q ih =>
  intro p c e
  have h := succS_block hn p c (d :: q) e
  have h1 := ih (p ++ [c]) d (by rw [e]; simp)
  have h2 := nextW_some (S := S) (c := c) (d := d) h w
  constructor
  ·show (w ++ [c]) :: ((d :: q).map fun c => w ++ [c]) = (w ++ [c]) :: iterL (nextW S) (nextW S (w ++ [c])) (q.length + 1)
   rw [h1.1, h2]
  show iter (nextW S) (nextW S (w ++ [c])) (q.length + 1) = _
  rw [h2]; exact h1.2
theorem level_iter {S : List UInt8} (hn : S.Nodup) (hS : S ≠ []) : ∀ (n : Nat) (a : List UInt8), ((iterL (nextW S) a n).flatMap fun w => S.map fun c => w ++ [c]) = iterL (nextW S) (a ++ [S.headD 0]) (n * S.length) ∧ iter (nextW S) (a ++ [S.headD 0]) (n * S.length) = iter (nextW S) a n ++ [S.headD 0] := by
 intro n
 obtain ⟨c, q, rfl⟩ : ∃ c q, S = c :: q := by cases S with | nil => exact absurd rfl hS | cons c q => exact ⟨c, q, rfl⟩
 induction n with
 | zero => intro a; rw [Nat.zero_mul]; exact ⟨rfl, rfl⟩
 | succ n ih =>
  intro a
  have hb := block_iter hn a q [] c rfl
  have h1 := ih (nextW (c :: q) a)
  have e : (n + 1) * (c :: q).length = (q.length + 1) + n * (c :: q).length := by rw [Nat.succ_mul, List.length_cons]; omega
  have hb2 : iter (nextW (c :: q)) (a ++ [(c :: q).headD 0]) (q.length + 1) = nextW (c :: q) a ++ [(c :: q).headD 0] := hb.2
  have e2 : iterL (nextW (c :: q)) a (n + 1) = a :: iterL (nextW (c :: q)) (nextW (c :: q) a) n := rfl
  constructor
  ·rw [e, e2, List.flatMap_cons, h1.1, iterL_add (nextW (c :: q)) (q.length + 1), hb2]
   congr 1
   exact hb.1
  rw [e, iter_add, hb2]; exact h1.2
theorem words_iter {S : List UInt8} (hn : S.Nodup) (hS : S ≠ []) (k : Nat) : words S k = iterL (nextW S) (List.replicate k (S.headD 0)) (S.length ^ k) ∧ iter (nextW S) (List.replicate k (S.headD 0)) (S.length ^ k) = List.replicate (k + 1) (S.headD 0) := by
 induction k with
 | zero => exact ⟨rfl, rfl⟩
 | succ k ih =>
  have h := level_iter hn hS (S.length ^ k) (List.replicate k (S.headD 0))
  rw [← ih.1, ← List.replicate_succ'] at h
  refine ⟨h.1, ?_⟩
  rw [Nat.pow_succ, h.2, ih.2, ← List.replicate_succ']
def upToN (S : List UInt8) : Nat → Nat
 | 0 => 1
 | k + 1 => upToN S k + S.length ^ (k + 1)
theorem upTo_iter {S : List UInt8} (hn : S.Nodup) (hS : S ≠ []) (k : Nat) : upTo S k = iterL (nextW S) [] (upToN S k) ∧ iter (nextW S) [] (upToN S k) = List.replicate (k + 1) (S.headD 0) := by
 induction k with
 | zero => exact ⟨rfl, rfl⟩
 | succ k ih =>
  have h := words_iter hn hS (k + 1)
  constructor
  ·rw [upTo, upToN, iterL_add, ← ih.1, ih.2, h.1]
  rw [upToN, iter_add, ih.2, h.2]
theorem words_empty (k : Nat) : words [] (k + 1) = [] := by
 rw [words]
 simp
theorem upTo_empty (k : Nat) : upTo [] k = [[]] := by
 induction k with
 | zero => rfl
 | succ k ih => rw [upTo, ih, words_empty]; rfl
end Go.Proofs.YtiibnkibckklgaaDoor.P
namespace Go.Proofs.YtiibnkibckklgaaDoor.P
open Go.RowKit Go.Proofs.YtiibnkibckklgaaDoorW.PrintWords Go.Proofs.YtiibnkibckklgaaDoorW.PrintLast Go.Proofs.YtiibnkibckklgaaDoorW.PrintMore
attribute [local go_sem] max2_int min2_int max_two min_two max_three min_three max_four min_four
set_option linter.unusedVariables false
set_option linter.unusedSimpArgs false
/-! ### spec_l17Many: function 92 -/
def spec_l17Many.l0 : Nat → ByteArray → Int → ByteArray → Option (ByteArray)
 | 0, _, _, _ => none
 | k + 1, x0, x1, x5 => if x1 > 0 then (if (Int.tmod x1 2) = 1 then (if x5.size + x0.size ≤ 9223372036854775807 then (if x0.size + x0.size ≤ 9223372036854775807 then (spec_l17Many.l0 k (x0 ++ x0) (wrap64 (Int.tdiv x1 2)) (x5 ++ x0)) else (none)) else (none)) else (if x0.size + x0.size ≤ 9223372036854775807 then (spec_l17Many.l0 k (x0 ++ x0) (wrap64 (Int.tdiv x1 2)) x5) else (none))) else (some x5)
def spec_l17Many.f (k : Nat) (a0 : ByteArray) (a1 : Int) : Option (ByteArray) := spec_l17Many.l0 k a0 a1 (⟨#[]⟩ : ByteArray)
theorem spec_l17Many.mono_l : ∀ k, (∀ y0 y1 y2, LeO (spec_l17Many.l0 k y0 y1 y2) (spec_l17Many.l0 (k + 1) y0 y1 y2))
 | 0 => fun _ _ _ r h => by simp [spec_l17Many.l0] at h
 | k + 1 => by
  have ih0 := spec_l17Many.mono_l k
  intro y0 y1 y2
  unfold spec_l17Many.l0
  repeat' first
  | (with_reducible exact ih0 _ _ _)
  | (with_reducible exact LeO.refl _)
  | (with_reducible exact LeO.none _)
  | (with_reducible refine LeO.ite ?_ ?_)
  | (with_reducible refine LeO.bind ?_ (fun _ => ?_))
  | exact ih0 _ _ _
  | exact LeO.none _
  | refine LeO.ite ?_ ?_
  | refine LeO.bind ?_ (fun _ => ?_)
theorem spec_l17Many.mono : ∀ a0 a1 k, LeO (spec_l17Many.f k a0 a1) (spec_l17Many.f (k + 1) a0 a1) := by
 intro a0 a1 k
 have ih0 := spec_l17Many.mono_l k
 unfold spec_l17Many.f
 repeat' first
   | (with_reducible exact ih0 _ _ _)
   | (with_reducible exact LeO.refl _)
   | (with_reducible exact LeO.none _)
   | (with_reducible refine LeO.ite ?_ ?_)
   | (with_reducible refine LeO.bind ?_ (fun _ => ?_))
   | exact ih0 _ _ _
   | exact LeO.none _
   | refine LeO.ite ?_ ?_
   | refine LeO.bind ?_ (fun _ => ?_)
set_option maxHeartbeats 8000000 in
set_option maxRecDepth 100000 in
theorem spec_l17Many.calls (k : Nat) (a0 : ByteArray) (a1 : Int) (r : ByteArray) (w : World) (h : spec_l17Many.f k a0 a1 = some r) :
  Calls Tryd.prog 92 #[.string a0, .int .i64 a1] w fun e w' => e = .returned (.string r) ∧ Drawn0 w w' := by
 have H : (spec_l17Many.l0 k a0 a1 (⟨#[]⟩ : ByteArray)) = some r := h
 clear h
 have H' := Aside0.mk H
 clear H
 go_enter Tryd.func92, Tryd.ntmps92
 go_wp2
 go_loopg [0, 1, 5] k (fun kq v0 v1 v5 w' => ∃ (x0_1 : ByteArray) (x1_1 : Int) (x5_1 : ByteArray), v0 = .string x0_1 ∧ v1 = .int .i64 x1_1 ∧ v5 = .string x5_1 ∧ Aside0 (spec_l17Many.l0 kq x0_1 x1_1 x5_1 = some r) ∧ Aside0 (kq ≤ k) ∧ Drawn0 w w')
 case atStart => exact ⟨(a0), (a1), ((⟨#[]⟩ : ByteArray)), (by first | rfl | (simp; done) | (simp [*]; done)), (by first | rfl | (simp; done) | (simp [*]; done)), (by first | rfl | (simp; done) | (simp [*]; done)), H', ⟨Nat.le_refl _⟩, by repeat (first | exact Drawn0.refl _ | apply Drawn0.step)⟩
 case round =>
  clear H'
  try clear p2
  obtain ⟨x0_1, x1_1, x5_1, rfl, rfl, rfl, HA, HK1, ⟨m1, rfl⟩⟩ := hrel
  cases gk with
  | zero => exact absurd HA.out (by simp [spec_l17Many.l0])
  | succ k1 =>
   have H := HA.out
   clear HA
   simp only [spec_l17Many.l0] at H
   by_cases c3 : x1_1 > 0
   rotate_left
   ·rw [if_neg c3] at H
    have c3b0 : decide (0 < x1_1) = false := decide_eq_false c3
    clear c3
    obtain rfl := Option.some.inj H
    go_wp2
    go_ret
    exact ⟨by first | rfl | (simp; done) | (simp [*]; done), by repeat (first | exact Drawn0.refl _ | apply Drawn0.step)⟩
   rw [if_pos c3] at H
   have c3b0 : decide (0 < x1_1) = true := decide_eq_true c3
   clear c3
   by_cases c4 : (Int.tmod x1_1 2) = 1
   ·rw [if_pos c4] at H
    have c4b0 : ((Int.tmod x1_1 2) == 1) = true := beq_iff_eq.mpr c4
    have c4b1 : ((Int.tmod x1_1 2) != 1) = false := bne_eq_false_iff_eq.mpr c4
    clear c4
    by_cases c5 : x5_1.size + x0_1.size ≤ 9223372036854775807
    ·rw [if_pos c5] at H
     have c5b0 := eq_true c5
     have c5b1 : decide (x5_1.size + x0_1.size ≤ 9223372036854775807) = true := decide_eq_true c5
     try have c5b2 : (9223372036854775807 < x5_1.size + x0_1.size) = False := eq_false (Nat.not_lt.2 c5)
     by_cases c6 : x0_1.size + x0_1.size ≤ 9223372036854775807
     ·rw [if_pos c6] at H
      have c6b0 := eq_true c6
      have c6b1 : decide (x0_1.size + x0_1.size ≤ 9223372036854775807) = true := decide_eq_true c6
      try have c6b2 : (9223372036854775807 < x0_1.size + x0_1.size) = False := eq_false (Nat.not_lt.2 c6)
      have H' := Aside0.mk H
      clear H
      go_wp2
      go_roundg k1
      case measure => have := HK1.out; omega
      case rel => exact ⟨(x0_1 ++ x0_1), (wrap64 (Int.tdiv x1_1 2)), (x5_1 ++ x0_1), (by first | rfl | (simp; done) | (simp [*]; done)), (by first | rfl | (simp; done) | (simp [*]; done)), (by first | rfl | (simp; done) | (simp [*]; done)), H', ⟨by have := HK1.out; omega⟩, by repeat (first | exact Drawn0.refl _ | apply Drawn0.step)⟩
     rw [if_neg c6] at H
     exact absurd H (by simp)
    rw [if_neg c5] at H
    exact absurd H (by simp)
   rw [if_neg c4] at H
   have c4b0 : ((Int.tmod x1_1 2) == 1) = false := beq_eq_false_iff_ne.mpr c4
   have c4b1 : ((Int.tmod x1_1 2) != 1) = true := bne_iff_ne.mpr c4
   by_cases c7 : x0_1.size + x0_1.size ≤ 9223372036854775807
   ·rw [if_pos c7] at H
    have c7b0 := eq_true c7
    have c7b1 : decide (x0_1.size + x0_1.size ≤ 9223372036854775807) = true := decide_eq_true c7
    try have c7b2 : (9223372036854775807 < x0_1.size + x0_1.size) = False := eq_false (Nat.not_lt.2 c7)
    have H' := Aside0.mk H
    clear H
    go_wp2
    go_roundg k1
    case measure => have := HK1.out; omega
    case rel => exact ⟨(x0_1 ++ x0_1), (wrap64 (Int.tdiv x1_1 2)), (x5_1), (by first | rfl | (simp; done) | (simp [*]; done)), (by first | rfl | (simp; done) | (simp [*]; done)), (by first | rfl | (simp; done) | (simp [*]; done)), H', ⟨by have := HK1.out; omega⟩, by repeat (first | exact Drawn0.refl _ | apply Drawn0.step)⟩
   rw [if_neg c7] at H
   exact absurd H (by simp)
/-! ### spec_l4Next: function 93 -/
mutual
def spec_l4Next.l0 : Nat → ByteArray → ByteArray → Int → Option (ByteArray)
 | 0, _, _, _ => none
 | k + 1, x0, x1, x5 => if x5 ≥ 0 then (spec_l4Next.l1 k x0 x1 x5 0) else (if 0 ≤ 1 then (if 1 ≤ (x0.size : Int) then ((spec_l17Many.f k (x0.extract 0 1) (wrap64 ((x1.size : Int) + 1))).bind fun t101 => (some t101)) else (none)) else (none))
def spec_l4Next.l1 : Nat → ByteArray → ByteArray → Int → Int → Option (ByteArray)
 | 0, _, _, _, _ => none
 | k + 1, x0, x1, x5, x6 => if 0 ≤ x6 then (if x6 < (x0.size : Int) then (if 0 ≤ x5 then (if x5 < (x1.size : Int) then (if (bt x0 x6) = (bt x1 x5) then (if (wrap64 (x6 + 1)) < (x0.size : Int) then (if x5 ≤ (x1.size : Int) then (if 0 ≤ (wrap64 (x6 + 1)) then (if (wrap64 (x6 + 1)) ≤ (wrap64 (x6 + 2)) then (if (wrap64 (x6 + 2)) ≤ (x0.size : Int) then (if (x1.extract 0 (x5 : Int).toNat).size + (x0.extract ((wrap64 (x6 + 1)) : Int).toNat ((wrap64 (x6 + 2)) : Int).toNat).size ≤ 9223372036854775807 then (if 0 ≤ 1 then (if 1 ≤ (x0.size : Int) then ((spec_l17Many.f k (x0.extract 0 1) (wrap64 ((wrap64 ((x1.size : Int) - 1)) - x5))).bind fun t102 => (if ((x1.extract 0 (x5 : Int).toNat) ++ (x0.extract ((wrap64 (x6 + 1)) : Int).toNat ((wrap64 (x6 + 2)) : Int).toNat)).size + t102.size ≤ 9223372036854775807 then (some (((x1.extract 0 (x5 : Int).toNat) ++ (x0.extract ((wrap64 (x6 + 1)) : Int).toNat ((wrap64 (x6 + 2)) : Int).toNat)) ++ t102)) else (none))) else (none)) else (none)) else (none)) else (none)) else (none)) else (none)) else (none)) else (spec_l4Next.l0 k x0 x1 (wrap64 (x5 - 1)))) else (spec_l4Next.l1 k x0 x1 x5 (wrap64 (x6 + 1)))) else (none)) else (none)) else (none)) else (none)
end
def spec_l4Next.f (k : Nat) (a0 : ByteArray) (a1 : ByteArray) : Option (ByteArray) := spec_l4Next.l0 k a0 a1 (wrap64 ((a1.size : Int) - 1))
theorem spec_l4Next.mono_l : ∀ k, (∀ y0 y1 y2, LeO (spec_l4Next.l0 k y0 y1 y2) (spec_l4Next.l0 (k + 1) y0 y1 y2)) ∧ (∀ y0 y1 y2 y3, LeO (spec_l4Next.l1 k y0 y1 y2 y3) (spec_l4Next.l1 (k + 1) y0 y1 y2 y3))
 | 0 => ⟨fun _ _ _ r h => by simp [spec_l4Next.l0] at h, fun _ _ _ _ r h => by simp [spec_l4Next.l1] at h⟩
 | k + 1 => by
  obtain ⟨ih0, ih1⟩ := spec_l4Next.mono_l k
  refine ⟨?_, ?_⟩
  ·intro y0 y1 y2
   unfold spec_l4Next.l0
   repeat' first
   | (with_reducible exact ih0 _ _ _)
   | (with_reducible exact ih1 _ _ _ _)
   | (with_reducible exact spec_l17Many.mono _ _ _)
   | (with_reducible exact LeO.refl _)
   | (with_reducible exact LeO.none _)
   | (with_reducible refine LeO.ite ?_ ?_)
   | (with_reducible refine LeO.bind ?_ (fun _ => ?_))
   | exact ih0 _ _ _
   | exact ih1 _ _ _ _
   | exact spec_l17Many.mono _ _ _
   | exact LeO.none _
   | refine LeO.ite ?_ ?_
   | refine LeO.bind ?_ (fun _ => ?_)
  intro y0 y1 y2 y3
  unfold spec_l4Next.l1
  repeat' first
  | (with_reducible exact ih0 _ _ _)
  | (with_reducible exact ih1 _ _ _ _)
  | (with_reducible exact spec_l17Many.mono _ _ _)
  | (with_reducible exact LeO.refl _)
  | (with_reducible exact LeO.none _)
  | (with_reducible refine LeO.ite ?_ ?_)
  | (with_reducible refine LeO.bind ?_ (fun _ => ?_))
  | exact ih0 _ _ _
  | exact ih1 _ _ _ _
  | exact spec_l17Many.mono _ _ _
  | exact LeO.none _
  | refine LeO.ite ?_ ?_
  | refine LeO.bind ?_ (fun _ => ?_)
theorem spec_l4Next.mono : ∀ a0 a1 k, LeO (spec_l4Next.f k a0 a1) (spec_l4Next.f (k + 1) a0 a1) := by
 intro a0 a1 k
 obtain ⟨ih0, ih1⟩ := spec_l4Next.mono_l k
 unfold spec_l4Next.f
 repeat' first
   | (with_reducible exact ih0 _ _ _)
   | (with_reducible exact ih1 _ _ _ _)
   | (with_reducible exact spec_l17Many.mono _ _ _)
   | (with_reducible exact LeO.refl _)
   | (with_reducible exact LeO.none _)
   | (with_reducible refine LeO.ite ?_ ?_)
   | (with_reducible refine LeO.bind ?_ (fun _ => ?_))
   | exact ih0 _ _ _
   | exact ih1 _ _ _ _
   | exact spec_l17Many.mono _ _ _
   | exact LeO.none _
   | refine LeO.ite ?_ ?_
   | refine LeO.bind ?_ (fun _ => ?_)
set_option maxHeartbeats 8000000 in
set_option maxRecDepth 100000 in
theorem spec_l4Next.calls (k : Nat) (a0 : ByteArray) (a1 : ByteArray) (r : ByteArray) (w : World) (h : spec_l4Next.f k a0 a1 = some r) :
  Calls Tryd.prog 93 #[.string a0, .string a1] w fun e w' => e = .returned (.string r) ∧ Drawn0 w w' := by
 have H : (spec_l4Next.l0 k a0 a1 (wrap64 ((a1.size : Int) - 1))) = some r := h
 clear h
 have H' := Aside0.mk H
 clear H
 go_enter Tryd.func93, Tryd.ntmps93
 go_wp2
 repeat (go_quiet (fail); try go_wp2)
 go_loopg [5] k (fun kq v5 w' => ∃ (x5_1 : Int), v5 = .int .i64 x5_1 ∧ Aside0 (spec_l4Next.l0 kq a0 a1 x5_1 = some r) ∧ Aside0 (kq ≤ k) ∧ Drawn0 w w')
 case atStart => exact ⟨(wrap64 ((a1.size : Int) - 1)), (by first | rfl | (simp; done) | (simp [*]; done)), H', ⟨Nat.le_refl _⟩, by repeat (first | exact Drawn0.refl _ | apply Drawn0.step)⟩
 case round =>
  clear H'
  try clear p2
  obtain ⟨x5_1, rfl, HA, HK1, ⟨m1, rfl⟩⟩ := hrel
  cases gk with
  | zero => exact absurd HA.out (by simp [spec_l4Next.l0])
  | succ k1 =>
   have H := HA.out
   clear HA
   simp only [spec_l4Next.l0] at H
   by_cases c3 : x5_1 ≥ 0
   rotate_left
   ·rw [if_neg c3] at H
    have c3b0 : decide (0 ≤ x5_1) = false := decide_eq_false c3
    clear c3
    by_cases c23 : 0 ≤ 1
    rotate_left
    ·rw [if_neg c23] at H
     exact absurd H (by simp)
    rw [if_pos c23] at H
    have c23b0 := eq_true c23
    have c23b1 : decide (0 ≤ 1) = true := decide_eq_true c23
    clear c23
    by_cases c24 : 1 ≤ (a0.size : Int)
    ·rw [if_pos c24] at H
     have c24b0 := eq_true c24
     have c24b1 : decide (1 ≤ (a0.size : Int)) = true := decide_eq_true c24
     clear c24
     replace H := Option.bind_eq_some_iff.mp H
     obtain ⟨t101, A250, H⟩ := H
     replace H : (some t101) = some r := H
     have A25 := Aside0.mk A250
     clear A250
     obtain rfl := Option.some.inj H
     go_wp2_with (first | (go_at_call 92; (with_reducible refine (spec_l17Many.calls k1 (a0.extract 0 1) (wrap64 ((a1.size : Int) + 1)) t101 _ A25.out).mono ?_); rintro e w' ⟨rfl, ⟨nd, rfl⟩⟩; (try first | exact ⟨rfl, _, World.drewN_drewN _ _ _⟩ | exact ⟨rfl, _, Eq.trans (World.drewN_drewN _ _ _) (congrArg (World.drewN _) (Nat.add_assoc _ _ _))⟩)))
     repeat (go_quiet (first | (go_at_call 92; (with_reducible refine (spec_l17Many.calls k1 (a0.extract 0 1) (wrap64 ((a1.size : Int) + 1)) t101 _ A25.out).mono ?_); rintro e w' ⟨rfl, ⟨nd, rfl⟩⟩; (try first | exact ⟨rfl, _, World.drewN_drewN _ _ _⟩ | exact ⟨rfl, _, Eq.trans (World.drewN_drewN _ _ _) (congrArg (World.drewN _) (Nat.add_assoc _ _ _))⟩))); try go_wp2_with (first | (go_at_call 92; (with_reducible refine (spec_l17Many.calls k1 (a0.extract 0 1) (wrap64 ((a1.size : Int) + 1)) t101 _ A25.out).mono ?_); rintro e w' ⟨rfl, ⟨nd, rfl⟩⟩; (try first | exact ⟨rfl, _, World.drewN_drewN _ _ _⟩ | exact ⟨rfl, _, Eq.trans (World.drewN_drewN _ _ _) (congrArg (World.drewN _) (Nat.add_assoc _ _ _))⟩))))
     go_ret
     exact ⟨by first | rfl | (simp; done) | (simp [*]; done), by repeat (first | exact Drawn0.refl _ | apply Drawn0.step)⟩
    rw [if_neg c24] at H
    exact absurd H (by simp)
   rw [if_pos c3] at H
   have c3b0 : decide (0 ≤ x5_1) = true := decide_eq_true c3
   clear c3
   have H' := Aside0.mk H
   clear H
   go_wp2
   repeat (go_quiet (fail); try go_wp2)
   go_loopg [6] k1 (fun kq v6 w' => ∃ (x6_2 : Int), v6 = .int .i64 x6_2 ∧ Aside0 (spec_l4Next.l1 kq a0 a1 x5_1 x6_2 = some r) ∧ Aside0 (kq ≤ k1) ∧ Drawn0 w w')
   case atStart => exact ⟨(0), (by first | rfl | (simp; done) | (simp [*]; done)), H', ⟨Nat.le_refl _⟩, by repeat (first | exact Drawn0.refl _ | apply Drawn0.step)⟩
   case round =>
    clear H'
    try clear p2
    try clear c3
    try clear c3b0
    try clear p2
    obtain ⟨x6_2, rfl, HA, HK2, ⟨m2, rfl⟩⟩ := hrel
    cases gk with
    | zero => exact absurd HA.out (by simp [spec_l4Next.l1])
    | succ k2 =>
     have H := HA.out
     clear HA
     simp only [spec_l4Next.l1] at H
     by_cases c4 : 0 ≤ x6_2
     rotate_left
     ·rw [if_neg c4] at H
      exact absurd H (by simp)
     rw [if_pos c4] at H
     have c4b0 : decide (0 ≤ x6_2) = true := decide_eq_true c4
     clear c4
     by_cases c5 : x6_2 < (a0.size : Int)
     rotate_left
     ·rw [if_neg c5] at H
      exact absurd H (by simp)
     rw [if_pos c5] at H
     have c5b0 : decide (x6_2 < (a0.size : Int)) = true := decide_eq_true c5
     clear c5
     by_cases c7 : 0 ≤ x5_1
     rotate_left
     ·rw [if_neg c7] at H
      exact absurd H (by simp)
     rw [if_pos c7] at H
     have c7b0 : decide (0 ≤ x5_1) = true := decide_eq_true c7
     clear c7
     by_cases c8 : x5_1 < (a1.size : Int)
     rotate_left
     ·rw [if_neg c8] at H
      exact absurd H (by simp)
     rw [if_pos c8] at H
     have c8b0 : decide (x5_1 < (a1.size : Int)) = true := decide_eq_true c8
     clear c8
     by_cases c10 : (bt a0 x6_2) = (bt a1 x5_1)
     rotate_left
     ·rw [if_neg c10] at H
      have c10b0 : ((bt a0 x6_2) == (bt a1 x5_1)) = false := beq_eq_false_iff_ne.mpr c10
      have c10b1 : ((bt a0 x6_2) != (bt a1 x5_1)) = true := bne_iff_ne.mpr c10
      have H' := Aside0.mk H
      clear H
      have p6 : 0 ≤ (x6_2 : Int) := of_decide_eq_true (by first | (with_reducible assumption) | assumption)
      have q6 : x6_2 < (a0.size : Int) := of_decide_eq_true (by first | (with_reducible assumption) | assumption)
      have hx6 := bt_at a0 x6_2
      replace p6 := eq_true p6
      replace q6 := eq_true q6
      have p9 : 0 ≤ (x5_1 : Int) := of_decide_eq_true (by first | (with_reducible assumption) | assumption)
      have q9 : x5_1 < (a1.size : Int) := of_decide_eq_true (by first | (with_reducible assumption) | assumption)
      have hx9 := bt_at a1 x5_1
      replace p9 := eq_true p9
      replace q9 := eq_true q9
      go_wp2
      repeat (go_quiet (fail); try go_wp2)
      go_roundg k2
      case measure => have := HK1.out; have := HK2.out; omega
      case rel => exact ⟨(wrap64 (x6_2 + 1)), (by first | rfl | (simp; done) | (simp [*]; done)), H', ⟨by have := HK1.out; have := HK2.out; omega⟩, by repeat (first | exact Drawn0.refl _ | apply Drawn0.step)⟩
     rw [if_pos c10] at H
     have c10b0 : ((bt a0 x6_2) == (bt a1 x5_1)) = true := beq_iff_eq.mpr c10
     have c10b1 : ((bt a0 x6_2) != (bt a1 x5_1)) = false := bne_eq_false_iff_eq.mpr c10
     clear c10
     by_cases c11 : (wrap64 (x6_2 + 1)) < (a0.size : Int)
     rotate_left
     ·rw [if_neg c11] at H
      have c11b0 : decide ((wrap64 (x6_2 + 1)) < (a0.size : Int)) = false := decide_eq_false c11
      clear c11
      have H' := Aside0.mk H
      clear H
      have p6 : 0 ≤ (x6_2 : Int) := of_decide_eq_true (by first | (with_reducible assumption) | assumption)
      have q6 : x6_2 < (a0.size : Int) := of_decide_eq_true (by first | (with_reducible assumption) | assumption)
      have hx6 := bt_at a0 x6_2
      replace p6 := eq_true p6
      replace q6 := eq_true q6
      have p9 : 0 ≤ (x5_1 : Int) := of_decide_eq_true (by first | (with_reducible assumption) | assumption)
      have q9 : x5_1 < (a1.size : Int) := of_decide_eq_true (by first | (with_reducible assumption) | assumption)
      have hx9 := bt_at a1 x5_1
      replace p9 := eq_true p9
      replace q9 := eq_true q9
      go_wp2
      repeat (go_quiet (fail); try go_wp2)
      go_roundg k2
      case measure => have := HK1.out; have := HK2.out; omega
      case rel => exact ⟨(wrap64 (x5_1 - 1)), (by first | rfl | (simp; done) | (simp [*]; done)), H', ⟨by have := HK1.out; have := HK2.out; omega⟩, by repeat (first | exact Drawn0.refl _ | apply Drawn0.step)⟩
     rw [if_pos c11] at H
     have c11b0 : decide ((wrap64 (x6_2 + 1)) < (a0.size : Int)) = true := decide_eq_true c11
     clear c11
     have c12b0 := eq_true (of_decide_eq_true (by first | (with_reducible assumption) | assumption) : 0 ≤ x5_1)
     by_cases c13 : x5_1 ≤ (a1.size : Int)
     rotate_left
     ·rw [if_neg c13] at H
      exact absurd H (by simp)
     rw [if_pos c13] at H
     have c13b0 := eq_true c13
     have c13b1 : decide (x5_1 ≤ (a1.size : Int)) = true := decide_eq_true c13
     clear c13
     obtain ⟨ji14, hji14⟩ : ∃ j_ : Int, (wrap64 (x6_2 + 1)) = j_ := ⟨_, rfl⟩
     replace H : (if 0 ≤ (ji14) then (if (ji14) ≤ (wrap64 (x6_2 + 2)) then (if (wrap64 (x6_2 + 2)) ≤ (a0.size : Int) then (if (a1.extract 0 (x5_1 : Int).toNat).size + (a0.extract ((ji14) : Int).toNat ((wrap64 (x6_2 + 2)) : Int).toNat).size ≤ 9223372036854775807 then (if 0 ≤ 1 then (if 1 ≤ (a0.size : Int) then ((spec_l17Many.f k2 (a0.extract 0 1) (wrap64 ((wrap64 ((a1.size : Int) - 1)) - x5_1))).bind fun t102 => (if ((a1.extract 0 (x5_1 : Int).toNat) ++ (a0.extract ((ji14) : Int).toNat ((wrap64 (x6_2 + 2)) : Int).toNat)).size + t102.size ≤ 9223372036854775807 then (some (((a1.extract 0 (x5_1 : Int).toNat) ++ (a0.extract ((ji14) : Int).toNat ((wrap64 (x6_2 + 2)) : Int).toNat)) ++ t102)) else (none))) else (none)) else (none)) else (none)) else (none)) else (none)) else (none)) = some r := by first | (rw [hji14] at H; exact H) | (simp only [hji14] at H ⊢; exact H)
     (try rw [hji14] at c11b0)
     have hji14w : (IntKind.i64.wrap (x6_2 + 1)) = ji14 := (i64_w _).trans hji14
     by_cases c15 : 0 ≤ (ji14)
     rotate_left
     ·rw [if_neg c15] at H
      exact absurd H (by simp)
     rw [if_pos c15] at H
     have c15b0 := eq_true c15
     have c15b1 : decide (0 ≤ (ji14)) = true := decide_eq_true c15
     clear c15
     by_cases c16 : (ji14) ≤ (wrap64 (x6_2 + 2))
     rotate_left
     ·rw [if_neg c16] at H
      exact absurd H (by simp)
     rw [if_pos c16] at H
     have c16b0 := eq_true c16
     have c16b1 : decide ((ji14) ≤ (wrap64 (x6_2 + 2))) = true := decide_eq_true c16
     by_cases c17 : (wrap64 (x6_2 + 2)) ≤ (a0.size : Int)
     rotate_left
     ·rw [if_neg c17] at H
      exact absurd H (by simp)
     rw [if_pos c17] at H
     have c17b0 := eq_true c17
     have c17b1 : decide ((wrap64 (x6_2 + 2)) ≤ (a0.size : Int)) = true := decide_eq_true c17
     by_cases c18 : (a1.extract 0 (x5_1 : Int).toNat).size + (a0.extract ((ji14) : Int).toNat ((wrap64 (x6_2 + 2)) : Int).toNat).size ≤ 9223372036854775807
     rotate_left
     ·rw [if_neg c18] at H
      exact absurd H (by simp)
     rw [if_pos c18] at H
     have c18b0 := eq_true c18
     have c18b1 : decide ((a1.extract 0 (x5_1 : Int).toNat).size + (a0.extract ((ji14) : Int).toNat ((wrap64 (x6_2 + 2)) : Int).toNat).size ≤ 9223372036854775807) = true := decide_eq_true c18
     try have c18b2 : (9223372036854775807 < (a1.extract 0 (x5_1 : Int).toNat).size + (a0.extract ((ji14) : Int).toNat ((wrap64 (x6_2 + 2)) : Int).toNat).size) = False := eq_false (Nat.not_lt.2 c18)
     try have c18b3 : ∀ n_ : Nat, (a1.extract 0 (x5_1 : Int).toNat).size + (a0.extract ((ji14) : Int).toNat ((wrap64 (x6_2 + 2)) : Int).toNat).size = n_ → (9223372036854775807 < n_) = False := fun n_ h_ => h_ ▸ c18b2
     by_cases c19 : 0 ≤ 1
     rotate_left
     ·rw [if_neg c19] at H
      exact absurd H (by simp)
     rw [if_pos c19] at H
     have c19b0 := eq_true c19
     have c19b1 : decide (0 ≤ 1) = true := decide_eq_true c19
     clear c19
     by_cases c20 : 1 ≤ (a0.size : Int)
     rotate_left
     ·rw [if_neg c20] at H
      exact absurd H (by simp)
     rw [if_pos c20] at H
     have c20b0 := eq_true c20
     have c20b1 : decide (1 ≤ (a0.size : Int)) = true := decide_eq_true c20
     clear c20
     replace H := Option.bind_eq_some_iff.mp H
     obtain ⟨t102, A210, H⟩ := H
     replace H : (if ((a1.extract 0 (x5_1 : Int).toNat) ++ (a0.extract ((ji14) : Int).toNat ((wrap64 (x6_2 + 2)) : Int).toNat)).size + t102.size ≤ 9223372036854775807 then (some (((a1.extract 0 (x5_1 : Int).toNat) ++ (a0.extract ((ji14) : Int).toNat ((wrap64 (x6_2 + 2)) : Int).toNat)) ++ t102)) else (none)) = some r := H
     have A21 := Aside0.mk A210
     clear A210
     by_cases c22 : ((a1.extract 0 (x5_1 : Int).toNat) ++ (a0.extract ((ji14) : Int).toNat ((wrap64 (x6_2 + 2)) : Int).toNat)).size + t102.size ≤ 9223372036854775807
     rotate_left
     ·rw [if_neg c22] at H
      exact absurd H (by simp)
     rw [if_pos c22] at H
     have c22b0 := eq_true c22
     have c22b1 : decide (((a1.extract 0 (x5_1 : Int).toNat) ++ (a0.extract ((ji14) : Int).toNat ((wrap64 (x6_2 + 2)) : Int).toNat)).size + t102.size ≤ 9223372036854775807) = true := decide_eq_true c22
     try have c22b2 : (9223372036854775807 < ((a1.extract 0 (x5_1 : Int).toNat) ++ (a0.extract ((ji14) : Int).toNat ((wrap64 (x6_2 + 2)) : Int).toNat)).size + t102.size) = False := eq_false (Nat.not_lt.2 c22)
     try have c22b3 : ∀ n_ : Nat, ((a1.extract 0 (x5_1 : Int).toNat) ++ (a0.extract ((ji14) : Int).toNat ((wrap64 (x6_2 + 2)) : Int).toNat)).size + t102.size = n_ → (9223372036854775807 < n_) = False := fun n_ h_ => h_ ▸ c22b2
     obtain rfl := Option.some.inj H
     have p6 : 0 ≤ (x6_2 : Int) := of_decide_eq_true (by first | (with_reducible assumption) | assumption)
     have q6 : x6_2 < (a0.size : Int) := of_decide_eq_true (by first | (with_reducible assumption) | assumption)
     have hx6 := bt_at a0 x6_2
     replace p6 := eq_true p6
     replace q6 := eq_true q6
     have p9 : 0 ≤ (x5_1 : Int) := of_decide_eq_true (by first | (with_reducible assumption) | assumption)
     have q9 : x5_1 < (a1.size : Int) := of_decide_eq_true (by first | (with_reducible assumption) | assumption)
     have hx9 := bt_at a1 x5_1
     replace p9 := eq_true p9
     replace q9 := eq_true q9
     go_wp2_with (first | (go_at_call 92; (with_reducible refine (spec_l17Many.calls k2 (a0.extract 0 1) (wrap64 ((wrap64 ((a1.size : Int) - 1)) - x5_1)) t102 _ A21.out).mono ?_); rintro e w' ⟨rfl, ⟨nd, rfl⟩⟩; (try first | exact ⟨rfl, _, World.drewN_drewN _ _ _⟩ | exact ⟨rfl, _, Eq.trans (World.drewN_drewN _ _ _) (congrArg (World.drewN _) (Nat.add_assoc _ _ _))⟩)))
     repeat (go_quiet (first | (go_at_call 92; (with_reducible refine (spec_l17Many.calls k2 (a0.extract 0 1) (wrap64 ((wrap64 ((a1.size : Int) - 1)) - x5_1)) t102 _ A21.out).mono ?_); rintro e w' ⟨rfl, ⟨nd, rfl⟩⟩; (try first | exact ⟨rfl, _, World.drewN_drewN _ _ _⟩ | exact ⟨rfl, _, Eq.trans (World.drewN_drewN _ _ _) (congrArg (World.drewN _) (Nat.add_assoc _ _ _))⟩))); try go_wp2_with (first | (go_at_call 92; (with_reducible refine (spec_l17Many.calls k2 (a0.extract 0 1) (wrap64 ((wrap64 ((a1.size : Int) - 1)) - x5_1)) t102 _ A21.out).mono ?_); rintro e w' ⟨rfl, ⟨nd, rfl⟩⟩; (try first | exact ⟨rfl, _, World.drewN_drewN _ _ _⟩ | exact ⟨rfl, _, Eq.trans (World.drewN_drewN _ _ _) (congrArg (World.drewN _) (Nat.add_assoc _ _ _))⟩))))
     go_ret
     exact ⟨by first | rfl | (simp; done) | (simp only [← hji14] <;> (first | rfl | simp)) | (simp [*]; done), by repeat (first | exact Drawn0.refl _ | apply Drawn0.step)⟩
end Go.Proofs.YtiibnkibckklgaaDoor.P
namespace Go.Proofs.YtiibnkibckklgaaDoor.P
set_option linter.unusedVariables false
set_option linter.unusedSimpArgs false
open Go.RowKit Go.Proofs.YtiibnkibckklgaaDoorW.PrintWords
theorem spec_l17Many.tot (c : UInt8) (n : Nat) (hn : n ≤ 1000000) : Tot (fun k => spec_l17Many.f k (ofL [c]) n) (fun r => r = ofL (List.replicate n c)) := by
 have key : ∀ (m p q : Nat), 1 ≤ p → p * m + q = n → p ≤ 1000000 → Tot (fun k => spec_l17Many.l0 k (ofL (List.replicate p c)) (m : Int) (ofL (List.replicate q c))) (fun r => r = ofL (List.replicate n c)) := by
  intro m
  induction m using Nat.strongRecOn with
  | _ m ih =>
   intro p q hp h hb
   refine Tot.step (fun k => by rw [spec_l17Many.l0]) ?_
   by_cases hm : m = 0
   ·subst hm
    refine Tot.neg (by omega) (Tot.ret ?_)
    rw [show q = n by omega]
   have hpm : p ≤ p * m := Nat.le_mul_of_pos_right p (by omega)
   have hpm2 : m ≤ p * m := Nat.le_mul_of_pos_left m (by omega)
   have e1 : Int.tmod (m : Int) 2 = ((m % 2 : Nat) : Int) := by rw [Int.tmod_eq_emod_of_nonneg (by omega)]; omega
   have e2 : Int.tdiv (m : Int) 2 = ((m / 2 : Nat) : Int) := by rw [Int.tdiv_eq_ediv_of_nonneg (by omega)]; omega
   have hsz : ∀ x, (ofL (List.replicate x c)).size = x := fun x => by rw [ofL_size, List.length_replicate]
   have happ : ∀ x y, ofL (List.replicate x c) ++ ofL (List.replicate y c) = ofL (List.replicate (x + y) c) := fun x y => by rw [ofL_append, List.replicate_append_replicate]
   refine Tot.pos (by omega) ?_
   rw [e1, e2, happ, happ, hsz, hsz, w64 (by omega) (by omega)]
   have hd : (p + p) * (m / 2) = p * (m / 2) + p * (m / 2) := Nat.add_mul _ _ _
   have hm2 : p * m = p * (m / 2) + p * (m / 2) + p * (m % 2) := by
    rw [← Nat.mul_add, ← Nat.mul_add]; congr 1; omega
   refine Tot.ite (fun h1 => ?_) (fun h1 => ?_)
   ·have h1 : m % 2 = 1 := by omega
    rw [h1, Nat.mul_one] at hm2
    refine Tot.pos (by omega) (Tot.pos (by omega) ?_)
    by_cases hz : m / 2 = 0
    ·-- the last round: the doubled text is not looked at any more
     rw [hz]
     refine Tot.step (fun k => by rw [spec_l17Many.l0]) (Tot.neg (by omega) (Tot.ret ?_))
     rw [hz, Nat.mul_zero] at hm2
     rw [show q + p = n by omega]
    have hle : p ≤ p * (m / 2) := Nat.le_mul_of_pos_right p (by omega)
    exact ih (m / 2) (by omega) (p + p) (q + p) (by omega) (by omega) (by omega)
   have h1 : m % 2 = 0 := by omega
   rw [h1, Nat.mul_zero] at hm2
   refine Tot.pos (by omega) ?_
   have hle : p ≤ p * (m / 2) := Nat.le_mul_of_pos_right p (by omega)
   exact ih (m / 2) (by omega) (p + p) q (by omega) (by omega) (by omega)
 have := key n 1 0 (Nat.le_refl _) (by omega) (by omega)
 unfold spec_l17Many.f
 exact this
theorem succS_at {S : List UInt8} (hn : S.Nodup) (j : Nat) (hj : j < S.length) : succS S S[j] = S[j + 1]? := by
 have e : S = S.take j ++ S[j] :: S.drop (j + 1) := by rw [← List.drop_eq_getElem_cons hj, List.take_append_drop]
 have := succS_block hn (S.take j) S[j] (S.drop (j + 1)) e
 rw [this, List.head?_drop]
theorem spec_l4Next.tot (S : List UInt8) (hn : S.Nodup) (hS : S ≠ []) (hSz : S.length ≤ 1000) (w : List UInt8) (hw : w.length ≤ 1000) (hm : ∀ c ∈ w, c ∈ S) : Tot (fun k => spec_l4Next.f k (ofL S) (ofL w)) (fun r => r = ofL (nextW S w)) := by
 have hS1 : 1 ≤ S.length := by cases S with | nil => exact absurd rfl hS | cons c S => simp
 have hfirst : (ofL S).extract 0 1 = ofL [S.headD 0] := by
  rw [ex_ofL, part_one (t := (ofL S).data.toList) (i := 0) (by rw [ofL_list]; omega)]
  congr 2
  cases S with | nil => exact absurd rfl hS | cons c S => rfl
 have key : ∀ p : Nat, p ≤ w.length → Tot (fun k => spec_l4Next.l0 k (ofL S) (ofL w) ((p : Int) - 1)) (fun r => r = ofL (nxt S (w.take p).reverse (w.length - p))) := by
  intro p
  induction p with
  | zero =>
   intro _
   refine Tot.step (fun k => by rw [spec_l4Next.l0]) (Tot.neg (by omega) (Tot.pos (by omega) (Tot.pos (by rw [ofL_size]; omega) ?_)))
   rw [hfirst, ofL_size, w64 (by omega) (by omega)]
   refine Tot.bind (spec_l17Many.tot (S.headD 0) (w.length + 1) (by omega)) ?_
   rintro _ rfl
   exact Tot.ret rfl
  | succ p ih =>
   intro hp
   have hpl : p < w.length := by omega
   have hg := bt_get (ofL w) p (by rw [ofL_size]; omega)
   have htake : (w.take (p + 1)).reverse = w[p] :: (w.take p).reverse := by
    rw [List.take_succ_eq_append_getElem hpl, List.reverse_append]; rfl
   refine Tot.step (fun k => by rw [spec_l4Next.l0]) (Tot.pos (by omega) ?_)
   rw [show ((p + 1 : Nat) : Int) - 1 = (p : Int) by omega]
   -- the sign's place
   obtain ⟨j0, hj0, ej0⟩ := List.getElem_of_mem (hm w[p] (List.getElem_mem hpl))
   have find : ∀ (d j : Nat), j + d = j0 → Tot (fun k => spec_l4Next.l1 k (ofL S) (ofL w) (p : Int) (j : Int)) (fun r => r = ofL (nxt S (w.take (p + 1)).reverse (w.length - (p + 1)))) := by
    intro d
    induction d with
    | zero =>
     intro j hj
     obtain rfl : j = j0 := by omega
     have hgs := bt_get (ofL S) j (by rw [ofL_size]; omega)
     have heq : bt (ofL S) (j : Int) = bt (ofL w) (p : Int) := by rw [hg, hgs]; congr 2
     have hs := succS_at hn j hj0
     rw [ej0] at hs
     refine Tot.step (fun k => by rw [spec_l4Next.l1]) (Tot.pos (by omega) (Tot.pos (by rw [ofL_size]; omega) (Tot.pos (by omega) (Tot.pos (by rw [ofL_size]; omega) (Tot.pos heq ?_)))))
     rw [ofL_size, ofL_size, w64 (x := (j : Int) + 1) (by omega) (by omega), w64 (x := (j : Int) + 2) (by omega) (by omega), w64 (x := (w.length : Int) - 1) (by omega) (by omega), w64 (x := (w.length : Int) - 1 - p) (by omega) (by omega), w64 (x := (p : Int) - 1) (by omega) (by omega)]
     refine Tot.ite (fun hlt => ?_) (fun hge => ?_)
     ·have hlt : j + 1 < S.length := by omega
      rw [List.getElem?_eq_getElem hlt] at hs
      have hnx : nxt S (w.take (p + 1)).reverse (w.length - (p + 1)) = w.take p ++ ([S[j + 1]] ++ List.replicate (w.length - (p + 1)) (S.headD 0)) := by
       rw [htake, nxt, hs]
       simp
      have h1 : (ofL w).extract 0 ((p : Int)).toNat = ofL (w.take p) := by rw [ex_ofL, part_zero]; rfl
      have h2 : (ofL S).extract ((j : Int) + 1).toNat ((j : Int) + 2).toNat = ofL [S[j + 1]] := by
       rw [ex_ofL, show ((j : Int) + 1).toNat = j + 1 by omega, show ((j : Int) + 2).toNat = j + 1 + 1 by omega, part_one (t := (ofL S).data.toList) (by rw [ofL_list]; omega)]
       rfl
      rw [h1, h2, hfirst, ofL_append]
      refine Tot.pos (by omega) (Tot.pos (by omega) (Tot.pos (by omega) (Tot.pos (by omega) (Tot.pos (by rw [ofL_size, ofL_size, List.length_take]; simp; omega) (Tot.pos (by omega) (Tot.pos (by omega) ?_))))))
      rw [show (w.length : Int) - 1 - p = ((w.length - (p + 1) : Nat) : Int) by omega]
      refine Tot.bind (spec_l17Many.tot (S.headD 0) (w.length - (p + 1)) (by omega)) ?_
      rintro _ rfl
      refine Tot.pos (by rw [ofL_size, ofL_size, List.length_append, List.length_take, List.length_replicate]; simp; omega) (Tot.ret ?_)
      rw [ofL_append, hnx, List.append_assoc]
     have hge : S.length ≤ j + 1 := by omega
     rw [List.getElem?_eq_none hge] at hs
     have hnx : nxt S (w.take (p + 1)).reverse (w.length - (p + 1)) = nxt S (w.take p).reverse (w.length - p) := by
      rw [htake, nxt, hs]
      show nxt S (w.take p).reverse (w.length - (p + 1) + 1) = _
      rw [show w.length - (p + 1) + 1 = w.length - p by omega]
     rw [hnx]
     exact ih (by omega)
    | succ d ihd =>
     intro j hj
     have hjS : j < S.length := by omega
     have hgs := bt_get (ofL S) j (by rw [ofL_size]; omega)
     have hne : ¬ bt (ofL S) (j : Int) = bt (ofL w) (p : Int) := by
      rw [hg, hgs]
      intro h
      have h2 : S[j] = w[p] := UInt8.toNat_inj.1 (by have h3 : ((S[j]).toNat : Int) = ((w[p]).toNat : Int) := h; omega)
      rw [← ej0] at h2
      have := (List.getElem_inj hn).1 h2
      omega
     refine Tot.step (fun k => by rw [spec_l4Next.l1]) (Tot.pos (by omega) (Tot.pos (by rw [ofL_size]; omega) (Tot.pos (by omega) (Tot.pos (by rw [ofL_size]; omega) (Tot.neg hne ?_)))))
     rw [w64 (by omega) (by omega)]
     exact ihd (j + 1) (by omega)
   exact find j0 0 (by omega)
 have := key w.length (Nat.le_refl _)
 rw [List.take_length, Nat.sub_self] at this
 unfold spec_l4Next.f
 rw [ofL_size, w64 (by omega) (by omega)]
 exact this
def ofLs (l : List (List UInt8)) : List ByteArray := l.map ofL
theorem words_small (S : List UInt8) (hS : S.length ≤ 4) (k : Nat) (hk : k ≤ 4) : (words S k).length ≤ 256 := by
 rw [words_count]
 calc S.length ^ k ≤ 4 ^ k := Nat.pow_le_pow_left hS k
  _ ≤ 4 ^ 4 := Nat.pow_le_pow_right (by omega) hk
theorem upTo_small (S : List UInt8) (hS : S.length ≤ 4) : ∀ (k : Nat), k ≤ 4 → (upTo S k).length ≤ 1 + 256 * k
 | 0, _ => by simp [upTo]
 | k + 1, h => by
  rw [upTo, List.length_append]
  have := upTo_small S hS k (by omega)
  have := words_small S hS (k + 1) h
  omega
theorem impl_wordsUpTo.tot (S : List UInt8) (hS : S.length ≤ 4) (n : Nat) (hn : n ≤ 4) : Tot (fun k => impl_wordsUpTo.f k (ofL S) n) (fun r => r = ofLs (upTo S n)) := by
 have level : ∀ (m : Nat), m < n → ∀ P : List ByteArray → Prop, (∀ (X : List ByteArray), X = ofLs (upTo S (m + 1)) → ∀ (Y : List ByteArray), Y = ofLs (words S (m + 1)) → Tot (fun k => impl_wordsUpTo.l0 k (ofL S) X Y (n : Int) ((m + 1 : Nat) : Int)) P) →
   Tot (fun k => impl_wordsUpTo.l1 k (ofL S) (ofLs (upTo S m)) [] (n : Int) (m : Int) (ofLs (words S m)) ((ofLs (words S m)).length : Int) 0) P := by
  intro m hm P hP
  have hlen : (ofLs (words S m)).length = (words S m).length := List.length_map _
  have hb := words_small S hS m (by omega)
  have hb2 := words_small S hS (m + 1) (by omega)
  have outer : ∀ (d i : Nat), i + d = (words S m).length → Tot (fun k => impl_wordsUpTo.l1 k (ofL S) (ofLs (upTo S m)) (ofLs (((words S m).take i).flatMap fun w => S.map fun c => w ++ [c])) (n : Int) (m : Int) (ofLs (words S m)) ((ofLs (words S m)).length : Int) (i : Int)) P := by
   intro d
   induction d with
   | zero =>
    intro i hi
    refine Tot.step (fun k => by rw [impl_wordsUpTo.l1]) (Tot.neg (by omega) (Tot.pos ?_ ?_))
    ·have := upTo_small S hS m (by omega)
     rw [List.take_of_length_le (by omega)]
     have e : ((words S m).flatMap fun w => S.map fun c => w ++ [c]) = words S (m + 1) := rfl
     rw [e]
     unfold ofLs
     rw [List.length_map, List.length_map]
     omega
    rw [w64 (by omega) (by omega)]
    have e : ((words S m).take i).flatMap (fun w => S.map fun c => w ++ [c]) = words S (m + 1) := by rw [List.take_of_length_le (by omega)]; rfl
    rw [e]
    refine hP _ ?_ _ rfl
    unfold ofLs
    rw [upTo, List.map_append]
   | succ d ih =>
    intro i hi
    have hil : i < (words S m).length := by omega
    have hw := words_length S m _ (List.getElem_mem hil)
    obtain ⟨wd, hwd⟩ : ∃ wd, (words S m)[i] = wd := ⟨_, rfl⟩
    rw [hwd] at hw
    have hrd : rdOf ByteArray.empty (ofLs (words S m)) (i : Int) = ofL wd := by
     unfold rdOf ofLs
     rw [List.getD_eq_getElem?_getD, show ((i : Int)).toNat = i by omega, List.getElem?_map, List.getElem?_eq_getElem hil, hwd]; rfl
    have htk : (words S m).take (i + 1) = (words S m).take i ++ [wd] := by rw [List.take_succ_eq_append_getElem hil, hwd]
    refine Tot.step (fun k => by rw [impl_wordsUpTo.l1]) (Tot.pos (by omega) (Tot.pos (by omega) (Tot.pos (by omega) ?_)))
    rw [hrd, ofL_size]
    have inner : ∀ (e j : Nat), j + e = S.length → Tot (fun k => impl_wordsUpTo.l2 k (ofL S) (ofLs (upTo S m)) (ofLs ((((words S m).take i).flatMap fun w => S.map fun c => w ++ [c]) ++ ((S.take j).map fun c => wd ++ [c]))) (ofL wd) (n : Int) (m : Int) (ofLs (words S m)) ((ofLs (words S m)).length : Int) (i : Int) (S.length : Int) (j : Int)) P := by
     intro e
     induction e with
     | zero =>
      intro j hj
      refine Tot.step (fun k => by rw [impl_wordsUpTo.l2]) (Tot.neg (by omega) ?_)
      rw [w64 (by omega) (by omega)]
      have := ih (i + 1) (by omega)
      rw [htk, List.flatMap_append] at this
      have e : S.take j = S := List.take_of_length_le (by omega)
      rw [e]
      simpa using this
     | succ e ihe =>
      intro j hj
      have hjS : j < S.length := by omega
      have hex : (ofL S).extract ((j : Int)).toNat ((j : Int) + 1).toNat = ofL [S[j]] := by
       rw [ex_ofL, show ((j : Int)).toNat = j by omega, show ((j : Int) + 1).toNat = j + 1 by omega, part_one (t := (ofL S).data.toList) (by rw [ofL_list]; omega)]
       rfl
      have hcount : (((words S m).take i).flatMap fun w => S.map fun c => w ++ [c]).length ≤ 256 * 4 := by
       rw [List.length_flatMap]
       have e1 : (((words S m).take i).map fun w => (S.map fun c => w ++ [c]).length) = ((words S m).take i).map fun _ => S.length := by
        apply List.map_congr_left; intro w _; simp
       rw [e1, List.map_const', List.sum_replicate_nat, List.length_take]
       exact Nat.mul_le_mul (by omega) hS
      refine Tot.step (fun k => by rw [impl_wordsUpTo.l2]) (Tot.pos (by omega) (Tot.pos (by omega) ?_))
      rw [w64 (x := (j : Int) + 1) (by omega) (by omega), hex, ofL_append, ofL_size, ofL_size]
      refine Tot.pos (by omega) (Tot.pos (by omega) (Tot.pos (by rw [ofL_size, hw]; simp; omega) (Tot.pos ?_ ?_)))
      ·unfold ofLs
       rw [List.length_map, List.length_append, List.length_map, List.length_take]
       omega
      have e2 : ofLs ((((words S m).take i).flatMap fun w => S.map fun c => w ++ [c]) ++ ((S.take j).map fun c => wd ++ [c])) ++ [ofL (wd ++ [S[j]])] = ofLs ((((words S m).take i).flatMap fun w => S.map fun c => w ++ [c]) ++ ((S.take (j + 1)).map fun c => wd ++ [c])) := by
       have e3 : ((S.take (j + 1)).map fun c => wd ++ [c]) = ((S.take j).map fun c => wd ++ [c]) ++ [wd ++ [S[j]]] := by rw [List.take_succ_eq_append_getElem hjS, List.map_append]; rfl
       unfold ofLs
       rw [e3, ← List.append_assoc]
       exact (List.map_append (f := ofL) (l₂ := [wd ++ [S[j]]])).symm
      rw [e2]
      exact ihe (j + 1) (by omega)
    have h0 := inner S.length 0 (by omega)
    rw [List.take_zero, List.map_nil, List.append_nil] at h0
    exact h0
  have h0 := outer (words S m).length 0 (by omega)
  rw [List.take_zero, List.flatMap_nil] at h0
  exact h0
 have run : ∀ (d m : Nat), m + d = n → Tot (fun k => impl_wordsUpTo.l0 k (ofL S) (ofLs (upTo S m)) (ofLs (words S m)) (n : Int) (m : Int)) (fun r => r = ofLs (upTo S n)) := by
  intro d
  induction d with
  | zero =>
   intro m hm
   refine Tot.step (fun k => by rw [impl_wordsUpTo.l0]) (Tot.neg (by omega) (Tot.ret ?_))
   rw [show m = n by omega]
  | succ d ih =>
   intro m hm
   refine Tot.step (fun k => by rw [impl_wordsUpTo.l0]) (Tot.pos (by omega) (level m (by omega) _ ?_))
   rintro _ rfl _ rfl
   exact ih (m + 1) (by omega)
 exact run n 0 (by omega)
end Go.Proofs.YtiibnkibckklgaaDoor.P
namespace Go.Proofs.YtiibnkibckklgaaDoor.P
set_option linter.unusedVariables false
set_option linter.unusedSimpArgs false
open Go.RowKit Go.Maps Go.Proofs.YtiibnkibckklgaaDoorW.PrintWords
open Classical in
noncomputable def splitB (D : DataW Unit) (t : ByteArray) (r : List UInt8) (i j : Nat) : Bool := decide (SplitP (chartD D) t.data.toList r i j)
open Classical in
theorem splitB_iff {D : DataW Unit} {t : ByteArray} {r : List UInt8} {i j : Nat} : splitB D t r i j = true ↔ SplitP (chartD D) t.data.toList r i j := by unfold splitB; exact decide_eq_true_iff
set_option maxHeartbeats 4000000 in
set_option maxRecDepth 100000 in
theorem split_calls (cb mb n : Nat) (gv : Array Value) (t : ByteArray) (D : DataW Unit) (ht : t.size ≤ 1000000) : ∀ (r : List UInt8) (i j : Nat) (w : World), r.length ≤ 1000 → ChartAt w cb mb n gv t D → i ≤ j → j ≤ t.size →
  Calls Tryd.prog 155 #[.pointer (some ⟨cb, 0, none⟩), .string (ofL r), .int .i64 i, .int .i64 j] w fun e w' => e = .returned (.bool (splitB D t r i j)) ∧ Below w.heap.size w w' := by
 intro r
 induction r with
 | nil =>
  intro i j w hl hA hij hj
  have hres : splitB D t [] i j = ((i : Int) == (j : Int)) := by
   rw [Bool.eq_iff_iff, splitB_iff, beq_iff_eq]
   show i = j ↔ _
   omega
  rw [hres]
  have he : ofL [] = (⟨#[]⟩ : ByteArray) := rfl
  rw [he]
  go_enter Tryd.func155, Tryd.ntmps155
  go_wp2_with fail
  go_ret
  exact ⟨rfl, Below.refl _ _⟩
 | cons c r ih =>
  intro i j w hl hA hij hj
  have hl' : r.length ≤ 999 := by simp at hl; omega
  have hs1 : (ofL (c :: r)).extract 0 1 = ⟨#[c]⟩ := by rw [ex_ofL, part_one (t := (ofL (c :: r)).data.toList) (by rw [ofL_list]; simp)]; rfl
  have hs2 : (ofL (c :: r)).extract 1 (r.length + 1) = ofL r := by
   rw [ex_ofL, ofL_list]
   unfold part
   simp
  have hsz : (ofL (c :: r)).size = r.length + 1 := by rw [ofL_size]; simp
  have hne : ((ofL (c :: r)).toList == []) = false := by rw [bytes_toList]; rfl
  have Hres := Lib.hid (splitB_iff (D := D) (t := t) (r := c :: r) (i := i) (j := j))
  generalize hz : splitB D t (c :: r) i j = z at Hres
  clear hz
  generalize ofL (c :: r) = s at hs1 hs2 hsz hne
  have Hih := Lib.hid (fun i j w => ih i j w (by omega))
  have HA := Lib.hid hA
  clear ih hA
  generalize ofL r = s1 at Hih hs2
  go_enter Tryd.func155, Tryd.ntmps155
  go_wp2_with fail
  go_loopg [9] (j + 1 - i) (fun gk v9 wr => ∃ m : Nat, v9 = .int .i64 m ∧ Aside0 (i ≤ m ∧ m ≤ j + 1 ∧ gk = j + 1 - m ∧ (∀ m', i ≤ m' → m' < m → ¬ (DerP (chartD D) t.data.toList c i m' ∧ SplitP (chartD D) t.data.toList r m' j))) ∧ Aside0 (Below w.heap.size w wr))
  case atStart => exact ⟨i, rfl, Aside0.mk ⟨Nat.le_refl _, by omega, rfl, fun m' h1 h2 => by omega⟩, Aside0.mk (Below.refl _ _)⟩
  case round =>
   obtain ⟨m, rfl, HM, HB⟩ := hrel
   have HAr := Lib.hid (HA.out.below HB.out)
   have hm1 := HM.out.1
   have hm2 := HM.out.2.1
   by_cases hmj : m ≤ j
   case neg =>
    have hmz : ¬ (m : Int) ≤ (j : Int) := by omega
    have hzf : z = false := by
     rw [Bool.eq_false_iff]
     intro h
     obtain ⟨m', h1, h2, h3, h4⟩ := Hres.out.1 h
     exact HM.out.2.2.2 m' h1 (by omega) ⟨h3, h4⟩
    go_wp2_with fail
    go_ret
    exact ⟨by first | rfl | (rw [hzf]; rfl), HB.out⟩
   case pos =>
    have hmz : (m : Int) ≤ (j : Int) := by omega
    have Hd := Lib.hid (fun W (hW : Below w.heap.size w W) => derives_calls cb mb n gv t D c i m W (HA.out.below hW) hm1 (by omega) ht)
    have Hs := Lib.hid (fun W (hW : Below w.heap.size w W) => Hih.out m j W (HA.out.below hW) hmj hj)
    have hdi := Lib.hid (derB_iff (D := D) (t := t) (c := c) (i := i) (j := m))
    have hsi := Lib.hid (splitB_iff (D := D) (t := t) (r := r) (i := m) (j := j))
    clear Hih
    generalize derB D t c i m = db at Hd hdi
    generalize splitB D t r m j = sb at Hs hsi
    cases db
    case false =>
     go_wp2_with (first
      | (go_at_call 134; refine (Hd.out _ HB.out).mono ?_; rintro e w' ⟨rfl, hB1⟩))
     go_roundg (j + 1 - (m + 1))
     case measure => have := HM.out; omega
     case rel =>
      refine ⟨m + 1, by first | rfl | go_num, Aside0.mk ⟨by omega, by omega, rfl, fun m' h1 h2 => ?_⟩, Aside0.mk (below_step HB.out hB1)⟩
      by_cases e : m' = m
      ·subst e; exact fun h => absurd (hdi.out.2 h.1) (by simp)
      exact HM.out.2.2.2 m' h1 (by omega)
    case true =>
     cases sb
     case false =>
      go_wp2_with (first
       | (go_at_call 134; refine (Hd.out _ HB.out).mono ?_; rintro e w' ⟨rfl, hB1⟩)
       | (go_at_call 155; refine (Hs.out _ (below_step HB.out hB1)).mono ?_; rintro e w2 ⟨rfl, hB2⟩))
      go_roundg (j + 1 - (m + 1))
      case measure => have := HM.out; omega
      case rel =>
       refine ⟨m + 1, by first | rfl | go_num, Aside0.mk ⟨by omega, by omega, rfl, fun m' h1 h2 => ?_⟩, Aside0.mk (below_step (below_step HB.out hB1) hB2)⟩
       by_cases e : m' = m
       ·subst e; exact fun h => absurd (hsi.out.2 h.2) (by simp)
       exact HM.out.2.2.2 m' h1 (by omega)
     case true =>
      have hzt : z = true := Hres.out.2 ⟨m, hm1, hmj, hdi.out.1 rfl, hsi.out.1 rfl⟩
      go_wp2_with (first
       | (go_at_call 134; refine (Hd.out _ HB.out).mono ?_; rintro e w' ⟨rfl, hB1⟩)
       | (go_at_call 155; refine (Hs.out _ (below_step HB.out hB1)).mono ?_; rintro e w2 ⟨rfl, hB2⟩))
      go_ret
      exact ⟨by first | rfl | (rw [hzt]; rfl), below_step (below_step HB.out hB1) hB2⟩
end Go.Proofs.YtiibnkibckklgaaDoor.P
namespace Go.Proofs.YtiibnkibckklgaaDoor.P
set_option linter.unusedVariables false
set_option linter.unusedSimpArgs false
open Go.RowKit Go.Proofs.YtiibnkibckklgaaDoorW.PrintWords
theorem oneBig_iff (s : ByteArray) : oneBig s = true ↔ ∃ c, s.data.toList = [c] ∧ isBigB c = true := by
 unfold oneBig
 constructor
 ·intro h
  split at h
  ·exact ⟨_, ‹_›, h⟩
  cases h
 rintro ⟨c, e, h⟩
 rw [e]; exact h
theorem rulesOkB_mem {l : List RuleS} : ∀ {r : List RuleS} {i : Nat}, rulesOkB l i r = true → ∀ x ∈ r, oneBig x.f0 = true ∧ x.f1.size ≤ 4 ∧ x.f1.data.toList.all isSignB = true
 | [], _, _, x, hx => by cases hx
 | a :: r, i, h, x, hx => by
  rw [rulesOkB, Bool.and_eq_true, ruleOkB, Bool.and_eq_true, Bool.and_eq_true, Bool.and_eq_true] at h
  rcases List.mem_cons.1 hx with rfl | hx
  ·exact ⟨h.1.1.1, by have := of_decide_eq_true h.1.1.2.1; omega, h.1.1.2.2⟩
  exact rulesOkB_mem h.2 x hx
structure GoodG (s : ByteArray) (l : List RuleS) : Prop where
 start : ∃ c, s.data.toList = [c] ∧ isBigB c = true
 few : l.length ≤ 8
 rule : ∀ x ∈ l, (∃ c, x.f0.data.toList = [c] ∧ isBigB c = true) ∧ x.f1.size ≤ 4 ∧ x.f1.data.toList.all isSignB = true
theorem gramOkB_good {s : ByteArray} {l : List RuleS} (h : gramOkB s l = true) : GoodG s l := by
 rw [gramOkB, Bool.and_eq_true, Bool.and_eq_true] at h
 refine ⟨(oneBig_iff s).1 h.1.1, of_decide_eq_true h.1.2, fun x hx => ?_⟩
 have := rulesOkB_mem h.2 x hx
 exact ⟨(oneBig_iff _).1 this.1, this.2⟩
theorem GoodG.tiny {s : ByteArray} {l : List RuleS} (h : GoodG s l) : s.size ≤ 1 ∧ ∀ x ∈ l, x.f0.size ≤ 1 ∧ x.f1.size ≤ 4 := by
 obtain ⟨c, e, _⟩ := h.start
 refine ⟨by rw [size_toList, e]; exact Nat.le_refl _, fun x hx => ?_⟩
 obtain ⟨⟨d, e2, _⟩, h2, _⟩ := h.rule x hx
 exact ⟨by rw [size_toList, e2]; exact Nat.le_refl _, h2⟩
theorem mem_prods {l : List RuleS} {p : UInt8 × List UInt8} : p ∈ prods l ↔ ∃ x ∈ l, p = (x.f0.data.toList.headD 0, x.f1.data.toList) := by
 unfold prods
 rw [List.mem_map]
 constructor
 ·rintro ⟨x, hx, rfl⟩; exact ⟨x, hx, rfl⟩
 rintro ⟨x, hx, rfl⟩; exact ⟨x, hx, rfl⟩
def prodOf (x : RuleS) : UInt8 × List UInt8 := (x.f0.data.toList.headD 0, x.f1.data.toList)
theorem GoodG.prod {s : ByteArray} {l : List RuleS} (h : GoodG s l) {x : RuleS} (hx : x ∈ l) : x.f0 = ⟨#[(prodOf x).1]⟩ ∧ isBigB (prodOf x).1 = true ∧ prodOf x ∈ prods l ∧ (prodOf x).2.length ≤ 4 ∧ (∀ c ∈ (prodOf x).2, isSignB c = true) := by
 obtain ⟨⟨c, e, hb⟩, h2, h3⟩ := h.rule x hx
 have e1 : (prodOf x).1 = c := by unfold prodOf; rw [e]; rfl
 refine ⟨bytes_ext (by rw [e1, e]), by rw [e1]; exact hb, mem_prods.2 ⟨x, hx, rfl⟩, ?_, fun d hd => List.all_eq_true.1 h3 d hd⟩
 show x.f1.data.toList.length ≤ 4
 rw [← size_toList]; exact h2
theorem one_bytes {s : ByteArray} {c : UInt8} (h : s.data.toList = [c]) : s = ⟨#[c]⟩ := bytes_ext h
def Comes (s : ByteArray) (l : List RuleS) (t : ByteArray) : Prop := Gen (prods l) s.data.toList t.data.toList
open Classical in
noncomputable def comesB (s : ByteArray) (l : List RuleS) (t : ByteArray) : Bool := decide (Comes s l t)
open Classical in
theorem comesB_iff {s : ByteArray} {l : List RuleS} {t : ByteArray} : comesB s l t = true ↔ Comes s l t := by unfold comesB; exact decide_eq_true_iff
noncomputable def impl_isDerived.f (a0_0 : ByteArray) (l0_1 : List (S46)) (a1 : ByteArray) : Option (Bool) := if gramOkB a0_0 l0_1 = true ∧ a1.size ≤ 1000 then some (comesB a0_0 l0_1 a1) else none
theorem impl_isDerived.is {s : ByteArray} {l : List RuleS} {t : ByteArray} (h : gramOkB s l = true) (ht : t.size ≤ 1000) : impl_isDerived.f s l t = some (comesB s l t) := by unfold impl_isDerived.f; rw [if_pos ⟨h, ht⟩]
noncomputable def spec_l4Is.f (a0_0 : ByteArray) (l0_1 : List (S46)) (a1 : ByteArray) : Option (Bool) := if gramOkB a0_0 l0_1 = true ∧ a1.size ≤ 1000 then some (comesB a0_0 l0_1 a1) else none
theorem spec_l4Is.is {s : ByteArray} {l : List RuleS} {t : ByteArray} (h : gramOkB s l = true) (ht : t.size ≤ 1000) : spec_l4Is.f s l t = some (comesB s l t) := by unfold spec_l4Is.f; rw [if_pos ⟨h, ht⟩]
end Go.Proofs.YtiibnkibckklgaaDoor.P
