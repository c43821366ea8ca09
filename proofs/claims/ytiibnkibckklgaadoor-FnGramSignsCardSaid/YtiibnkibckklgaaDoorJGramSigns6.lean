-- Joined texts of a claim (wip/tools/bundle.py).
import Derived.Test.YtiibnkibckklgaaDoorJGramSigns5
namespace Go.Proofs.YtiibnkibckklgaaDoor.P
set_option linter.unusedVariables false
set_option linter.unusedSimpArgs false
open Go.RowKit Go.Proofs Go.Shelf Go.Proofs.YtiibnkibckklgaaDoorW.PrintWords
theorem signS_big : ∀ n, n < 256 → oneBig (signS (n : Nat)) = isBigB (UInt8.ofNat n) := by decide +kernel
theorem signS_small : ∀ n, n < 256 → oneSmall (signS (n : Nat)) = isSmallB (UInt8.ofNat n) := by decide +kernel
theorem signBig_gives (W : World) (x : Int) : FnGives Tryd.prog 28 #[] #[.string (signS x)] (.bool (oneBig (signS x))) W := by
  refine (impl_SignBig.calls (signS x) _ W (impl_SignBig.is _)).mono ?_
  rintro e w' ⟨rfl, h⟩
  exact ⟨rfl, h.out⟩
theorem impl_SignSmall.is (s : ByteArray) : impl_SignSmall.f s = some (oneSmall s) := by
  unfold impl_SignSmall.f impl_isIn.f oneSmall
  rcases one_cases s with ⟨h, c, e, hb⟩ | ⟨h, e⟩
  · rw [if_pos (by omega), if_pos (by omega), hb, e]
    have := isSmallB_iff c
    by_cases h1 : (c.toNat : Int) ≥ 97
    · rw [if_pos h1]; simp only [Option.bind_some]; congr 1; rw [Bool.eq_iff_iff, decide_eq_true_eq, this]; omega
    · rw [if_neg h1]; simp only [Option.bind_some]; congr 1; symm; rw [Bool.eq_false_iff]; intro h; rw [this] at h; omega
  · rw [if_neg (by omega)]
    split
    · exact absurd ‹_› (e _)
    · rfl
theorem signSmall_gives (W : World) (x : Int) : FnGives Tryd.prog 29 #[] #[.string (signS x)] (.bool (oneSmall (signS x))) W := by
  refine (impl_SignSmall.calls (signS x) _ W (impl_SignSmall.is _)).mono ?_
  rintro e w' ⟨rfl, h⟩
  exact ⟨rfl, h.out⟩
theorem union_1_gives (W : World) (x : Int) : FnGives Tryd.prog 182 #[] #[.string (signS x)] (.bool true) W := by
  show Calls Tryd.prog 182 #[.string (signS x)] W _
  go_enter Tryd.func182, Tryd.ntmps182
  go_wp2
  go_ret
  exact ⟨rfl, 0, rfl⟩
theorem setOf_big (s : ByteArray) (w : World) (hs : s.size ≤ 1000000000000) : Calls Tryd.prog 71 #[.string s, .func (.func 28) #[] #[]] w fun e w' => e = .returned (.string (setB isBigB s)) ∧ Below w.heap.size w w' := by
  have h := impl_setOf.calls s (fun x => oneBig (signS x)) 28 #[] (enters_of Tryd.func28 (by kernel_rfl) rfl) w hs (fun W x _ => signBig_gives W x)
  rwa [setB_is isBigB _ (fun c => by have := signS_big c.toNat c.toNat_lt; rwa [UInt8.ofNat_toNat] at this)] at h
theorem setOf_small (s : ByteArray) (w : World) (hs : s.size ≤ 1000000000000) : Calls Tryd.prog 71 #[.string s, .func (.func 29) #[] #[]] w fun e w' => e = .returned (.string (setB isSmallB s)) ∧ Below w.heap.size w w' := by
  have h := impl_setOf.calls s (fun x => oneSmall (signS x)) 29 #[] (enters_of Tryd.func29 (by kernel_rfl) rfl) w hs (fun W x _ => signSmall_gives W x)
  rwa [setB_is isSmallB _ (fun c => by have := signS_small c.toNat c.toNat_lt; rwa [UInt8.ofNat_toNat] at this)] at h
theorem setOf_all (s : ByteArray) (w : World) (hs : s.size ≤ 1000000000000) : Calls Tryd.prog 71 #[.string s, .func (.func 182) #[] #[]] w fun e w' => e = .returned (.string (setB (fun _ => true) s)) ∧ Below w.heap.size w w' := by
  have h := impl_setOf.calls s (fun _ => true) 182 #[] (enters_of Tryd.func182 (by kernel_rfl) rfl) w hs (fun W x _ => union_1_gives W x)
  rwa [setB_is (fun _ => true) _ (fun c => rfl)] at h
def impl_union.f (a0 : ByteArray) (a1 : ByteArray) : Option (ByteArray) := if a0.size + a1.size ≤ 1000000000000 then some (setB (fun _ => true) (a0 ++ a1)) else none
theorem impl_union.calls (a0 : ByteArray) (a1 : ByteArray) (r : ByteArray) (w : World) (h : impl_union.f a0 a1 = some r) :
    Calls Tryd.prog 152 #[.string a0, .string a1] w fun e w' => e = .returned (.string r) ∧ Below w.heap.size w w' := by
  unfold impl_union.f at h
  by_cases hs : a0.size + a1.size ≤ 1000000000000
  case neg => rw [if_neg hs] at h; cases h
  rw [if_pos hs] at h
  obtain rfl := Option.some.inj h
  have hc := fun W => setOf_all (a0 ++ a1) W (by rw [ByteArray.size_append]; exact hs)
  have hsz : a0.size + a1.size ≤ 9223372036854775807 := by omega
  clear h hs
  generalize setB (fun _ => true) (a0 ++ a1) = r at hc ⊢
  go_enter Tryd.func152, Tryd.ntmps152
  go_wp2_with (go_at_call 71; refine (hc _).mono ?_; rintro e w' ⟨rfl, hB⟩)
  go_ret
  exact ⟨rfl, hB⟩
end Go.Proofs.YtiibnkibckklgaaDoor.P
namespace Go.Proofs.YtiibnkibckklgaaDoor.P
open Go.RowKit Go.Proofs.YtiibnkibckklgaaDoorW.PrintWords Go.Proofs.YtiibnkibckklgaaDoorW.PrintLast Go.Proofs.YtiibnkibckklgaaDoorW.PrintMore
attribute [local go_sem] max2_int min2_int max_two min_two max_three min_three max_four min_four   -- for this text's walks alone
set_option linter.unusedVariables false
set_option linter.unusedSimpArgs false
/-! ### impl_everySign: function 72 -/
def impl_everySign.l0 : Nat → ByteArray → List (S46) → Int → Int → Option (ByteArray)
 | 0, _, _, _, _ => none
 | k + 1, x3, x9, x10, x11 => if x11 < x10 then (if 0 ≤ x11 then (if x11 < (x9.length : Int) then (if ((rd_T46 x9 x11).f0).size + ((rd_T46 x9 x11).f1).size ≤ 9223372036854775807 then (if x3.size + (((rd_T46 x9 x11).f0) ++ ((rd_T46 x9 x11).f1)).size ≤ 9223372036854775807 then (impl_everySign.l0 k (x3 ++ (((rd_T46 x9 x11).f0) ++ ((rd_T46 x9 x11).f1))) x9 x10 (wrap64 (x11 + 1))) else (none)) else (none)) else (none)) else (none)) else (some x3)
def impl_everySign.f (k : Nat) (a0_0 : ByteArray) (l0_1 : List (S46)) : Option (ByteArray) := impl_everySign.l0 k a0_0 l0_1 (l0_1.length : Int) 0
theorem impl_everySign.mono_l : ∀ k, (∀ y0 y1 y2 y3, LeO (impl_everySign.l0 k y0 y1 y2 y3) (impl_everySign.l0 (k + 1) y0 y1 y2 y3))
 | 0 => fun _ _ _ _ r h => by simp [impl_everySign.l0] at h
 | k + 1 => by
  have ih0 := impl_everySign.mono_l k
  ·intro y0 y1 y2 y3
   unfold impl_everySign.l0
   repeat' first
   | (with_reducible exact ih0 _ _ _ _)
   | (with_reducible exact LeO.refl _)
   | (with_reducible exact LeO.none _)
   | (with_reducible refine LeO.ite ?_ ?_)
   | (with_reducible refine LeO.bind ?_ (fun _ => ?_))
   | exact ih0 _ _ _ _
   | exact LeO.none _
   | refine LeO.ite ?_ ?_
   | refine LeO.bind ?_ (fun _ => ?_)
theorem impl_everySign.mono : ∀ a0 a1 k, LeO (impl_everySign.f k a0 a1) (impl_everySign.f (k + 1) a0 a1) := by
 intro a0 a1 k
 have ih0 := impl_everySign.mono_l k
 unfold impl_everySign.f
 repeat' first
   | (with_reducible exact ih0 _ _ _ _)
   | (with_reducible exact LeO.refl _)
   | (with_reducible exact LeO.none _)
   | (with_reducible refine LeO.ite ?_ ?_)
   | (with_reducible refine LeO.bind ?_ (fun _ => ?_))
   | exact ih0 _ _ _ _
   | exact LeO.none _
   | refine LeO.ite ?_ ?_
   | refine LeO.bind ?_ (fun _ => ?_)
set_option maxHeartbeats 8000000 in
set_option maxRecDepth 100000 in
theorem impl_everySign.calls (k : Nat) (a0_0 : ByteArray) (A0_1 : Option Addr) (c0_1 : Nat) (l0_1 : List (S46)) (r : ByteArray) (w : World) (hr0_1 : Kd.C k46 w A0_1 l0_1.length l0_1) (hc0_1 : l0_1.length ≤ c0_1) (h : impl_everySign.f k a0_0 l0_1 = some r) :
  Calls Tryd.prog 72 #[.agg #[.string a0_0, .slice A0_1 l0_1.length c0_1]] w fun e w' => e = .returned (.string r) ∧ Below w.heap.size w w' := by
 have hu25 := Tryd.underlying25
 have hu46 := Tryd.underlying46
 have HR0_1 := Aside0.mk hr0_1
 have HC0_1 := Aside0.mk hc0_1
 clear hr0_1 hc0_1
 have HB := Aside0.mk (Below.refl w.heap.size w)
 have H : (impl_everySign.l0 k a0_0 l0_1 (l0_1.length : Int) 0) = some r := h
 clear h
 have H' := Aside0.mk H
 clear H
 go_enter Tryd.func72, Tryd.ntmps72
 go_wp2_with (first | ((with_reducible refine gate_dst (N := 1) rfl ?_); refine box_event ?hg (N := 1) ?hd (cs := #[.string a0_0, .slice A0_1 l0_1.length c0_1]) (t := 25) ?hr ?_; (case hd => rfl); (case hg => rfl); (case hr => first | (go_simp; done) | (go_simp; rfl)); intro gb101 hg w2 hbox hb; have n0_ := Aside0.mk (below_step (by repeat (first | (with_reducible first | exact HB.out | apply below_alloc | apply pw_below_drewN | apply below_drew1) | exact HB.out)) hb); have n1_ := Aside0.mk (hbox); have n2_ := Aside0.mk ((by rw [hg]; exact (below_size (by repeat (first | (with_reducible first | exact HB.out | apply below_alloc | apply pw_below_drewN | apply below_drew1) | exact HB.out))) : w.heap.size ≤ gb101)); have n3_ := Aside0.mk ((by rw [hg]; exact (below_size (by repeat (first | (with_reducible first | exact HB.out | apply below_alloc | apply pw_below_drewN | apply below_drew1) | exact HB.out))) : w.heap.size ≤ gb101)); clear HB; have HB := n0_; have BK101 := n1_; have GW101 := n2_; have GE101 := n3_; clear n0_ n1_ n2_ n3_; clear hb hbox hg; have hcz3_0 : w2.cell? ⟨gb101, 0, none⟩ = some (.string a0_0) := (blk_cell BK101.out 0).trans rfl; have hcz3_1 : w2.cell? ⟨gb101, 1, none⟩ = some (.slice A0_1 l0_1.length c0_1) := (blk_cell BK101.out 1).trans rfl; have hfz3_0 := blk_frozen BK101.out 0; have hfz3_1 := blk_frozen BK101.out 1))
 go_loopg [3, 11] k (fun kq v3 v11 w' => ∃ (x3_1 : ByteArray) (x11_1 : Int), v3 = .string x3_1 ∧ v11 = .int .i64 x11_1 ∧ Aside0 (impl_everySign.l0 kq x3_1 l0_1 (l0_1.length : Int) x11_1 = some r) ∧ Aside0 (kq ≤ k) ∧ Aside0 (w'.heap[gb101]? = some (.cells #[.string a0_0, (.slice A0_1 l0_1.length c0_1)] 25 (0, 0))) ∧ Aside0 (Below w.heap.size w w'))
 case atStart => exact ⟨(a0_0), (0), (by first | rfl | (simp; done) | (simp [*]; done)), (by first | rfl | (simp; done) | (simp [*]; done)), H', ⟨Nat.le_refl _⟩, ⟨by (with_reducible repeat (first | refine blk_drewN ?_ _ | refine blk_drew ?_ | refine blk_alloc ?_ _)); exact BK101.out⟩, ⟨by repeat (first | (with_reducible first | exact HB.out | apply below_alloc | apply pw_below_drewN | apply below_drew1 | refine below_set ?_ GE101.out) | exact HB.out)⟩⟩
 case round =>
  clear H'
  try clear p2
  try clear hcz3_0
  try clear hcz3_1
  try clear hfz3_0
  try clear hfz3_1
  obtain ⟨x3_1, x11_1, rfl, rfl, HA, HK1, BK101, HB⟩ := hrel
  cases gk with
  | zero => exact absurd HA.out (by simp [impl_everySign.l0])
  | succ k1 =>
   have H := HA.out
   clear HA
   simp only [impl_everySign.l0] at H
   by_cases c4 : x11_1 < (l0_1.length : Int)
   ·rw [if_pos c4] at H
    have c4b0 : decide (x11_1 < (l0_1.length : Int)) = true := decide_eq_true c4
    clear c4
    by_cases c5 : 0 ≤ x11_1
    ·rw [if_pos c5] at H
     have c5b0 : decide (0 ≤ x11_1) = true := decide_eq_true c5
     clear c5
     by_cases c6 : x11_1 < (l0_1.length : Int)
     ·rw [if_pos c6] at H
      have c6b0 : decide (x11_1 < (l0_1.length : Int)) = true := decide_eq_true c6
      clear c6
      by_cases c7 : ((rd_T46 l0_1 x11_1).f0).size + ((rd_T46 l0_1 x11_1).f1).size ≤ 9223372036854775807
      ·rw [if_pos c7] at H
       have c7b0 := eq_true c7
       have c7b1 : decide (((rd_T46 l0_1 x11_1).f0).size + ((rd_T46 l0_1 x11_1).f1).size ≤ 9223372036854775807) = true := decide_eq_true c7
       try have c7b2 : (9223372036854775807 < ((rd_T46 l0_1 x11_1).f0).size + ((rd_T46 l0_1 x11_1).f1).size) = False := eq_false (Nat.not_lt.2 c7)
       by_cases c8 : x3_1.size + (((rd_T46 l0_1 x11_1).f0) ++ ((rd_T46 l0_1 x11_1).f1)).size ≤ 9223372036854775807
       ·rw [if_pos c8] at H
        have c8b0 := eq_true c8
        have c8b1 : decide (x3_1.size + (((rd_T46 l0_1 x11_1).f0) ++ ((rd_T46 l0_1 x11_1).f1)).size ≤ 9223372036854775807) = true := decide_eq_true c8
        try have c8b2 : (9223372036854775807 < x3_1.size + (((rd_T46 l0_1 x11_1).f0) ++ ((rd_T46 l0_1 x11_1).f1)).size) = False := eq_false (Nat.not_lt.2 c8)
        have H' := Aside0.mk H
        clear H
        have p102 : 0 ≤ (x11_1 : Int) := of_decide_eq_true (by first | (with_reducible assumption) | assumption)
        have q102 : x11_1 < (l0_1.length : Int) := of_decide_eq_true (by first | (with_reducible assumption) | assumption)
        obtain ⟨ad102, e102, hx102_0, hx102_1⟩ := at_T46 HR0_1.out x11_1 p102 q102
        cases e102
        replace hx102_0 := (HB.out.cell (World.block_lt_of_cell? w _ hx102_0)).trans hx102_0
        replace hx102_1 := (HB.out.cell (World.block_lt_of_cell? w _ hx102_1)).trans hx102_1
        replace p102 := eq_true p102
        replace q102 := eq_true q102
        go_wp2_with (first | ((with_reducible refine gate_dst (N := 5) rfl ?_); refine box_event ?hg (N := 5) ?hd (cs := #[.string (⟨#[]⟩ : ByteArray), .string (⟨#[]⟩ : ByteArray)]) (t := 46) ?hr ?_; (case hd => rfl); (case hg => rfl); (case hr => first | (go_simp; done) | (go_simp; rfl)); intro gb103 hg w9 hbox hb; have n0_ := Aside0.mk (blk_below (g := gb101) (o := .cells #[.string a0_0, .slice (some ad102) l0_1.length c0_1] 25 (0, 0)) (by (with_reducible repeat (first | refine blk_drewN ?_ _ | refine blk_drew ?_ | refine blk_alloc ?_ _)); exact BK101.out) hb); have n1_ := Aside0.mk (below_step (by repeat (first | (with_reducible first | exact HB.out | apply below_alloc | apply pw_below_drewN | apply below_drew1 | refine below_set ?_ GE101.out) | exact HB.out)) hb); have n2_ := Aside0.mk (hbox); have n3_ := Aside0.mk ((by rw [hg]; exact (below_size (by repeat (first | (with_reducible first | exact HB.out | apply below_alloc | apply pw_below_drewN | apply below_drew1 | refine below_set ?_ GE101.out) | exact HB.out))) : w.heap.size ≤ gb103)); have n4_ := Aside0.mk ((by rw [hg]; exact (below_size (by repeat (first | (with_reducible first | exact HB.out | apply below_alloc | apply pw_below_drewN | apply below_drew1 | refine below_set ?_ GE101.out) | exact HB.out))) : w.heap.size ≤ gb103)); have n5_ := Aside0.mk ((by rw [hg]; exact Nat.ne_of_lt (blk_lt (g := gb101) (o := .cells #[.string a0_0, .slice (some ad102) l0_1.length c0_1] 25 (0, 0)) (by (with_reducible repeat (first | refine blk_drewN ?_ _ | refine blk_drew ?_ | refine blk_alloc ?_ _)); exact BK101.out)) : gb101 ≠ gb103)); have n6_ := Aside0.mk ((by rw [hg]; exact Nat.ne_of_gt (blk_lt (g := gb101) (o := .cells #[.string a0_0, .slice (some ad102) l0_1.length c0_1] 25 (0, 0)) (by (with_reducible repeat (first | refine blk_drewN ?_ _ | refine blk_drew ?_ | refine blk_alloc ?_ _)); exact BK101.out)) : gb103 ≠ gb101)); clear BK101; clear HB; have BK101 := n0_; have HB := n1_; have BK103 := n2_; have GW103 := n3_; have GE103 := n4_; have NB101_103 := n5_; have NB103_101 := n6_; clear n0_ n1_ n2_ n3_ n4_ n5_ n6_; clear hb hbox hg; have hnb10 := NB103_101.out; have hnc10 := NB101_103.out; have hcz11_0 : w9.cell? ⟨gb103, 0, none⟩ = some (.string (⟨#[]⟩ : ByteArray)) := (blk_cell BK103.out 0).trans rfl; have hcz11_1 : w9.cell? ⟨gb103, 1, none⟩ = some (.string (⟨#[]⟩ : ByteArray)) := (blk_cell BK103.out 1).trans rfl; have hfz11_0 := blk_frozen BK103.out 0; have hfz11_1 := blk_frozen BK103.out 1))
        go_roundg k1
        case measure => have := HK1.out; omega
        case rel => exact ⟨(x3_1 ++ (((rd_T46 l0_1 x11_1).f0) ++ ((rd_T46 l0_1 x11_1).f1))), (wrap64 (x11_1 + 1)), (by first | rfl | (simp; done) | (simp [*]; done)), (by first | rfl | (simp; done) | (simp [*]; done)), H', ⟨by have := HK1.out; omega⟩, ⟨by (with_reducible repeat (first | refine blk_drewN ?_ _ | refine blk_drew ?_ | refine blk_alloc ?_ _)); refine blk_far ?_ NB101_103.out _; (with_reducible repeat (first | refine blk_drewN ?_ _ | refine blk_drew ?_ | refine blk_alloc ?_ _)); refine blk_far ?_ NB101_103.out _; (with_reducible repeat (first | refine blk_drewN ?_ _ | refine blk_drew ?_ | refine blk_alloc ?_ _)); exact BK101.out⟩, ⟨by repeat (first | (with_reducible first | exact HB.out | apply below_alloc | apply pw_below_drewN | apply below_drew1 | refine below_set ?_ GE101.out | refine below_set ?_ GE103.out) | exact HB.out)⟩⟩
       ·rw [if_neg c8] at H
        exact absurd H (by simp)
      ·rw [if_neg c7] at H
       exact absurd H (by simp)
     ·rw [if_neg c6] at H
      exact absurd H (by simp)
    ·rw [if_neg c5] at H
     exact absurd H (by simp)
   ·rw [if_neg c4] at H
    have c4b0 : decide (x11_1 < (l0_1.length : Int)) = false := decide_eq_false c4
    clear c4
    obtain rfl := Option.some.inj H
    go_wp2
    go_ret
    exact ⟨by first | rfl | (simp [errW_none, errW_some] <;> rfl) | (simp [*, errW_none, errW_some] <;> rfl), by repeat (first | (with_reducible first | exact HB.out | apply below_alloc | apply pw_below_drewN | apply below_drew1 | refine below_set ?_ GE101.out) | exact HB.out)⟩
end Go.Proofs.YtiibnkibckklgaaDoor.P
namespace Go.Proofs.YtiibnkibckklgaaDoor.P
set_option linter.unusedVariables false
set_option linter.unusedSimpArgs false
open Go.RowKit Go.Proofs Go.Shelf Go.Proofs.YtiibnkibckklgaaDoorW.PrintWords
def everyB (s : ByteArray) (l : List RuleS) : ByteArray := l.foldl (fun t x => t ++ (x.f0 ++ x.f1)) s
def TinyG (s : ByteArray) (l : List RuleS) : Prop := s.size ≤ 1000000 ∧ l.length ≤ 1000 ∧ ∀ x ∈ l, x.f0.size ≤ 1000000 ∧ x.f1.size ≤ 1000000
instance instTinyDec (s : ByteArray) (l : List RuleS) : Decidable (TinyG s l) := by unfold TinyG; infer_instance
theorem TinyG.small {s : ByteArray} {l : List RuleS} (h : TinyG s l) : SmallG l := ⟨by have := h.2.1; omega, fun x hx => by have := h.2.2 x hx; omega⟩
theorem everyB_size (s : ByteArray) (l : List RuleS) (n : Nat) (hs : s.size ≤ n) (h : ∀ x ∈ l, x.f0.size ≤ 1000000 ∧ x.f1.size ≤ 1000000) : (everyB s l).size ≤ n + 2000000 * l.length := by
  induction l generalizing s n with
  | nil => simpa [everyB] using hs
  | cons x l ih =>
    have hx := h x List.mem_cons_self
    have := ih (s ++ (x.f0 ++ x.f1)) (n + 2000000) (by rw [ByteArray.size_append, ByteArray.size_append]; omega) (fun y hy => h y (List.mem_cons_of_mem _ hy))
    show (everyB (s ++ (x.f0 ++ x.f1)) l).size ≤ _
    rw [List.length_cons]
    omega
theorem impl_everySign.tot (s : ByteArray) (l : List RuleS) (h : TinyG s l) : Tot (fun k => impl_everySign.f k s l) (fun r => r = everyB s l) := by
  obtain ⟨h1, h2, h3⟩ := h
  have key : ∀ (d i : Nat) (t : ByteArray), i + d = l.length → t.size ≤ 1000000 + 2000000 * i → Tot (fun k => impl_everySign.l0 k t l (l.length : Int) (i : Int)) (fun r => r = everyB t (l.drop i)) := by
    intro d
    induction d with
    | zero =>
      intro i t hi ht
      refine Tot.step (fun k => by rw [impl_everySign.l0]) (Tot.neg (by omega) (Tot.ret ?_))
      rw [List.drop_eq_nil_of_le (by omega)]; rfl
    | succ d ih =>
      intro i t hi ht
      have hx := h3 _ (mem_rd l i (by omega))
      have hd : l.drop i = rd_T46 l (i : Int) :: l.drop (i + 1) := by
        rw [List.drop_eq_getElem_cons (by omega)]
        simp [rd_T46, List.getD_eq_getElem?_getD, show i < l.length by omega]
      rw [hd]
      refine Tot.step (fun k => by rw [impl_everySign.l0]) (Tot.pos (by omega) (Tot.pos (by omega) (Tot.pos (by omega) (Tot.pos (by omega) (Tot.pos (by rw [ByteArray.size_append]; omega) ?_)))))
      rw [w64 (by omega) (by omega)]
      exact ih (i + 1) _ (by omega) (by rw [ByteArray.size_append, ByteArray.size_append]; omega)
  have := key l.length 0 s (by omega) (by omega)
  simpa [impl_everySign.f] using this
def impl_GramBigs.f (a0_0 : ByteArray) (l0_1 : List (S46)) : Option (ByteArray) := if TinyG a0_0 l0_1 then some (if gramOkB a0_0 l0_1 = true then setB isBigB (everyB a0_0 l0_1) else ⟨#[]⟩) else none
def impl_GramSmalls.f (a0_0 : ByteArray) (l0_1 : List (S46)) : Option (ByteArray) := if TinyG a0_0 l0_1 then some (if gramOkB a0_0 l0_1 = true then setB isSmallB (everyB a0_0 l0_1) else ⟨#[]⟩) else none
theorem sets_cell {W w1 : World} (hb : Below W.heap.size W w1) : (∀ b o, b < W.heap.size → w1.cell? ⟨b, o, none⟩ = W.cell? ⟨b, o, none⟩) ∧ (∀ b o, b < W.heap.size → w1.frozen? ⟨b, o, none⟩ = W.frozen? ⟨b, o, none⟩) :=
  ⟨fun b o h => hb.cell (p := ⟨b, o, none⟩) h, fun b o h => hb.frozen (p := ⟨b, o, none⟩) h⟩
set_option maxHeartbeats 1000000 in
theorem impl_GramBigs.calls (a0_0 : ByteArray) (A0_1 : Option Addr) (c0_1 : Nat) (l0_1 : List (S46)) (r : ByteArray) (w : World) (hr0_1 : Kd.C k46 w A0_1 l0_1.length l0_1) (hc0_1 : l0_1.length ≤ c0_1) (h : impl_GramBigs.f a0_0 l0_1 = some r) :
    Calls Tryd.prog 23 #[.agg #[.string a0_0, .slice A0_1 l0_1.length c0_1]] w fun e w' => e = .returned (.string r) ∧ Below w.heap.size w w' := by
  unfold impl_GramBigs.f at h
  by_cases ht : TinyG a0_0 l0_1
  case neg => rw [if_neg ht] at h; cases h
  rw [if_pos ht] at h
  obtain ⟨k, b, hk, rfl⟩ := (impl_GramOk.tot a0_0 l0_1 ht.small).get
  have Hg := Lib.hid (fun W hr => impl_GramOk.calls k a0_0 A0_1 c0_1 l0_1 _ W hr hc0_1 hk)
  obtain ⟨m, e, hm, rfl⟩ := (impl_everySign.tot a0_0 l0_1 ht).get
  have He := Lib.hid (fun W hr => impl_everySign.calls m a0_0 A0_1 c0_1 l0_1 _ W hr hc0_1 hm)
  have hsz := everyB_size a0_0 l0_1 1000000 ht.1 ht.2.2
  have Hs := Lib.hid (fun W => setOf_big (everyB a0_0 l0_1) W (by have := ht.2.1; omega))
  have Hr := Lib.hid hr0_1
  have H := Option.some.inj h
  clear hr0_1 hk hm hsz h ht
  generalize gramOkB a0_0 l0_1 = b at Hg H
  generalize setB isBigB (everyB a0_0 l0_1) = v at Hs H
  generalize everyB a0_0 l0_1 = u at He Hs
  cases b
  · obtain rfl : (⟨#[]⟩ : ByteArray) = r := by simpa using H
    clear H He Hs
    go_enter Tryd.func23, Tryd.ntmps23
    go_wp2_with (go_at_call 52; refine (Hg.out _ (by repeat (first | exact Hr.out | apply Kd.C_alloc | apply Kd.C_drewN | apply Kd.C_drew))).mono ?_; rintro e w' ⟨rfl, hB⟩)
    go_ret
    exact ⟨rfl, below_then ((Below.refl _ _).alloc (Nat.le_refl _) _) (by simp) (by simpa using hB)⟩
  · obtain rfl : v = r := by simpa using H
    clear H
    go_enter Tryd.func23, Tryd.ntmps23
    go_wp2_with (first
      | (go_at_call 52; (refine (Hg.out _ (by repeat (first | exact Hr.out | apply Kd.C_alloc | apply Kd.C_drewN | apply Kd.C_drew))).mono ?_; rintro e w' ⟨rfl, hB⟩; obtain ⟨hc, hf⟩ := sets_cell hB; have hz : w.heap.size < w'.heap.size := Nat.lt_of_lt_of_le (Nat.lt_succ_self _) (by simpa using hB.size); have hW := Lib.hid (show Below w.heap.size w w' from below_then ((Below.refl _ _).alloc (Nat.le_refl _) _) (by simp) (by simpa using hB)); have Hr1 := Lib.hid (Kd.C_below Hr.out hW.out); clear hB))
      | (go_at_call 72; refine (He.out _ (by repeat (first | exact Hr1.out | apply Kd.C_alloc | apply Kd.C_drewN | apply Kd.C_drew))).mono ?_; rintro e w2 ⟨rfl, hB2⟩)
      | (go_at_call 71; refine (Hs.out _).mono ?_; rintro e w3 ⟨rfl, hB3⟩))
    go_ret
    exact ⟨rfl, below_step (below_step hW.out (by simpa using hB2)) (by simpa using hB3)⟩
set_option maxHeartbeats 1000000 in
theorem impl_GramSmalls.calls (a0_0 : ByteArray) (A0_1 : Option Addr) (c0_1 : Nat) (l0_1 : List (S46)) (r : ByteArray) (w : World) (hr0_1 : Kd.C k46 w A0_1 l0_1.length l0_1) (hc0_1 : l0_1.length ≤ c0_1) (h : impl_GramSmalls.f a0_0 l0_1 = some r) :
    Calls Tryd.prog 24 #[.agg #[.string a0_0, .slice A0_1 l0_1.length c0_1]] w fun e w' => e = .returned (.string r) ∧ Below w.heap.size w w' := by
  unfold impl_GramSmalls.f at h
  by_cases ht : TinyG a0_0 l0_1
  case neg => rw [if_neg ht] at h; cases h
  rw [if_pos ht] at h
  obtain ⟨k, b, hk, rfl⟩ := (impl_GramOk.tot a0_0 l0_1 ht.small).get
  have Hg := Lib.hid (fun W hr => impl_GramOk.calls k a0_0 A0_1 c0_1 l0_1 _ W hr hc0_1 hk)
  obtain ⟨m, e, hm, rfl⟩ := (impl_everySign.tot a0_0 l0_1 ht).get
  have He := Lib.hid (fun W hr => impl_everySign.calls m a0_0 A0_1 c0_1 l0_1 _ W hr hc0_1 hm)
  have hsz := everyB_size a0_0 l0_1 1000000 ht.1 ht.2.2
  have Hs := Lib.hid (fun W => setOf_small (everyB a0_0 l0_1) W (by have := ht.2.1; omega))
  have Hr := Lib.hid hr0_1
  have H := Option.some.inj h
  clear hr0_1 hk hm hsz h ht
  generalize gramOkB a0_0 l0_1 = b at Hg H
  generalize setB isSmallB (everyB a0_0 l0_1) = v at Hs H
  generalize everyB a0_0 l0_1 = u at He Hs
  cases b
  · obtain rfl : (⟨#[]⟩ : ByteArray) = r := by simpa using H
    clear H He Hs
    go_enter Tryd.func24, Tryd.ntmps24
    go_wp2_with (go_at_call 52; refine (Hg.out _ (by repeat (first | exact Hr.out | apply Kd.C_alloc | apply Kd.C_drewN | apply Kd.C_drew))).mono ?_; rintro e w' ⟨rfl, hB⟩)
    go_ret
    exact ⟨rfl, below_then ((Below.refl _ _).alloc (Nat.le_refl _) _) (by simp) (by simpa using hB)⟩
  · obtain rfl : v = r := by simpa using H
    clear H
    go_enter Tryd.func24, Tryd.ntmps24
    go_wp2_with (first
      | (go_at_call 52; (refine (Hg.out _ (by repeat (first | exact Hr.out | apply Kd.C_alloc | apply Kd.C_drewN | apply Kd.C_drew))).mono ?_; rintro e w' ⟨rfl, hB⟩; obtain ⟨hc, hf⟩ := sets_cell hB; have hz : w.heap.size < w'.heap.size := Nat.lt_of_lt_of_le (Nat.lt_succ_self _) (by simpa using hB.size); have hW := Lib.hid (show Below w.heap.size w w' from below_then ((Below.refl _ _).alloc (Nat.le_refl _) _) (by simp) (by simpa using hB)); have Hr1 := Lib.hid (Kd.C_below Hr.out hW.out); clear hB))
      | (go_at_call 72; refine (He.out _ (by repeat (first | exact Hr1.out | apply Kd.C_alloc | apply Kd.C_drewN | apply Kd.C_drew))).mono ?_; rintro e w2 ⟨rfl, hB2⟩)
      | (go_at_call 71; refine (Hs.out _).mono ?_; rintro e w3 ⟨rfl, hB3⟩))
    go_ret
    exact ⟨rfl, below_step (below_step hW.out (by simpa using hB2)) (by simpa using hB3)⟩
end Go.Proofs.YtiibnkibckklgaaDoor.P
namespace Go.Proofs.YtiibnkibckklgaaDoor.P
open Go.RowKit Go.Proofs.YtiibnkibckklgaaDoorW.PrintWords Go.Proofs.YtiibnkibckklgaaDoorW.PrintLast Go.Proofs.YtiibnkibckklgaaDoorW.PrintMore
attribute [local go_sem] max2_int min2_int max_two min_two max_three min_three max_four min_four   -- for this text's walks alone
set_option linter.unusedVariables false
set_option linter.unusedSimpArgs false
theorem q72_1 {p : Prop} (h : p := by (try simp only [List.map_toArray, List.map_cons, List.map_nil]); first | done | rfl | (simp only [List.length_drop, List.length_take]; rfl)) : p := h
theorem q72_2 {p : Prop} (h : p := by repeat (first | (with_reducible first | exact HB.out | apply below_alloc | apply pw_below_drewN | apply below_drew1 | refine below_set ?_ GE105.out) | exact HB.out)) : p := h
theorem q72_3 {p : Prop} (h : p := by (with_reducible repeat (first | refine blk_drewN ?_ _ | refine blk_drew ?_ | refine blk_alloc ?_ _)); exact BK105.out) : p := h
theorem q72_4 {p : Prop} (h : p := by repeat (first | (with_reducible first | exact HB.out | apply below_alloc | apply pw_below_drewN | apply below_drew1) | exact HB.out)) : p := h
theorem q72_5 {p : Prop} (h : p := by (with_reducible repeat (first | apply Kd.R_alloc | apply Kd.R_drewN | apply Kd.R_drew)); exact HO104.out) : p := h
theorem q72_6 {p : Prop} (h : p := by (with_reducible repeat (first | apply Kd.R_alloc | apply Kd.R_drewN | apply Kd.R_drew)); exact (Kd.R_mono (Kd.R_far (p := ⟨gb105, 1, none⟩) (Kd.R_far (p := ⟨gb105, 0, none⟩) (Kd.R_types HO104.out BK105.out (by decide)) (fun _ hk => hk.2) (.string t101)) (fun _ hk => hk.2) (.slice Ao10 t102.length co10)) (fun _ h_ => h_.1))) : p := h
theorem q72_7 {p : Prop} (h : p := by (with_reducible repeat (first | apply Kd.R_alloc | apply Kd.R_drewN | apply Kd.R_drew)); exact HO_106001.out) : p := h
/-! ### laws_FnGramSigns: function 4 -/
mutual
def laws_FnGramSigns.j0 : Nat → ByteArray → ByteArray → Bool → ByteArray → List (S46) → Option (Bool)
 | 0, _, _, _, _, _ => none
 | k + 1, x4, x5, x28, x106000, x106001 => if x28 = true then (some false) else ((spec_GramOk.f k x106000 x106001).bind fun t110 => (if t110 = true then (laws_FnGramSigns.l0 k x4 x5 0 x106000 x106001) else (if x4.toList = ([] : List UInt8) then (some (x5.toList == ([] : List UInt8))) else (some false))))
def laws_FnGramSigns.l0 : Nat → ByteArray → ByteArray → Int → ByteArray → List (S46) → Option (Bool)
 | 0, _, _, _, _, _ => none
 | k + 1, x4, x5, x6, x106000, x106001 => if x6 < (x4.size : Int) then (if 0 ≤ x6 then (if x6 ≤ (wrap64 (x6 + 1)) then (if (wrap64 (x6 + 1)) ≤ (x4.size : Int) then ((impl_SignBig.f (x4.extract (x6 : Int).toNat ((wrap64 (x6 + 1)) : Int).toNat)).bind fun t111 => (if t111 = true then (if x6 > 0 then (if 0 ≤ (wrap64 (x6 - 1)) then (if (wrap64 (x6 - 1)) < (x4.size : Int) then (if (bt x4 (wrap64 (x6 - 1))) ≥ (bt x4 x6) then (some false) else (laws_FnGramSigns.l0 k x4 x5 (wrap64 (x6 + 1)) x106000 x106001)) else (none)) else (none)) else (laws_FnGramSigns.l0 k x4 x5 (wrap64 (x6 + 1)) x106000 x106001)) else (some false))) else (none)) else (none)) else (none)) else (laws_FnGramSigns.l1 k x4 x5 0 x106000 x106001)
def laws_FnGramSigns.l1 : Nat → ByteArray → ByteArray → Int → ByteArray → List (S46) → Option (Bool)
 | 0, _, _, _, _, _ => none
 | k + 1, x4, x5, x7, x106000, x106001 => if x7 < (x5.size : Int) then (if 0 ≤ x7 then (if x7 ≤ (wrap64 (x7 + 1)) then (if (wrap64 (x7 + 1)) ≤ (x5.size : Int) then ((impl_SignSmall.f (x5.extract (x7 : Int).toNat ((wrap64 (x7 + 1)) : Int).toNat)).bind fun t112 => (if t112 = true then (if x7 > 0 then (if 0 ≤ (wrap64 (x7 - 1)) then (if (wrap64 (x7 - 1)) < (x5.size : Int) then (if (bt x5 (wrap64 (x7 - 1))) ≥ (bt x5 x7) then (some false) else (laws_FnGramSigns.l1 k x4 x5 (wrap64 (x7 + 1)) x106000 x106001)) else (none)) else (none)) else (laws_FnGramSigns.l1 k x4 x5 (wrap64 (x7 + 1)) x106000 x106001)) else (some false))) else (none)) else (none)) else (none)) else (laws_FnGramSigns.l2 k x4 x5 0 x106000 x106001)
def laws_FnGramSigns.l2 : Nat → ByteArray → ByteArray → Int → ByteArray → List (S46) → Option (Bool)
 | 0, _, _, _, _, _ => none
 | k + 1, x4, x5, x8, x106000, x106001 => if x8 < (x106001.length : Int) then (laws_FnGramSigns.l3 k x4 x5 x8 0 x106000 x106001) else (if 0 < (x106000.size : Int) then ((laws_wpHas.f k x4 (bt x106000 0)).bind fun t113 => (some t113)) else (none))
def laws_FnGramSigns.l3 : Nat → ByteArray → ByteArray → Int → Int → ByteArray → List (S46) → Option (Bool)
 | 0, _, _, _, _, _, _ => none
 | k + 1, x4, x5, x8, x9, x106000, x106001 => if 0 ≤ x8 then (if x8 < (x106001.length : Int) then (if x9 < (((rd_T46 x106001 x8).f1).size : Int) then (if x4.size + x5.size ≤ 9223372036854775807 then (if 0 ≤ x9 then ((laws_wpHas.f k (x4 ++ x5) (bt ((rd_T46 x106001 x8).f1) x9)).bind fun t116 => (if t116 = true then (laws_FnGramSigns.l3 k x4 x5 x8 (wrap64 (x9 + 1)) x106000 x106001) else (some false))) else (none)) else (none)) else (laws_FnGramSigns.l2 k x4 x5 (wrap64 (x8 + 1)) x106000 x106001)) else (none)) else (none)
end
def laws_FnGramSigns.f (k : Nat) (l0 : List Int) : Option (Bool) := if (l0.length : Int) > 1048576 then (some true) else ((spec_DrawGramBigs.f k l0).bind fun bt101 => ((impl_GramBigs.f bt101.1 bt101.2).bind fun t106 => ((impl_GramSmalls.f bt101.1 bt101.2).bind fun t107 => ((spec_GramBigs.f k bt101.1 bt101.2).bind fun t108 => (if t106.toList = t108.toList then ((spec_GramSmalls.f k bt101.1 bt101.2).bind fun t109 => (laws_FnGramSigns.j0 k t106 t107 (t107.toList != t109.toList) bt101.1 bt101.2)) else (laws_FnGramSigns.j0 k t106 t107 true bt101.1 bt101.2))))))
theorem laws_FnGramSigns.mono_l : ∀ k, (∀ y0 y1 y2 y3 y4, LeO (laws_FnGramSigns.j0 k y0 y1 y2 y3 y4) (laws_FnGramSigns.j0 (k + 1) y0 y1 y2 y3 y4)) ∧ (∀ y0 y1 y2 y3 y4, LeO (laws_FnGramSigns.l0 k y0 y1 y2 y3 y4) (laws_FnGramSigns.l0 (k + 1) y0 y1 y2 y3 y4)) ∧ (∀ y0 y1 y2 y3 y4, LeO (laws_FnGramSigns.l1 k y0 y1 y2 y3 y4) (laws_FnGramSigns.l1 (k + 1) y0 y1 y2 y3 y4)) ∧ (∀ y0 y1 y2 y3 y4, LeO (laws_FnGramSigns.l2 k y0 y1 y2 y3 y4) (laws_FnGramSigns.l2 (k + 1) y0 y1 y2 y3 y4)) ∧ (∀ y0 y1 y2 y3 y4 y5, LeO (laws_FnGramSigns.l3 k y0 y1 y2 y3 y4 y5) (laws_FnGramSigns.l3 (k + 1) y0 y1 y2 y3 y4 y5))
 | 0 => ⟨fun _ _ _ _ _ r h => by simp [laws_FnGramSigns.j0] at h, fun _ _ _ _ _ r h => by simp [laws_FnGramSigns.l0] at h, fun _ _ _ _ _ r h => by simp [laws_FnGramSigns.l1] at h, fun _ _ _ _ _ r h => by simp [laws_FnGramSigns.l2] at h, fun _ _ _ _ _ _ r h => by simp [laws_FnGramSigns.l3] at h⟩
 | k + 1 => by
  obtain ⟨ih0, ih1, ih2, ih3, ih4⟩ := laws_FnGramSigns.mono_l k
  refine ⟨?_, ?_, ?_, ?_, ?_⟩
  ·intro y0 y1 y2 y3 y4
   unfold laws_FnGramSigns.j0
   repeat' first
   | (with_reducible exact ih0 _ _ _ _ _)
   | (with_reducible exact ih1 _ _ _ _ _)
   | (with_reducible exact ih2 _ _ _ _ _)
   | (with_reducible exact ih3 _ _ _ _ _)
   | (with_reducible exact ih4 _ _ _ _ _ _)
   | (with_reducible exact laws_wpHas.mono _ _ _)
   | (with_reducible exact spec_DrawGramBigs.mono _ _)
   | (with_reducible exact spec_GramBigs.mono _ _ _)
   | (with_reducible exact spec_GramOk.mono _ _ _)
   | (with_reducible exact spec_GramSmalls.mono _ _ _)
   | (with_reducible exact LeO.refl _)
   | (with_reducible exact LeO.none _)
   | (with_reducible refine LeO.ite ?_ ?_)
   | (with_reducible refine LeO.bind ?_ (fun _ => ?_))
   | exact ih0 _ _ _ _ _
   | exact ih1 _ _ _ _ _
   | exact ih2 _ _ _ _ _
   | exact ih3 _ _ _ _ _
   | exact ih4 _ _ _ _ _ _
   | exact laws_wpHas.mono _ _ _
   | exact spec_DrawGramBigs.mono _ _
   | exact spec_GramBigs.mono _ _ _
   | exact spec_GramOk.mono _ _ _
   | exact spec_GramSmalls.mono _ _ _
   | exact LeO.none _
   | refine LeO.ite ?_ ?_
   | refine LeO.bind ?_ (fun _ => ?_)
  ·intro y0 y1 y2 y3 y4
   unfold laws_FnGramSigns.l0
   repeat' first
   | (with_reducible exact ih0 _ _ _ _ _)
   | (with_reducible exact ih1 _ _ _ _ _)
   | (with_reducible exact ih2 _ _ _ _ _)
   | (with_reducible exact ih3 _ _ _ _ _)
   | (with_reducible exact ih4 _ _ _ _ _ _)
   | (with_reducible exact laws_wpHas.mono _ _ _)
   | (with_reducible exact spec_DrawGramBigs.mono _ _)
   | (with_reducible exact spec_GramBigs.mono _ _ _)
   | (with_reducible exact spec_GramOk.mono _ _ _)
   | (with_reducible exact spec_GramSmalls.mono _ _ _)
   | (with_reducible exact LeO.refl _)
   | (with_reducible exact LeO.none _)
   | (with_reducible refine LeO.ite ?_ ?_)
   | (with_reducible refine LeO.bind ?_ (fun _ => ?_))
   | exact ih0 _ _ _ _ _
   | exact ih1 _ _ _ _ _
   | exact ih2 _ _ _ _ _
   | exact ih3 _ _ _ _ _
   | exact ih4 _ _ _ _ _ _
   | exact laws_wpHas.mono _ _ _
   | exact spec_DrawGramBigs.mono _ _
   | exact spec_GramBigs.mono _ _ _
   | exact spec_GramOk.mono _ _ _
   | exact spec_GramSmalls.mono _ _ _
   | exact LeO.none _
   | refine LeO.ite ?_ ?_
   | refine LeO.bind ?_ (fun _ => ?_)
  ·intro y0 y1 y2 y3 y4
   unfold laws_FnGramSigns.l1
   repeat' first
   | (with_reducible exact ih0 _ _ _ _ _)
   | (with_reducible exact ih1 _ _ _ _ _)
   | (with_reducible exact ih2 _ _ _ _ _)
   | (with_reducible exact ih3 _ _ _ _ _)
   | (with_reducible exact ih4 _ _ _ _ _ _)
   | (with_reducible exact laws_wpHas.mono _ _ _)
   | (with_reducible exact spec_DrawGramBigs.mono _ _)
   | (with_reducible exact spec_GramBigs.mono _ _ _)
   | (with_reducible exact spec_GramOk.mono _ _ _)
   | (with_reducible exact spec_GramSmalls.mono _ _ _)
   | (with_reducible exact LeO.refl _)
   | (with_reducible exact LeO.none _)
   | (with_reducible refine LeO.ite ?_ ?_)
   | (with_reducible refine LeO.bind ?_ (fun _ => ?_))
   | exact ih0 _ _ _ _ _
   | exact ih1 _ _ _ _ _
   | exact ih2 _ _ _ _ _
   | exact ih3 _ _ _ _ _
   | exact ih4 _ _ _ _ _ _
   | exact laws_wpHas.mono _ _ _
   | exact spec_DrawGramBigs.mono _ _
   | exact spec_GramBigs.mono _ _ _
   | exact spec_GramOk.mono _ _ _
   | exact spec_GramSmalls.mono _ _ _
   | exact LeO.none _
   | refine LeO.ite ?_ ?_
   | refine LeO.bind ?_ (fun _ => ?_)
  ·intro y0 y1 y2 y3 y4
   unfold laws_FnGramSigns.l2
   repeat' first
   | (with_reducible exact ih0 _ _ _ _ _)
   | (with_reducible exact ih1 _ _ _ _ _)
   | (with_reducible exact ih2 _ _ _ _ _)
   | (with_reducible exact ih3 _ _ _ _ _)
   | (with_reducible exact ih4 _ _ _ _ _ _)
   | (with_reducible exact laws_wpHas.mono _ _ _)
   | (with_reducible exact spec_DrawGramBigs.mono _ _)
   | (with_reducible exact spec_GramBigs.mono _ _ _)
   | (with_reducible exact spec_GramOk.mono _ _ _)
   | (with_reducible exact spec_GramSmalls.mono _ _ _)
   | (with_reducible exact LeO.refl _)
   | (with_reducible exact LeO.none _)
   | (with_reducible refine LeO.ite ?_ ?_)
   | (with_reducible refine LeO.bind ?_ (fun _ => ?_))
   | exact ih0 _ _ _ _ _
   | exact ih1 _ _ _ _ _
   | exact ih2 _ _ _ _ _
   | exact ih3 _ _ _ _ _
   | exact ih4 _ _ _ _ _ _
   | exact laws_wpHas.mono _ _ _
   | exact spec_DrawGramBigs.mono _ _
   | exact spec_GramBigs.mono _ _ _
   | exact spec_GramOk.mono _ _ _
   | exact spec_GramSmalls.mono _ _ _
   | exact LeO.none _
   | refine LeO.ite ?_ ?_
   | refine LeO.bind ?_ (fun _ => ?_)
  ·intro y0 y1 y2 y3 y4 y5
   unfold laws_FnGramSigns.l3
   repeat' first
   | (with_reducible exact ih0 _ _ _ _ _)
   | (with_reducible exact ih1 _ _ _ _ _)
   | (with_reducible exact ih2 _ _ _ _ _)
   | (with_reducible exact ih3 _ _ _ _ _)
   | (with_reducible exact ih4 _ _ _ _ _ _)
   | (with_reducible exact laws_wpHas.mono _ _ _)
   | (with_reducible exact spec_DrawGramBigs.mono _ _)
   | (with_reducible exact spec_GramBigs.mono _ _ _)
   | (with_reducible exact spec_GramOk.mono _ _ _)
   | (with_reducible exact spec_GramSmalls.mono _ _ _)
   | (with_reducible exact LeO.refl _)
   | (with_reducible exact LeO.none _)
   | (with_reducible refine LeO.ite ?_ ?_)
   | (with_reducible refine LeO.bind ?_ (fun _ => ?_))
   | exact ih0 _ _ _ _ _
   | exact ih1 _ _ _ _ _
   | exact ih2 _ _ _ _ _
   | exact ih3 _ _ _ _ _
   | exact ih4 _ _ _ _ _ _
   | exact laws_wpHas.mono _ _ _
   | exact spec_DrawGramBigs.mono _ _
   | exact spec_GramBigs.mono _ _ _
   | exact spec_GramOk.mono _ _ _
   | exact spec_GramSmalls.mono _ _ _
   | exact LeO.none _
   | refine LeO.ite ?_ ?_
   | refine LeO.bind ?_ (fun _ => ?_)
theorem laws_FnGramSigns.mono : ∀ a0 k, LeO (laws_FnGramSigns.f k a0) (laws_FnGramSigns.f (k + 1) a0) := by
 intro a0 k
 obtain ⟨ih0, ih1, ih2, ih3, ih4⟩ := laws_FnGramSigns.mono_l k
 unfold laws_FnGramSigns.f
 repeat' first
   | (with_reducible exact ih0 _ _ _ _ _)
   | (with_reducible exact ih1 _ _ _ _ _)
   | (with_reducible exact ih2 _ _ _ _ _)
   | (with_reducible exact ih3 _ _ _ _ _)
   | (with_reducible exact ih4 _ _ _ _ _ _)
   | (with_reducible exact laws_wpHas.mono _ _ _)
   | (with_reducible exact spec_DrawGramBigs.mono _ _)
   | (with_reducible exact spec_GramBigs.mono _ _ _)
   | (with_reducible exact spec_GramOk.mono _ _ _)
   | (with_reducible exact spec_GramSmalls.mono _ _ _)
   | (with_reducible exact LeO.refl _)
   | (with_reducible exact LeO.none _)
   | (with_reducible refine LeO.ite ?_ ?_)
   | (with_reducible refine LeO.bind ?_ (fun _ => ?_))
   | exact ih0 _ _ _ _ _
   | exact ih1 _ _ _ _ _
   | exact ih2 _ _ _ _ _
   | exact ih3 _ _ _ _ _
   | exact ih4 _ _ _ _ _ _
   | exact laws_wpHas.mono _ _ _
   | exact spec_DrawGramBigs.mono _ _
   | exact spec_GramBigs.mono _ _ _
   | exact spec_GramOk.mono _ _ _
   | exact spec_GramSmalls.mono _ _ _
   | exact LeO.none _
   | refine LeO.ite ?_ ?_
   | refine LeO.bind ?_ (fun _ => ?_)
def laws_FnGramSigns.T13 : Bool × List (List Nat × List Nat) := (true, [([], []), ([], []), ([], []), ([2], [2]), ([0, 1, 3], [0, 1, 3]), ([4], [4]), ([5], [5]), ([6, 5], [6]), ([7], [7]), ([8, 7], [7, 8]), ([9, 7, 7], [7, 9]), ([10], [10]), ([10], [10]), ([12, 10], [10, 12]), ([11, 13, 10], [10, 11, 13]), ([10], [10]), ([10], [10]), ([15, 16, 10], [10, 15, 16]), ([14, 17, 10], [10, 14, 17]), ([10, 18, 7], [7, 10, 18]), ([7, 19], [7, 19])])
def laws_FnGramSigns.B13 : List Nat := [0, 0, 0, 4, 15, 31, 63, 127, 255, 511, 1023, 2047, 2047, 6143, 16383, 2047, 2047, 100351, 262143, 524287, 1048575]
theorem laws_FnGramSigns.tab13 : rtab .any (opsOf Tryd.f4 13) = laws_FnGramSigns.T13 := by kernel_rfl
theorem laws_FnGramSigns.bits13 : waitsOk laws_FnGramSigns.T13.2 laws_FnGramSigns.B13 = true := by kernel_rfl
def laws_FnGramSigns.T18 : Bool × List (List Nat × List Nat) := (true, [([], []), ([], []), ([], []), ([2], [2]), ([0, 1, 3], [0, 1, 3]), ([4], [4]), ([5], [5]), ([6, 5], [6]), ([7], [7]), ([8, 7], [7, 8]), ([9, 7, 7], [7, 9]), ([10], [10]), ([10], [10]), ([12, 10], [10, 12]), ([11, 13, 10], [10, 11, 13]), ([10], [10]), ([10], [10]), ([15, 16, 10], [10, 15, 16]), ([14, 17, 10], [10, 14, 17]), ([10, 18, 7], [7, 10, 18]), ([7, 19], [7, 19])])
def laws_FnGramSigns.B18 : List Nat := [0, 0, 0, 4, 15, 31, 63, 127, 255, 511, 1023, 2047, 2047, 6143, 16383, 2047, 2047, 100351, 262143, 524287, 1048575]
theorem laws_FnGramSigns.tab18 : rtab .any (opsOf Tryd.f4 18) = laws_FnGramSigns.T18 := by kernel_rfl
theorem laws_FnGramSigns.bits18 : waitsOk laws_FnGramSigns.T18.2 laws_FnGramSigns.B18 = true := by kernel_rfl
set_option maxHeartbeats 8000000 in
set_option maxRecDepth 100000 in
theorem laws_FnGramSigns.calls (k : Nat) (A0 : Option Addr) (c0 : Nat) (l0 : List Int) (r : Bool) (w : World) (hr0 : Kd.C (Kd.int .u8) w A0 l0.length l0) (hc0 : l0.length ≤ c0) (h : laws_FnGramSigns.f k l0 = some r) :
  Calls Tryd.prog 4 #[.slice A0 l0.length c0] w fun e w' => e = .returned (.bool r) ∧ Below w.heap.size w w' := by
 have hu25 := Tryd.underlying25
 have HR0 := Aside0.mk hr0
 have HC0 := Aside0.mk hc0
 clear hr0 hc0
 have HB := Aside0.mk (Below.refl w.heap.size w)
 have H : (if (l0.length : Int) > 1048576 then (some true) else ((spec_DrawGramBigs.f k l0).bind fun bt101 => ((impl_GramBigs.f bt101.1 bt101.2).bind fun t106 => ((impl_GramSmalls.f bt101.1 bt101.2).bind fun t107 => ((spec_GramBigs.f k bt101.1 bt101.2).bind fun t108 => (if t106.toList = t108.toList then ((spec_GramSmalls.f k bt101.1 bt101.2).bind fun t109 => (laws_FnGramSigns.j0 k t106 t107 (t107.toList != t109.toList) bt101.1 bt101.2)) else (laws_FnGramSigns.j0 k t106 t107 true bt101.1 bt101.2))))))) = some r := h
 clear h
 by_cases c2 : (l0.length : Int) > 1048576
 ·rw [if_pos c2] at H
  have c2b0 : decide (1048576 < (l0.length : Int)) = true := decide_eq_true c2
  have c2b1 : decide (1048576 < l0.length) = true := decide_eq_true (by omega)
  clear c2
  obtain rfl := Option.some.inj H
  go_enter Tryd.func4, Tryd.ntmps4
  go_wp2
  go_ret
  exact ⟨by first | rfl | (simp [errW_none, errW_some] <;> rfl) | (simp [*, errW_none, errW_some] <;> rfl), by repeat (first | (with_reducible first | exact HB.out | apply below_alloc | apply pw_below_drewN | apply below_drew1) | exact HB.out)⟩
 ·rw [if_neg c2] at H
  have c2b0 : decide (1048576 < (l0.length : Int)) = false := decide_eq_false c2
  have c2b1 : decide (1048576 < l0.length) = false := decide_eq_false (by omega)
  clear c2
  replace H := Option.bind_eq_some_iff.mp H
  obtain ⟨⟨t101, t102⟩, A30, H⟩ := H
  replace H : ((impl_GramBigs.f t101 t102).bind fun t106 => ((impl_GramSmalls.f t101 t102).bind fun t107 => ((spec_GramBigs.f k t101 t102).bind fun t108 => (if t106.toList = t108.toList then ((spec_GramSmalls.f k t101 t102).bind fun t109 => (laws_FnGramSigns.j0 k t106 t107 (t107.toList != t109.toList) t101 t102)) else (laws_FnGramSigns.j0 k t106 t107 true t101 t102))))) = some r := H
  have A3 := Aside0.mk A30
  clear A30
  replace H := Option.bind_eq_some_iff.mp H
  obtain ⟨t106, A40, H⟩ := H
  replace H : ((impl_GramSmalls.f t101 t102).bind fun t107 => ((spec_GramBigs.f k t101 t102).bind fun t108 => (if t106.toList = t108.toList then ((spec_GramSmalls.f k t101 t102).bind fun t109 => (laws_FnGramSigns.j0 k t106 t107 (t107.toList != t109.toList) t101 t102)) else (laws_FnGramSigns.j0 k t106 t107 true t101 t102)))) = some r := H
  have A4 := Aside0.mk A40
  clear A40
  replace H := Option.bind_eq_some_iff.mp H
  obtain ⟨t107, A50, H⟩ := H
  replace H : ((spec_GramBigs.f k t101 t102).bind fun t108 => (if t106.toList = t108.toList then ((spec_GramSmalls.f k t101 t102).bind fun t109 => (laws_FnGramSigns.j0 k t106 t107 (t107.toList != t109.toList) t101 t102)) else (laws_FnGramSigns.j0 k t106 t107 true t101 t102))) = some r := H
  have A5 := Aside0.mk A50
  clear A50
  have HC6 := Aside0.mk H
  clear H
  go_enter Tryd.func4, Tryd.ntmps4
  go_upto_region 6 with (first | ((with_reducible refine gate_callee (f := 22) rfl ?_); refine goesL_ (some 14) rfl rfl Tryd.func22 (by kernel_rfl) rfl #[.slice A0 l0.length c0] rfl q72_1 ?_; (with_reducible refine (spec_DrawGramBigs.calls k _ _ l0 t101 t102 _ ?side1 ?side2 A3.out).mono ?_); (case side1 => repeat (first | exact HR0.out | (with_reducible refine Kd.C_alloc ?_ _) | (with_reducible refine Kd.C_drewN ?_ _) | (with_reducible refine Kd.C_drew ?_))); (case side2 => exact HC0.out); rintro e w7 ⟨v103, rfl, ho0, hb⟩; refine ⟨_, rfl, ?_⟩; have n0_ := Aside0.mk (Kd.R_lower ho0 (below_size q72_4)); have n1_ := Aside0.mk (below_step q72_4 hb); clear HB; have HO104 := n0_; have HB := n1_; clear n0_ n1_; (try clear hb); (try clear hb2); (try clear hk); (try clear hi); (try clear ho0)) | ((with_reducible refine gate_dst (N := 3) rfl ?_); refine box_event ?hg (N := 3) ?hd (cs := #[.string (⟨#[]⟩ : ByteArray), .slice none 0 0]) (t := 25) ?hr ?_; (case hd => rfl); (case hg => rfl); (case hr => first | (go_simp; done) | (go_simp; rfl)); intro gb105 hg w8 hbox hb; have n0_ := Aside0.mk (Kd.R_below q72_5 hb); have n1_ := Aside0.mk (below_step q72_4 hb); have n2_ := Aside0.mk (hbox); have n3_ := Aside0.mk ((by rw [hg]; exact (below_size q72_4) : w.heap.size ≤ gb105)); have n4_ := Aside0.mk ((by rw [hg]; exact (below_size q72_4) : w.heap.size ≤ gb105)); clear HO104; clear HB; have HO104 := n0_; have HB := n1_; have BK105 := n2_; have GW105 := n3_; have GE105 := n4_; clear n0_ n1_ n2_ n3_ n4_; clear hb hbox hg; have hcz9_0 : w8.cell? ⟨gb105, 0, none⟩ = some (.string (⟨#[]⟩ : ByteArray)) := (blk_cell BK105.out 0).trans rfl; have hcz9_1 : w8.cell? ⟨gb105, 1, none⟩ = some (.slice none 0 0) := (blk_cell BK105.out 1).trans rfl; have hfz9_0 := blk_frozen BK105.out 0; have hfz9_1 := blk_frozen BK105.out 1; obtain ⟨Ao10, co10, eo10⟩ := Kd.R_slice HO104.out; subst eo10) | ((with_reducible refine gate_callee (f := 23) rfl ?_); refine goesL_ (some 16) rfl rfl Tryd.func23 (by kernel_rfl) rfl #[.agg #[.string t101, .slice Ao10 t102.length co10]] rfl q72_1 ?_; (with_reducible refine (impl_GramBigs.calls t101 _ _ t102 t106 _ ?side1 ?side2 A4.out).mono ?_); (case side1 => refine (Kd.R_reads' (e := 46) (base := w.heap.size) (ok := fun k_ => True) (n := t102.length) (c := co10) ?_).2.2; exact q72_6); (case side2 => exact (Kd.R_reads' HO104.out).2.1); rintro e w11 ⟨rfl, hb⟩; refine ⟨_, rfl, ?_⟩; have n0_ := Aside0.mk (Kd.R_below q72_6 hb); have n1_ := Aside0.mk (blk_below (g := gb105) (o := .cells #[.string t101, .slice Ao10 t102.length co10] 25 (0, 0)) (by (with_reducible repeat (first | refine blk_drewN ?_ _ | refine blk_drew ?_ | refine blk_alloc ?_ _)); refine blk_put (cs := #[.string t101, .slice none 0 0]) ?_ 1 _ rfl; (with_reducible repeat (first | refine blk_drewN ?_ _ | refine blk_drew ?_ | refine blk_alloc ?_ _)); refine blk_put (cs := #[.string (⟨#[]⟩ : ByteArray), .slice none 0 0]) ?_ 0 _ rfl; (with_reducible repeat (first | refine blk_drewN ?_ _ | refine blk_drew ?_ | refine blk_alloc ?_ _)); exact BK105.out) hb); have n2_ := Aside0.mk (below_step q72_2 hb); clear HO104; clear BK105; clear HB; have HO104 := n0_; have BK105 := n1_; have HB := n2_; clear n0_ n1_ n2_; (try clear hb); (try clear hb2); (try clear hk); (try clear hi); have hcz12_0 : w11.cell? ⟨gb105, 0, none⟩ = some (.string t101) := (blk_cell BK105.out 0).trans rfl; have hcz12_1 : w11.cell? ⟨gb105, 1, none⟩ = some (.slice Ao10 t102.length co10) := (blk_cell BK105.out 1).trans rfl; have hfz12_0 := blk_frozen BK105.out 0; have hfz12_1 := blk_frozen BK105.out 1) | ((with_reducible refine gate_callee (f := 24) rfl ?_); refine goesL_ (some 18) rfl rfl Tryd.func24 (by kernel_rfl) rfl #[.agg #[.string t101, .slice Ao10 t102.length co10]] rfl q72_1 ?_; (with_reducible refine (impl_GramSmalls.calls t101 _ _ t102 t107 _ ?side1 ?side2 A5.out).mono ?_); (case side1 => repeat (first | exact (Kd.R_reads' HO104.out).2.2 | (with_reducible refine Kd.C_alloc ?_ _) | (with_reducible refine Kd.C_drewN ?_ _) | (with_reducible refine Kd.C_drew ?_))); (case side2 => exact (Kd.R_reads' HO104.out).2.1); rintro e w13 ⟨rfl, hb⟩; refine ⟨_, rfl, ?_⟩; have n0_ := Aside0.mk (Kd.R_below q72_5 hb); have n1_ := Aside0.mk (blk_below (g := gb105) (o := .cells #[.string t101, .slice Ao10 t102.length co10] 25 (0, 0)) q72_3 hb); have n2_ := Aside0.mk (below_step q72_2 hb); clear HO104; clear BK105; clear HB; have HO104 := n0_; have BK105 := n1_; have HB := n2_; clear n0_ n1_ n2_; (try clear hb); (try clear hb2); (try clear hk); (try clear hi)))
  (try simp only [Act.put, List.setIfInBounds_toArray, List.set_cons_zero, List.set_cons_succ])
  go_cut [28] (fun v28 wc => ∃ (kq : Nat) (x28_5 : Bool), v28 = .bool x28_5 ∧ Aside0 (laws_FnGramSigns.j0 kq t106 t107 x28_5 t101 t102 = some r) ∧ Aside0 (kq ≤ k) ∧ Aside0 (Kd.R k46 46 wc w.heap.size (fun _ => True) (.slice Ao10 t102.length co10) t102) ∧ Aside0 (wc.heap[gb105]? = some (.cells #[.string t101, (.slice Ao10 t102.length co10)] 25 (0, 0))) ∧ Aside0 (Below w.heap.size w wc))
  case first =>
   have H := HC6.out
   clear HC6
   replace H := Option.bind_eq_some_iff.mp H
   obtain ⟨t108, A140, H⟩ := H
   replace H : (if t106.toList = t108.toList then ((spec_GramSmalls.f k t101 t102).bind fun t109 => (laws_FnGramSigns.j0 k t106 t107 (t107.toList != t109.toList) t101 t102)) else (laws_FnGramSigns.j0 k t106 t107 true t101 t102)) = some r := H
   have A14 := Aside0.mk A140
   clear A140
   by_cases c15 : t106.toList = t108.toList
   ·rw [if_pos c15] at H
    have c15b0 : (t106.toList == t108.toList) = true := beq_iff_eq.mpr c15
    have c15b1 : (t106.toList != t108.toList) = false := bne_eq_false_iff_eq.mpr c15
    clear c15
    (first | rw [c15b0] | (simp only [i64_w, i32_w]; rw [c15b0]) | skip)
    replace H := Option.bind_eq_some_iff.mp H
    obtain ⟨t109, A160, H⟩ := H
    replace H : (laws_FnGramSigns.j0 k t106 t107 (t107.toList != t109.toList) t101 t102) = some r := H
    have A16 := Aside0.mk A160
    clear A160
    have H' := Aside0.mk H
    clear H
    have hcz17_0 : w13.cell? ⟨gb105, 0, none⟩ = some (.string t101) := (blk_cell BK105.out 0).trans rfl
    have hcz17_1 : w13.cell? ⟨gb105, 1, none⟩ = some (.slice Ao10 t102.length co10) := (blk_cell BK105.out 1).trans rfl
    have hfz17_0 := blk_frozen BK105.out 0
    have hfz17_1 := blk_frozen BK105.out 1
    go_wp2_with (first | ((with_reducible refine gate_callee (f := 25) rfl ?_); refine goesL_ (some 21) rfl rfl Tryd.func25 (by kernel_rfl) rfl #[.agg #[.string t101, .slice Ao10 t102.length co10]] rfl q72_1 ?_; (with_reducible refine (spec_GramBigs.calls k t101 _ _ t102 t108 _ ?side1 ?side2 A14.out).mono ?_); (case side1 => repeat (first | exact (Kd.R_reads' HO104.out).2.2 | (with_reducible refine Kd.C_alloc ?_ _) | (with_reducible refine Kd.C_drewN ?_ _) | (with_reducible refine Kd.C_drew ?_))); (case side2 => exact (Kd.R_reads' HO104.out).2.1); rintro e w18 ⟨rfl, hb⟩; refine ⟨_, rfl, ?_⟩; have n0_ := Aside0.mk (Kd.R_below q72_5 hb); have n1_ := Aside0.mk (blk_below (g := gb105) (o := .cells #[.string t101, .slice Ao10 t102.length co10] 25 (0, 0)) q72_3 hb); have n2_ := Aside0.mk (below_step q72_2 hb); clear HO104; clear BK105; clear HB; have HO104 := n0_; have BK105 := n1_; have HB := n2_; clear n0_ n1_ n2_; (try clear hb); (try clear hb2); (try clear hk); (try clear hi); have hcz19_0 : w18.cell? ⟨gb105, 0, none⟩ = some (.string t101) := (blk_cell BK105.out 0).trans rfl; have hcz19_1 : w18.cell? ⟨gb105, 1, none⟩ = some (.slice Ao10 t102.length co10) := (blk_cell BK105.out 1).trans rfl; have hfz19_0 := blk_frozen BK105.out 0; have hfz19_1 := blk_frozen BK105.out 1) | (go_at_call 26; (with_reducible refine (spec_GramSmalls.calls k t101 _ _ t102 t109 _ ?side1 ?side2 A16.out).mono ?_); (case side1 => repeat (first | exact (Kd.R_reads' HO104.out).2.2 | (with_reducible refine Kd.C_alloc ?_ _) | (with_reducible refine Kd.C_drewN ?_ _) | (with_reducible refine Kd.C_drew ?_))); (case side2 => exact (Kd.R_reads' HO104.out).2.1); rintro e w20 ⟨rfl, hb⟩; have n0_ := Aside0.mk (Kd.R_below q72_5 hb); have n1_ := Aside0.mk (blk_below (g := gb105) (o := .cells #[.string t101, .slice Ao10 t102.length co10] 25 (0, 0)) q72_3 hb); have n2_ := Aside0.mk (below_step q72_2 hb); clear HO104; clear BK105; clear HB; have HO104 := n0_; have BK105 := n1_; have HB := n2_; clear n0_ n1_ n2_; (try clear hb); (try clear hb2); (try clear hk); (try clear hi)))
    go_meet
    case rel => exact ⟨_, ((t107.toList != t109.toList)), (by first | rfl | (simp; done) | (simp [*]; done)), H', ⟨by first | omega | exact Nat.le_refl _⟩, ⟨by (with_reducible repeat (first | apply Kd.R_alloc | apply Kd.R_drewN | apply Kd.R_drew)); exact HO104.out⟩, ⟨by (with_reducible repeat (first | refine blk_drewN ?_ _ | refine blk_drew ?_ | refine blk_alloc ?_ _)); exact BK105.out⟩, ⟨by repeat (first | (with_reducible first | exact HB.out | apply below_alloc | apply pw_below_drewN | apply below_drew1 | refine below_set ?_ GE105.out) | exact HB.out)⟩⟩
   ·rw [if_neg c15] at H
    have c15b0 : (t106.toList == t108.toList) = false := beq_eq_false_iff_ne.mpr c15
    have c15b1 : (t106.toList != t108.toList) = true := bne_iff_ne.mpr c15
    (first | rw [c15b0] | (simp only [i64_w, i32_w]; rw [c15b0]) | skip)
    have H' := Aside0.mk H
    clear H
    have hcz21_0 : w13.cell? ⟨gb105, 0, none⟩ = some (.string t101) := (blk_cell BK105.out 0).trans rfl
    have hcz21_1 : w13.cell? ⟨gb105, 1, none⟩ = some (.slice Ao10 t102.length co10) := (blk_cell BK105.out 1).trans rfl
    have hfz21_0 := blk_frozen BK105.out 0
    have hfz21_1 := blk_frozen BK105.out 1
    go_wp2_with (first | ((with_reducible refine gate_callee (f := 25) rfl ?_); refine goesL_ (some 21) rfl rfl Tryd.func25 (by kernel_rfl) rfl #[.agg #[.string t101, .slice Ao10 t102.length co10]] rfl q72_1 ?_; (with_reducible refine (spec_GramBigs.calls k t101 _ _ t102 t108 _ ?side1 ?side2 A14.out).mono ?_); (case side1 => repeat (first | exact (Kd.R_reads' HO104.out).2.2 | (with_reducible refine Kd.C_alloc ?_ _) | (with_reducible refine Kd.C_drewN ?_ _) | (with_reducible refine Kd.C_drew ?_))); (case side2 => exact (Kd.R_reads' HO104.out).2.1); rintro e w22 ⟨rfl, hb⟩; refine ⟨_, rfl, ?_⟩; have n0_ := Aside0.mk (Kd.R_below q72_5 hb); have n1_ := Aside0.mk (blk_below (g := gb105) (o := .cells #[.string t101, .slice Ao10 t102.length co10] 25 (0, 0)) q72_3 hb); have n2_ := Aside0.mk (below_step q72_2 hb); clear HO104; clear BK105; clear HB; have HO104 := n0_; have BK105 := n1_; have HB := n2_; clear n0_ n1_ n2_; (try clear hb); (try clear hb2); (try clear hk); (try clear hi)))
    go_meet
    case rel => exact ⟨_, (true), (by first | rfl | (simp; done) | (simp [*]; done)), H', ⟨by first | omega | exact Nat.le_refl _⟩, ⟨by (with_reducible repeat (first | apply Kd.R_alloc | apply Kd.R_drewN | apply Kd.R_drew)); exact HO104.out⟩, ⟨by (with_reducible repeat (first | refine blk_drewN ?_ _ | refine blk_drew ?_ | refine blk_alloc ?_ _)); exact BK105.out⟩, ⟨by repeat (first | (with_reducible first | exact HB.out | apply below_alloc | apply pw_below_drewN | apply below_drew1 | refine below_set ?_ GE105.out) | exact HB.out)⟩⟩
  case rest =>
   clear HC6
   try clear c1
   try clear c2
   try clear c2b0
   try clear c2b1
   try clear p2
   try clear c4
   try clear c15
   try clear c15b0
   try clear c15b1
   try clear c22
   try clear hcz12_0
   try clear hcz12_1
   try clear hcz17_0
   try clear hcz17_1
   try clear hcz19_0
   try clear hcz19_1
   try clear hcz21_0
   try clear hcz21_1
   try clear hcz9_0
   try clear hcz9_1
   try clear hfz12_0
   try clear hfz12_1
   try clear hfz17_0
   try clear hfz17_1
   try clear hfz19_0
   try clear hfz19_1
   try clear hfz21_0
   try clear hfz21_1
   try clear hfz9_0
   try clear hfz9_1
   obtain ⟨kq, x28_5, rfl, HA, HJ5, HO_106001, BK105, HB⟩ := hcut
   cases kq with
   | zero => exact absurd HA.out (by simp [laws_FnGramSigns.j0])
   | succ kj5 =>
    have H := HA.out
    clear HA
    simp only [laws_FnGramSigns.j0] at H
    by_cases c23 : x28_5 = true
    ·subst c23
     have H1 : (some false) = some r := by rw [if_pos rfl] at H; exact H
     clear H
     have H := H1
     clear H1
     obtain rfl := Option.some.inj H
     go_wp2
     go_ret
     exact ⟨by first | rfl | (simp [errW_none, errW_some] <;> rfl) | (simp [*, errW_none, errW_some] <;> rfl), by repeat (first | (with_reducible first | exact HB.out | apply below_alloc | apply pw_below_drewN | apply below_drew1 | refine below_set ?_ GE105.out) | exact HB.out)⟩
    ·replace c23 := Bool.eq_false_iff.mpr c23
     subst c23
     have H1 : ((spec_GramOk.f kj5 t101 t102).bind fun t110 => (if t110 = true then (laws_FnGramSigns.l0 kj5 t106 t107 0 t101 t102) else (if t106.toList = ([] : List UInt8) then (some (t107.toList == ([] : List UInt8))) else (some false)))) = some r := by rw [if_neg (show ¬ (false = true) by decide)] at H; exact H
     clear H
     have H := H1
     clear H1
     replace H := Option.bind_eq_some_iff.mp H
     obtain ⟨t110, A240, H⟩ := H
     replace H : (if t110 = true then (laws_FnGramSigns.l0 kj5 t106 t107 0 t101 t102) else (if t106.toList = ([] : List UInt8) then (some (t107.toList == ([] : List UInt8))) else (some false))) = some r := H
     have A24 := Aside0.mk A240
     clear A240
     by_cases c25 : t110 = true
     ·subst c25
      have H1 : (laws_FnGramSigns.l0 kj5 t106 t107 0 t101 t102) = some r := by rw [if_pos rfl] at H; exact H
      clear H
      have H := H1
      clear H1
      have H' := Aside0.mk H
      clear H
      have hcz26_0 : wc.cell? ⟨gb105, 0, none⟩ = some (.string t101) := (blk_cell BK105.out 0).trans rfl
      have hcz26_1 : wc.cell? ⟨gb105, 1, none⟩ = some (.slice Ao10 t102.length co10) := (blk_cell BK105.out 1).trans rfl
      have hfz26_0 := blk_frozen BK105.out 0
      have hfz26_1 := blk_frozen BK105.out 1
      go_wp2_with (first | ((with_reducible refine gate_callee (f := 27) rfl ?_); refine goesL_ (some 30) rfl rfl Tryd.func27 (by kernel_rfl) rfl #[.agg #[.string t101, .slice Ao10 t102.length co10]] rfl q72_1 ?_; (with_reducible refine (spec_GramOk.calls kj5 t101 _ _ t102 true _ ?side1 ?side2 A24.out).mono ?_); (case side1 => repeat (first | exact (Kd.R_reads' HO_106001.out).2.2 | (with_reducible refine Kd.C_alloc ?_ _) | (with_reducible refine Kd.C_drewN ?_ _) | (with_reducible refine Kd.C_drew ?_))); (case side2 => exact (Kd.R_reads' HO_106001.out).2.1); rintro e w27 ⟨rfl, hb⟩; refine ⟨_, rfl, ?_⟩; have n0_ := Aside0.mk (Kd.R_below q72_7 hb); have n1_ := Aside0.mk (blk_below (g := gb105) (o := .cells #[.string t101, .slice Ao10 t102.length co10] 25 (0, 0)) q72_3 hb); have n2_ := Aside0.mk (below_step q72_2 hb); clear HO_106001; clear BK105; clear HB; have HO_106001 := n0_; have BK105 := n1_; have HB := n2_; clear n0_ n1_ n2_; (try clear hb); (try clear hb2); (try clear hk); (try clear hi)))
      go_loopg [6] kj5 (fun kq v6 w' => ∃ (x6_2 : Int), v6 = .int .i64 x6_2 ∧ Aside0 (laws_FnGramSigns.l0 kq t106 t107 x6_2 t101 t102 = some r) ∧ Aside0 (kq ≤ kj5) ∧ Aside0 (Kd.R k46 46 w' w.heap.size (fun _ => True) (.slice Ao10 t102.length co10) t102) ∧ Aside0 (w'.heap[gb105]? = some (.cells #[.string t101, (.slice Ao10 t102.length co10)] 25 (0, 0))) ∧ Aside0 (Below w.heap.size w w'))
      case atStart => exact ⟨(0), (by first | rfl | (simp; done) | (simp [*]; done)), H', ⟨Nat.le_refl _⟩, ⟨by (with_reducible repeat (first | apply Kd.R_alloc | apply Kd.R_drewN | apply Kd.R_drew)); exact HO_106001.out⟩, ⟨by (with_reducible repeat (first | refine blk_drewN ?_ _ | refine blk_drew ?_ | refine blk_alloc ?_ _)); exact BK105.out⟩, ⟨by repeat (first | (with_reducible first | exact HB.out | apply below_alloc | apply pw_below_drewN | apply below_drew1 | refine below_set ?_ GE105.out) | exact HB.out)⟩⟩
      case round =>
       clear H'
       try clear c1
       try clear c2
       try clear c2b0
       try clear c2b1
       try clear p2
       try clear c4
       try clear c15
       try clear c15b0
       try clear c15b1
       try clear c22
       try clear c23
       try clear c24
       try clear c25
       try clear c27
       try clear hcz12_0
       try clear hcz12_1
       try clear hcz17_0
       try clear hcz17_1
       try clear hcz19_0
       try clear hcz19_1
       try clear hcz21_0
       try clear hcz21_1
       try clear hcz26_0
       try clear hcz26_1
       try clear hcz9_0
       try clear hcz9_1
       try clear hfz12_0
       try clear hfz12_1
       try clear hfz17_0
       try clear hfz17_1
       try clear hfz19_0
       try clear hfz19_1
       try clear hfz21_0
       try clear hfz21_1
       try clear hfz26_0
       try clear hfz26_1
       try clear hfz9_0
       try clear hfz9_1
       try clear p2
       obtain ⟨x6_2, rfl, HA, HK2, HO_106001, BK105, HB⟩ := hrel
       cases gk with
       | zero => exact absurd HA.out (by simp [laws_FnGramSigns.l0])
       | succ k2 =>
        have H := HA.out
        clear HA
        simp only [laws_FnGramSigns.l0] at H
        by_cases c28 : x6_2 < (t106.size : Int)
        ·rw [if_pos c28] at H
         have c28b0 : decide (x6_2 < (t106.size : Int)) = true := decide_eq_true c28
         clear c28
         by_cases c29 : 0 ≤ x6_2
         ·rw [if_pos c29] at H
          have c29b0 := eq_true c29
          have c29b1 : decide (0 ≤ x6_2) = true := decide_eq_true c29
          clear c29
          by_cases c30 : x6_2 ≤ (wrap64 (x6_2 + 1))
          ·rw [if_pos c30] at H
           have c30b0 := eq_true c30
           have c30b1 : decide (x6_2 ≤ (wrap64 (x6_2 + 1))) = true := decide_eq_true c30
           by_cases c31 : (wrap64 (x6_2 + 1)) ≤ (t106.size : Int)
           ·rw [if_pos c31] at H
            have c31b0 := eq_true c31
            have c31b1 : decide ((wrap64 (x6_2 + 1)) ≤ (t106.size : Int)) = true := decide_eq_true c31
            replace H := Option.bind_eq_some_iff.mp H
            obtain ⟨t111, A320, H⟩ := H
            replace H : (if t111 = true then (if x6_2 > 0 then (if 0 ≤ (wrap64 (x6_2 - 1)) then (if (wrap64 (x6_2 - 1)) < (t106.size : Int) then (if (bt t106 (wrap64 (x6_2 - 1))) ≥ (bt t106 x6_2) then (some false) else (laws_FnGramSigns.l0 k2 t106 t107 (wrap64 (x6_2 + 1)) t101 t102)) else (none)) else (none)) else (laws_FnGramSigns.l0 k2 t106 t107 (wrap64 (x6_2 + 1)) t101 t102)) else (some false)) = some r := H
            have A32 := Aside0.mk A320
            clear A320
            by_cases c33 : t111 = true
            ·subst c33
             have H1 : (if x6_2 > 0 then (if 0 ≤ (wrap64 (x6_2 - 1)) then (if (wrap64 (x6_2 - 1)) < (t106.size : Int) then (if (bt t106 (wrap64 (x6_2 - 1))) ≥ (bt t106 x6_2) then (some false) else (laws_FnGramSigns.l0 k2 t106 t107 (wrap64 (x6_2 + 1)) t101 t102)) else (none)) else (none)) else (laws_FnGramSigns.l0 k2 t106 t107 (wrap64 (x6_2 + 1)) t101 t102)) = some r := by rw [if_pos rfl] at H; exact H
             clear H
             have H := H1
             clear H1
             by_cases c34 : x6_2 > 0
             ·rw [if_pos c34] at H
              have c34b0 : decide (0 < x6_2) = true := decide_eq_true c34
              clear c34
              obtain ⟨ji35, hji35⟩ : ∃ j_ : Int, (wrap64 (x6_2 - 1)) = j_ := ⟨_, rfl⟩
              replace H : (if 0 ≤ (ji35) then (if (ji35) < (t106.size : Int) then (if (bt t106 (ji35)) ≥ (bt t106 x6_2) then (some false) else (laws_FnGramSigns.l0 k2 t106 t107 (wrap64 (x6_2 + 1)) t101 t102)) else (none)) else (none)) = some r := by first | (rw [hji35] at H; exact H) | (simp only [hji35] at H ⊢; exact H)
              (try rw [hji35] at A32)
              have hji35w : (IntKind.i64.wrap (x6_2 - 1)) = ji35 := (i64_w _).trans hji35
              by_cases c36 : 0 ≤ (ji35)
              ·rw [if_pos c36] at H
               have c36b0 : decide (0 ≤ (ji35)) = true := decide_eq_true c36
               clear c36
               by_cases c37 : (ji35) < (t106.size : Int)
               ·rw [if_pos c37] at H
                have c37b0 : decide ((ji35) < (t106.size : Int)) = true := decide_eq_true c37
                clear c37
                by_cases c40 : (bt t106 (ji35)) ≥ (bt t106 x6_2)
                ·rw [if_pos c40] at H
                 have c40b0 : decide ((bt t106 x6_2) ≤ (bt t106 (ji35))) = true := decide_eq_true c40
                 clear c40
                 obtain rfl := Option.some.inj H
                 try go_wp2
                 have n0_ := Aside0.mk (Kd.R_drew HO_106001.out)
                 have n1_ := Aside0.mk (blk_drew BK105.out)
                 have n2_ := Aside0.mk (below_drew1 HB.out)
                 clear HO_106001
                 clear BK105
                 clear HB
                 have HO_106001 := n0_
                 have BK105 := n1_
                 have HB := n2_
                 clear n0_ n1_ n2_
                 refine start_ (n := 21) (S := fun w' => True) (ds := []) #[false, false, false, false, false, false, false, false, false, false, false, false, false, false, false, false, false, false, false, false, false] (by kernel_rfl) rfl rfl trivial (fun hHeld => ?_); refine with_tabW laws_FnGramSigns.tab13 laws_FnGramSigns.bits13 (fun HT_ HW_ => ?_)
                 generalize wr.drew = w41 at HO_106001 BK105 HB hHeld ⊢
                 refine pure_ (i := 0) (N := some 44) (v := ?_) (a' := ?_) #[true, false, false, false, false, false, false, false, false, false, false, false, false, false, false, false, false, false, false, false, false] rfl rfl (any_of HT_.out (by kernel_rfl)) (fun _ _ _ h => h) (Or.inl ⟨by rfl, ?_⟩) ?_ ?_
                 rotate_left
                 ·intro w'
                  go_simp
                  with_reducible rfl
                 rotate_left
                 ·simp only [Act.put, List.setIfInBounds_toArray, List.set_cons_zero, List.set_cons_succ, i64_w, i32_w]
                  rfl
                 refine pure_ (i := 1) (N := some 45) (v := ?_) (a' := ?_) #[true, true, false, false, false, false, false, false, false, false, false, false, false, false, false, false, false, false, false, false, false] rfl rfl (any_of HT_.out (by kernel_rfl)) (fun _ _ _ h => h) (Or.inl ⟨by rfl, ?_⟩) ?_ ?_
                 rotate_left
                 ·intro w'
                  go_simp
                  with_reducible rfl
                 rotate_left
                 ·simp only [Act.put, List.setIfInBounds_toArray, List.set_cons_zero, List.set_cons_succ, i64_w, i32_w]
                  rfl
                 refine pure_ (i := 2) (N := some 46) (v := ?_) (a' := ?_) #[true, true, true, false, false, false, false, false, false, false, false, false, false, false, false, false, false, false, false, false, false] rfl rfl (any_of HT_.out (by kernel_rfl)) (fun _ _ _ h => h) (Or.inl ⟨by rfl, ?_⟩) ?_ ?_
                 rotate_left
                 ·intro w'
                  go_simp
                  with_reducible rfl
                 rotate_left
                 ·simp only [Act.put, List.setIfInBounds_toArray, List.set_cons_zero, List.set_cons_succ, i64_w, i32_w]
                  rfl
                 refine pure_ (i := 3) (N := some 47) (v := ?_) (a' := ?_) #[true, true, true, true, false, false, false, false, false, false, false, false, false, false, false, false, false, false, false, false, false] rfl rfl (any_of HT_.out (by kernel_rfl)) (fun _ _ _ h => h) (Or.inl ⟨by rfl, ?_⟩) ?_ ?_
                 rotate_left
                 ·intro w'
                  go_simp
                  with_reducible rfl
                 rotate_left
                 ·simp only [Act.put, List.setIfInBounds_toArray, List.set_cons_zero, List.set_cons_succ, i64_w, i32_w]
                  rfl
                 refine pure_ (i := 4) (N := some 48) (v := ?_) (a' := ?_) #[true, true, true, true, true, false, false, false, false, false, false, false, false, false, false, false, false, false, false, false, false] rfl rfl (any_of HT_.out (by kernel_rfl)) (fun _ _ _ h => h) (Or.inl ⟨by rfl, ?_⟩) ?_ ?_
                 rotate_left
                 ·intro w'
                  go_simp
                  with_reducible rfl
                 rotate_left
                 ·simp only [Act.put, List.setIfInBounds_toArray, List.set_cons_zero, List.set_cons_succ, i64_w, i32_w]
                  rfl
                 refine one_ (i := 5) (N := some 49) #[true, true, true, true, true, true, false, false, false, false, false, false, false, false, false, false, false, false, false, false, false] rfl rfl (one_of HT_.out (by kernel_rfl)) (by decide) (fun K hK => ?_)
                 refine goes_ Tryd.func28 (by kernel_rfl) rfl #[.string (t106.extract (x6_2 : Int).toNat ((wrap64 (x6_2 + 1)) : Int).toNat)] (by rfl) rfl rfl q72_1 ?_
                 with_reducible refine (impl_SignBig.calls (t106.extract (x6_2 : Int).toNat ((wrap64 (x6_2 + 1)) : Int).toNat) true _ A32.out).mono ?_
                 rintro e w' ⟨rfl, ⟨nd, rfl⟩⟩
                 refine ⟨_, rfl, ?_⟩
                 have p38 : 0 ≤ ((ji35) : Int) := of_decide_eq_true (by first | (with_reducible assumption) | assumption)
                 have q38 : (ji35) < (t106.size : Int) := of_decide_eq_true (by first | (with_reducible assumption) | assumption)
                 have hx38 := bt_at t106 (ji35)
                 replace p38 := eq_true p38
                 replace q38 := eq_true q38
                 have p39 : 0 ≤ (x6_2 : Int) := of_decide_eq_true (by first | (with_reducible assumption) | assumption)
                 have q39 : x6_2 < (t106.size : Int) := of_decide_eq_true (by first | (with_reducible assumption) | assumption)
                 have hx39 := bt_at t106 x6_2
                 replace p39 := eq_true p39
                 replace q39 := eq_true q39
                 refine hK.out _ _ trivial (fun hHeld => ?_)
                 clear hK K
                 refine norm_ (a' := ?_) ?_ ?_
                 rotate_left
                 ·show Act.put _ (some 49) _ = _
                  simp only [Act.put, List.setIfInBounds_toArray, List.set_cons_zero, List.set_cons_succ, i64_w, i32_w]
                  rfl
                 refine pure_ (i := 6) (N := some 50) (v := ?_) (a' := ?_) #[true, true, true, true, true, true, true, false, false, false, false, false, false, false, false, false, false, false, false, false, false] rfl rfl (any_of HT_.out (by kernel_rfl)) (fun _ _ _ h => h) (Or.inl ⟨by rfl, ?_⟩) ?_ ?_
                 rotate_left
                 ·intro w'
                  go_simp
                  with_reducible rfl
                 rotate_left
                 ·simp only [Act.put, List.setIfInBounds_toArray, List.set_cons_zero, List.set_cons_succ, i64_w, i32_w]
                  rfl
                 refine pure_ (i := 7) (N := some 51) (v := ?_) (a' := ?_) #[true, true, true, true, true, true, true, true, false, false, false, false, false, false, false, false, false, false, false, false, false] rfl rfl (any_of HT_.out (by kernel_rfl)) (fun _ _ _ h => h) (Or.inl ⟨by rfl, ?_⟩) ?_ ?_
                 rotate_left
                 ·intro w'
                  go_simp
                  with_reducible rfl
                 rotate_left
                 ·simp only [Act.put, List.setIfInBounds_toArray, List.set_cons_zero, List.set_cons_succ, i64_w, i32_w]
                  rfl
                 refine pure_ (i := 8) (N := some 52) (v := ?_) (a' := ?_) #[true, true, true, true, true, true, true, true, true, false, false, false, false, false, false, false, false, false, false, false, false] rfl rfl (any_of HT_.out (by kernel_rfl)) (fun _ _ _ h => h) (Or.inl ⟨by rfl, ?_⟩) ?_ ?_
                 rotate_left
                 ·intro w'
                  go_simp
                  with_reducible rfl
                 rotate_left
                 ·simp only [Act.put, List.setIfInBounds_toArray, List.set_cons_zero, List.set_cons_succ, i64_w, i32_w]
                  rfl
                 refine pure_ (i := 9) (N := some 53) (v := ?_) (a' := ?_) #[true, true, true, true, true, true, true, true, true, true, false, false, false, false, false, false, false, false, false, false, false] rfl rfl (any_of HT_.out (by kernel_rfl)) (fun _ _ _ h => h) (Or.inl ⟨by rfl, ?_⟩) ?_ ?_
                 rotate_left
                 ·intro w'
                  go_simp
                  with_reducible rfl
                 rotate_left
                 ·simp only [Act.put, List.setIfInBounds_toArray, List.set_cons_zero, List.set_cons_succ, i64_w, i32_w]
                  rfl
                 refine pure_ (i := 10) (N := some 54) (v := ?_) (a' := ?_) #[true, true, true, true, true, true, true, true, true, true, true, false, false, false, false, false, false, false, false, false, false] rfl rfl (any_of HT_.out (by kernel_rfl)) (fun _ _ _ h => h) (Or.inl ⟨by rfl, ?_⟩) ?_ ?_
                 rotate_left
                 ·intro w'
                  go_simp
                  with_reducible rfl
                 rotate_left
                 ·simp only [Act.put, List.setIfInBounds_toArray, List.set_cons_zero, List.set_cons_succ, i64_w, i32_w]
                  rfl
                 refine pure_ (i := 11) (N := some 55) (v := ?_) (a' := ?_) #[true, true, true, true, true, true, true, true, true, true, true, true, false, false, false, false, false, false, false, false, false] rfl rfl (any_of HT_.out (by kernel_rfl)) (fun _ _ _ h => h) (Or.inl ⟨by rfl, ?_⟩) ?_ ?_
                 rotate_left
                 ·intro w'
                  go_simp
                  with_reducible rfl
                 rotate_left
                 ·simp only [Act.put, List.setIfInBounds_toArray, List.set_cons_zero, List.set_cons_succ, i64_w, i32_w]
                  rfl
                 refine pure_ (i := 12) (N := some 56) (v := ?_) (a' := ?_) #[true, true, true, true, true, true, true, true, true, true, true, true, true, false, false, false, false, false, false, false, false] rfl rfl (any_of HT_.out (by kernel_rfl)) (fun _ _ _ h => h) (Or.inl ⟨by rfl, ?_⟩) ?_ ?_
                 rotate_left
                 ·intro w'
                  go_simp
                  with_reducible rfl
                 rotate_left
                 ·simp only [Act.put, List.setIfInBounds_toArray, List.set_cons_zero, List.set_cons_succ, i64_w, i32_w]
                  rfl
                 refine pure_ (i := 13) (N := some 57) (v := ?_) (a' := ?_) #[true, true, true, true, true, true, true, true, true, true, true, true, true, true, false, false, false, false, false, false, false] rfl rfl (any_of HT_.out (by kernel_rfl)) (fun _ _ _ h => h) (Or.inl ⟨by rfl, ?_⟩) ?_ ?_
                 rotate_left
                 ·intro w'
                  go_simp
                  with_reducible rfl
                 rotate_left
                 ·simp only [Act.put, List.setIfInBounds_toArray, List.set_cons_zero, List.set_cons_succ, i64_w, i32_w]
                  rfl
                 refine pure_ (i := 15) (N := some 59) (v := ?_) (a' := ?_) #[true, true, true, true, true, true, true, true, true, true, true, true, true, true, false, true, false, false, false, false, false] rfl rfl (any_of HT_.out (by kernel_rfl)) (fun _ _ _ h => h) (Or.inl ⟨by rfl, ?_⟩) ?_ ?_
                 rotate_left
                 ·intro w'
                  go_simp
                  with_reducible rfl
                 rotate_left
                 ·simp only [Act.put, List.setIfInBounds_toArray, List.set_cons_zero, List.set_cons_succ, i64_w, i32_w]
                  rfl
                 refine pure_ (i := 16) (N := some 60) (v := ?_) (a' := ?_) #[true, true, true, true, true, true, true, true, true, true, true, true, true, true, false, true, true, false, false, false, false] rfl rfl (any_of HT_.out (by kernel_rfl)) (fun _ _ _ h => h) (Or.inl ⟨by rfl, ?_⟩) ?_ ?_
                 rotate_left
                 ·intro w'
                  go_simp
                  with_reducible rfl
                 rotate_left
                 ·simp only [Act.put, List.setIfInBounds_toArray, List.set_cons_zero, List.set_cons_succ, i64_w, i32_w]
                  rfl
                 refine take_ (i := 14) (N := some 58) (v := ?_) (a' := ?_) #[true, true, true, true, true, true, true, true, true, true, true, true, true, true, true, true, true, false, false, false, false] rfl rfl (take_ofW HT_.out HW_.out (by kernel_rfl)) (fun _ _ _ h => h) (Or.inl ⟨by rfl, ?_⟩) hHeld ?_ ?_
                 rotate_left
                 ·intro w' _
                  go_simp
                  with_reducible rfl
                 rotate_left
                 ·simp only [Act.put, List.setIfInBounds_toArray, List.set_cons_zero, List.set_cons_succ, i64_w, i32_w]
                  rfl
                 refine take_ (i := 17) (N := some 61) (v := ?_) (a' := ?_) #[true, true, true, true, true, true, true, true, true, true, true, true, true, true, true, true, true, true, false, false, false] rfl rfl (take_ofW HT_.out HW_.out (by kernel_rfl)) (fun _ _ _ h => h) (Or.inl ⟨by rfl, ?_⟩) hHeld ?_ ?_
                 rotate_left
                 ·intro w' _
                  go_simp
                  with_reducible rfl
                 rotate_left
                 ·simp only [Act.put, List.setIfInBounds_toArray, List.set_cons_zero, List.set_cons_succ, i64_w, i32_w]
                  rfl
                 refine pure_ (i := 18) (N := some 62) (v := ?_) (a' := ?_) #[true, true, true, true, true, true, true, true, true, true, true, true, true, true, true, true, true, true, true, false, false] rfl rfl (any_of HT_.out (by kernel_rfl)) (fun _ _ _ h => h) (Or.inl ⟨by rfl, ?_⟩) ?_ ?_
                 rotate_left
                 ·intro w'
                  go_simp
                  with_reducible rfl
                 rotate_left
                 ·simp only [Act.put, List.setIfInBounds_toArray, List.set_cons_zero, List.set_cons_succ, i64_w, i32_w]
                  rfl
                 refine pure_ (i := 19) (N := some 63) (v := ?_) (a' := ?_) #[true, true, true, true, true, true, true, true, true, true, true, true, true, true, true, true, true, true, true, true, false] rfl rfl (any_of HT_.out (by kernel_rfl)) (fun _ _ _ h => h) (Or.inl ⟨by rfl, ?_⟩) ?_ ?_
                 rotate_left
                 ·intro w'
                  go_simp
                  with_reducible rfl
                 rotate_left
                 ·simp only [Act.put, List.setIfInBounds_toArray, List.set_cons_zero, List.set_cons_succ, i64_w, i32_w]
                  rfl
                 refine pure_ (i := 20) (N := some 64) (v := ?_) (a' := ?_) #[true, true, true, true, true, true, true, true, true, true, true, true, true, true, true, true, true, true, true, true, true] rfl rfl (any_of HT_.out (by kernel_rfl)) (fun _ _ _ h => h) (Or.inl ⟨by rfl, ?_⟩) ?_ ?_
                 rotate_left
                 ·intro w'
                  go_simp
                  with_reducible rfl
                 rotate_left
                 ·simp only [Act.put, List.setIfInBounds_toArray, List.set_cons_zero, List.set_cons_succ, i64_w, i32_w]
                  rfl
                 refine done_ (done_of HT_.out (by kernel_rfl)) ?_
                 try go_wp2
                 go_ret
                 exact ⟨by first | rfl | (simp [errW_none, errW_some] <;> rfl) | (simp only [← hji35]; first | rfl | (simp [errW_none, errW_some] <;> rfl)) | (simp [*, errW_none, errW_some] <;> rfl), by repeat (first | (with_reducible first | exact HB.out | apply below_alloc | apply pw_below_drewN | apply below_drew1 | refine below_set ?_ GE105.out) | exact HB.out)⟩
                ·rw [if_neg c40] at H
                 have c40b0 : decide ((bt t106 x6_2) ≤ (bt t106 (ji35))) = false := decide_eq_false c40
                 clear c40
                 have H' := Aside0.mk H
                 clear H
                 try go_wp2
                 have n0_ := Aside0.mk (Kd.R_drew HO_106001.out)
                 have n1_ := Aside0.mk (blk_drew BK105.out)
                 have n2_ := Aside0.mk (below_drew1 HB.out)
                 clear HO_106001
                 clear BK105
                 clear HB
                 have HO_106001 := n0_
                 have BK105 := n1_
                 have HB := n2_
                 clear n0_ n1_ n2_
                 refine start_ (n := 21) (S := fun w' => True) (ds := []) #[false, false, false, false, false, false, false, false, false, false, false, false, false, false, false, false, false, false, false, false, false] (by kernel_rfl) rfl rfl trivial (fun hHeld => ?_); refine with_tabW laws_FnGramSigns.tab13 laws_FnGramSigns.bits13 (fun HT_ HW_ => ?_)
                 generalize wr.drew = w42 at HO_106001 BK105 HB hHeld ⊢
                 refine pure_ (i := 0) (N := some 44) (v := ?_) (a' := ?_) #[true, false, false, false, false, false, false, false, false, false, false, false, false, false, false, false, false, false, false, false, false] rfl rfl (any_of HT_.out (by kernel_rfl)) (fun _ _ _ h => h) (Or.inl ⟨by rfl, ?_⟩) ?_ ?_
                 rotate_left
                 ·intro w'
                  go_simp
                  with_reducible rfl
                 rotate_left
                 ·simp only [Act.put, List.setIfInBounds_toArray, List.set_cons_zero, List.set_cons_succ, i64_w, i32_w]
                  rfl
                 refine pure_ (i := 1) (N := some 45) (v := ?_) (a' := ?_) #[true, true, false, false, false, false, false, false, false, false, false, false, false, false, false, false, false, false, false, false, false] rfl rfl (any_of HT_.out (by kernel_rfl)) (fun _ _ _ h => h) (Or.inl ⟨by rfl, ?_⟩) ?_ ?_
                 rotate_left
                 ·intro w'
                  go_simp
                  with_reducible rfl
                 rotate_left
                 ·simp only [Act.put, List.setIfInBounds_toArray, List.set_cons_zero, List.set_cons_succ, i64_w, i32_w]
                  rfl
                 refine pure_ (i := 2) (N := some 46) (v := ?_) (a' := ?_) #[true, true, true, false, false, false, false, false, false, false, false, false, false, false, false, false, false, false, false, false, false] rfl rfl (any_of HT_.out (by kernel_rfl)) (fun _ _ _ h => h) (Or.inl ⟨by rfl, ?_⟩) ?_ ?_
                 rotate_left
                 ·intro w'
                  go_simp
                  with_reducible rfl
                 rotate_left
                 ·simp only [Act.put, List.setIfInBounds_toArray, List.set_cons_zero, List.set_cons_succ, i64_w, i32_w]
                  rfl
                 refine pure_ (i := 3) (N := some 47) (v := ?_) (a' := ?_) #[true, true, true, true, false, false, false, false, false, false, false, false, false, false, false, false, false, false, false, false, false] rfl rfl (any_of HT_.out (by kernel_rfl)) (fun _ _ _ h => h) (Or.inl ⟨by rfl, ?_⟩) ?_ ?_
                 rotate_left
                 ·intro w'
                  go_simp
                  with_reducible rfl
                 rotate_left
                 ·simp only [Act.put, List.setIfInBounds_toArray, List.set_cons_zero, List.set_cons_succ, i64_w, i32_w]
                  rfl
                 refine pure_ (i := 4) (N := some 48) (v := ?_) (a' := ?_) #[true, true, true, true, true, false, false, false, false, false, false, false, false, false, false, false, false, false, false, false, false] rfl rfl (any_of HT_.out (by kernel_rfl)) (fun _ _ _ h => h) (Or.inl ⟨by rfl, ?_⟩) ?_ ?_
                 rotate_left
                 ·intro w'
                  go_simp
                  with_reducible rfl
                 rotate_left
                 ·simp only [Act.put, List.setIfInBounds_toArray, List.set_cons_zero, List.set_cons_succ, i64_w, i32_w]
                  rfl
                 refine one_ (i := 5) (N := some 49) #[true, true, true, true, true, true, false, false, false, false, false, false, false, false, false, false, false, false, false, false, false] rfl rfl (one_of HT_.out (by kernel_rfl)) (by decide) (fun K hK => ?_)
                 refine goes_ Tryd.func28 (by kernel_rfl) rfl #[.string (t106.extract (x6_2 : Int).toNat ((wrap64 (x6_2 + 1)) : Int).toNat)] (by rfl) rfl rfl q72_1 ?_
                 with_reducible refine (impl_SignBig.calls (t106.extract (x6_2 : Int).toNat ((wrap64 (x6_2 + 1)) : Int).toNat) true _ A32.out).mono ?_
                 rintro e w' ⟨rfl, ⟨nd, rfl⟩⟩
                 refine ⟨_, rfl, ?_⟩
                 have p38 : 0 ≤ ((ji35) : Int) := of_decide_eq_true (by first | (with_reducible assumption) | assumption)
                 have q38 : (ji35) < (t106.size : Int) := of_decide_eq_true (by first | (with_reducible assumption) | assumption)
                 have hx38 := bt_at t106 (ji35)
                 replace p38 := eq_true p38
                 replace q38 := eq_true q38
                 have p39 : 0 ≤ (x6_2 : Int) := of_decide_eq_true (by first | (with_reducible assumption) | assumption)
                 have q39 : x6_2 < (t106.size : Int) := of_decide_eq_true (by first | (with_reducible assumption) | assumption)
                 have hx39 := bt_at t106 x6_2
                 replace p39 := eq_true p39
                 replace q39 := eq_true q39
                 refine hK.out _ _ trivial (fun hHeld => ?_)
                 clear hK K
                 refine norm_ (a' := ?_) ?_ ?_
                 rotate_left
                 ·show Act.put _ (some 49) _ = _
                  simp only [Act.put, List.setIfInBounds_toArray, List.set_cons_zero, List.set_cons_succ, i64_w, i32_w]
                  rfl
                 refine pure_ (i := 6) (N := some 50) (v := ?_) (a' := ?_) #[true, true, true, true, true, true, true, false, false, false, false, false, false, false, false, false, false, false, false, false, false] rfl rfl (any_of HT_.out (by kernel_rfl)) (fun _ _ _ h => h) (Or.inl ⟨by rfl, ?_⟩) ?_ ?_
                 rotate_left
                 ·intro w'
                  go_simp
                  with_reducible rfl
                 rotate_left
                 ·simp only [Act.put, List.setIfInBounds_toArray, List.set_cons_zero, List.set_cons_succ, i64_w, i32_w]
                  rfl
                 refine pure_ (i := 7) (N := some 51) (v := ?_) (a' := ?_) #[true, true, true, true, true, true, true, true, false, false, false, false, false, false, false, false, false, false, false, false, false] rfl rfl (any_of HT_.out (by kernel_rfl)) (fun _ _ _ h => h) (Or.inl ⟨by rfl, ?_⟩) ?_ ?_
                 rotate_left
                 ·intro w'
                  go_simp
                  with_reducible rfl
                 rotate_left
                 ·simp only [Act.put, List.setIfInBounds_toArray, List.set_cons_zero, List.set_cons_succ, i64_w, i32_w]
                  rfl
                 refine pure_ (i := 8) (N := some 52) (v := ?_) (a' := ?_) #[true, true, true, true, true, true, true, true, true, false, false, false, false, false, false, false, false, false, false, false, false] rfl rfl (any_of HT_.out (by kernel_rfl)) (fun _ _ _ h => h) (Or.inl ⟨by rfl, ?_⟩) ?_ ?_
                 rotate_left
                 ·intro w'
                  go_simp
                  with_reducible rfl
                 rotate_left
                 ·simp only [Act.put, List.setIfInBounds_toArray, List.set_cons_zero, List.set_cons_succ, i64_w, i32_w]
                  rfl
                 refine pure_ (i := 9) (N := some 53) (v := ?_) (a' := ?_) #[true, true, true, true, true, true, true, true, true, true, false, false, false, false, false, false, false, false, false, false, false] rfl rfl (any_of HT_.out (by kernel_rfl)) (fun _ _ _ h => h) (Or.inl ⟨by rfl, ?_⟩) ?_ ?_
                 rotate_left
                 ·intro w'
                  go_simp
                  with_reducible rfl
                 rotate_left
                 ·simp only [Act.put, List.setIfInBounds_toArray, List.set_cons_zero, List.set_cons_succ, i64_w, i32_w]
                  rfl
                 refine pure_ (i := 10) (N := some 54) (v := ?_) (a' := ?_) #[true, true, true, true, true, true, true, true, true, true, true, false, false, false, false, false, false, false, false, false, false] rfl rfl (any_of HT_.out (by kernel_rfl)) (fun _ _ _ h => h) (Or.inl ⟨by rfl, ?_⟩) ?_ ?_
                 rotate_left
                 ·intro w'
                  go_simp
                  with_reducible rfl
                 rotate_left
                 ·simp only [Act.put, List.setIfInBounds_toArray, List.set_cons_zero, List.set_cons_succ, i64_w, i32_w]
                  rfl
                 refine pure_ (i := 11) (N := some 55) (v := ?_) (a' := ?_) #[true, true, true, true, true, true, true, true, true, true, true, true, false, false, false, false, false, false, false, false, false] rfl rfl (any_of HT_.out (by kernel_rfl)) (fun _ _ _ h => h) (Or.inl ⟨by rfl, ?_⟩) ?_ ?_
                 rotate_left
                 ·intro w'
                  go_simp
                  with_reducible rfl
                 rotate_left
                 ·simp only [Act.put, List.setIfInBounds_toArray, List.set_cons_zero, List.set_cons_succ, i64_w, i32_w]
                  rfl
                 refine pure_ (i := 12) (N := some 56) (v := ?_) (a' := ?_) #[true, true, true, true, true, true, true, true, true, true, true, true, true, false, false, false, false, false, false, false, false] rfl rfl (any_of HT_.out (by kernel_rfl)) (fun _ _ _ h => h) (Or.inl ⟨by rfl, ?_⟩) ?_ ?_
                 rotate_left
                 ·intro w'
                  go_simp
                  with_reducible rfl
                 rotate_left
                 ·simp only [Act.put, List.setIfInBounds_toArray, List.set_cons_zero, List.set_cons_succ, i64_w, i32_w]
                  rfl
                 refine pure_ (i := 13) (N := some 57) (v := ?_) (a' := ?_) #[true, true, true, true, true, true, true, true, true, true, true, true, true, true, false, false, false, false, false, false, false] rfl rfl (any_of HT_.out (by kernel_rfl)) (fun _ _ _ h => h) (Or.inl ⟨by rfl, ?_⟩) ?_ ?_
                 rotate_left
                 ·intro w'
                  go_simp
                  with_reducible rfl
                 rotate_left
                 ·simp only [Act.put, List.setIfInBounds_toArray, List.set_cons_zero, List.set_cons_succ, i64_w, i32_w]
                  rfl
                 refine pure_ (i := 15) (N := some 59) (v := ?_) (a' := ?_) #[true, true, true, true, true, true, true, true, true, true, true, true, true, true, false, true, false, false, false, false, false] rfl rfl (any_of HT_.out (by kernel_rfl)) (fun _ _ _ h => h) (Or.inl ⟨by rfl, ?_⟩) ?_ ?_
                 rotate_left
                 ·intro w'
                  go_simp
                  with_reducible rfl
                 rotate_left
                 ·simp only [Act.put, List.setIfInBounds_toArray, List.set_cons_zero, List.set_cons_succ, i64_w, i32_w]
                  rfl
                 refine pure_ (i := 16) (N := some 60) (v := ?_) (a' := ?_) #[true, true, true, true, true, true, true, true, true, true, true, true, true, true, false, true, true, false, false, false, false] rfl rfl (any_of HT_.out (by kernel_rfl)) (fun _ _ _ h => h) (Or.inl ⟨by rfl, ?_⟩) ?_ ?_
                 rotate_left
                 ·intro w'
                  go_simp
                  with_reducible rfl
                 rotate_left
                 ·simp only [Act.put, List.setIfInBounds_toArray, List.set_cons_zero, List.set_cons_succ, i64_w, i32_w]
                  rfl
                 refine take_ (i := 14) (N := some 58) (v := ?_) (a' := ?_) #[true, true, true, true, true, true, true, true, true, true, true, true, true, true, true, true, true, false, false, false, false] rfl rfl (take_ofW HT_.out HW_.out (by kernel_rfl)) (fun _ _ _ h => h) (Or.inl ⟨by rfl, ?_⟩) hHeld ?_ ?_
                 rotate_left
                 ·intro w' _
                  go_simp
                  with_reducible rfl
                 rotate_left
                 ·simp only [Act.put, List.setIfInBounds_toArray, List.set_cons_zero, List.set_cons_succ, i64_w, i32_w]
                  rfl
                 refine take_ (i := 17) (N := some 61) (v := ?_) (a' := ?_) #[true, true, true, true, true, true, true, true, true, true, true, true, true, true, true, true, true, true, false, false, false] rfl rfl (take_ofW HT_.out HW_.out (by kernel_rfl)) (fun _ _ _ h => h) (Or.inl ⟨by rfl, ?_⟩) hHeld ?_ ?_
                 rotate_left
                 ·intro w' _
                  go_simp
                  with_reducible rfl
                 rotate_left
                 ·simp only [Act.put, List.setIfInBounds_toArray, List.set_cons_zero, List.set_cons_succ, i64_w, i32_w]
                  rfl
                 refine pure_ (i := 18) (N := some 62) (v := ?_) (a' := ?_) #[true, true, true, true, true, true, true, true, true, true, true, true, true, true, true, true, true, true, true, false, false] rfl rfl (any_of HT_.out (by kernel_rfl)) (fun _ _ _ h => h) (Or.inl ⟨by rfl, ?_⟩) ?_ ?_
                 rotate_left
                 ·intro w'
                  go_simp
                  with_reducible rfl
                 rotate_left
                 ·simp only [Act.put, List.setIfInBounds_toArray, List.set_cons_zero, List.set_cons_succ, i64_w, i32_w]
                  rfl
                 refine pure_ (i := 19) (N := some 63) (v := ?_) (a' := ?_) #[true, true, true, true, true, true, true, true, true, true, true, true, true, true, true, true, true, true, true, true, false] rfl rfl (any_of HT_.out (by kernel_rfl)) (fun _ _ _ h => h) (Or.inl ⟨by rfl, ?_⟩) ?_ ?_
                 rotate_left
                 ·intro w'
                  go_simp
                  with_reducible rfl
                 rotate_left
                 ·simp only [Act.put, List.setIfInBounds_toArray, List.set_cons_zero, List.set_cons_succ, i64_w, i32_w]
                  rfl
                 refine pure_ (i := 20) (N := some 64) (v := ?_) (a' := ?_) #[true, true, true, true, true, true, true, true, true, true, true, true, true, true, true, true, true, true, true, true, true] rfl rfl (any_of HT_.out (by kernel_rfl)) (fun _ _ _ h => h) (Or.inl ⟨by rfl, ?_⟩) ?_ ?_
                 rotate_left
                 ·intro w'
                  go_simp
                  with_reducible rfl
                 rotate_left
                 ·simp only [Act.put, List.setIfInBounds_toArray, List.set_cons_zero, List.set_cons_succ, i64_w, i32_w]
                  rfl
                 refine done_ (done_of HT_.out (by kernel_rfl)) ?_
                 try go_wp2
                 go_roundg k2
                 case measure => have := HJ5.out; have := HK2.out; omega
                 case rel => exact ⟨(wrap64 (x6_2 + 1)), (by first | rfl | (simp; done) | (simp [*]; done)), H', ⟨by have := HJ5.out; have := HK2.out; omega⟩, ⟨by (with_reducible repeat (first | apply Kd.R_alloc | apply Kd.R_drewN | apply Kd.R_drew)); exact HO_106001.out⟩, ⟨by (with_reducible repeat (first | refine blk_drewN ?_ _ | refine blk_drew ?_ | refine blk_alloc ?_ _)); exact BK105.out⟩, ⟨by repeat (first | (with_reducible first | exact HB.out | apply below_alloc | apply pw_below_drewN | apply below_drew1 | refine below_set ?_ GE105.out) | exact HB.out)⟩⟩
               ·rw [if_neg c37] at H
                exact absurd H (by simp)
              ·rw [if_neg c36] at H
               exact absurd H (by simp)
             ·rw [if_neg c34] at H
              have c34b0 : decide (0 < x6_2) = false := decide_eq_false c34
              clear c34
              have H' := Aside0.mk H
              clear H
              try go_wp2
              have n0_ := Aside0.mk (Kd.R_drew HO_106001.out)
              have n1_ := Aside0.mk (blk_drew BK105.out)
              have n2_ := Aside0.mk (below_drew1 HB.out)
              clear HO_106001
              clear BK105
              clear HB
              have HO_106001 := n0_
              have BK105 := n1_
              have HB := n2_
              clear n0_ n1_ n2_
              refine start_ (n := 21) (S := fun w' => True) (ds := []) #[false, false, false, false, false, false, false, false, false, false, false, false, false, false, false, false, false, false, false, false, false] (by kernel_rfl) rfl rfl trivial (fun hHeld => ?_); refine with_tabW laws_FnGramSigns.tab13 laws_FnGramSigns.bits13 (fun HT_ HW_ => ?_)
              generalize wr.drew = w43 at HO_106001 BK105 HB hHeld ⊢
              refine pure_ (i := 0) (N := some 44) (v := ?_) (a' := ?_) #[true, false, false, false, false, false, false, false, false, false, false, false, false, false, false, false, false, false, false, false, false] rfl rfl (any_of HT_.out (by kernel_rfl)) (fun _ _ _ h => h) (Or.inl ⟨by rfl, ?_⟩) ?_ ?_
              rotate_left
              ·intro w'
               go_simp
               with_reducible rfl
              rotate_left
              ·simp only [Act.put, List.setIfInBounds_toArray, List.set_cons_zero, List.set_cons_succ, i64_w, i32_w]
               rfl
              refine pure_ (i := 1) (N := some 45) (v := ?_) (a' := ?_) #[true, true, false, false, false, false, false, false, false, false, false, false, false, false, false, false, false, false, false, false, false] rfl rfl (any_of HT_.out (by kernel_rfl)) (fun _ _ _ h => h) (Or.inl ⟨by rfl, ?_⟩) ?_ ?_
              rotate_left
              ·intro w'
               go_simp
               with_reducible rfl
              rotate_left
              ·simp only [Act.put, List.setIfInBounds_toArray, List.set_cons_zero, List.set_cons_succ, i64_w, i32_w]
               rfl
              refine pure_ (i := 2) (N := some 46) (v := ?_) (a' := ?_) #[true, true, true, false, false, false, false, false, false, false, false, false, false, false, false, false, false, false, false, false, false] rfl rfl (any_of HT_.out (by kernel_rfl)) (fun _ _ _ h => h) (Or.inl ⟨by rfl, ?_⟩) ?_ ?_
              rotate_left
              ·intro w'
               go_simp
               with_reducible rfl
              rotate_left
              ·simp only [Act.put, List.setIfInBounds_toArray, List.set_cons_zero, List.set_cons_succ, i64_w, i32_w]
               rfl
              refine pure_ (i := 3) (N := some 47) (v := ?_) (a' := ?_) #[true, true, true, true, false, false, false, false, false, false, false, false, false, false, false, false, false, false, false, false, false] rfl rfl (any_of HT_.out (by kernel_rfl)) (fun _ _ _ h => h) (Or.inl ⟨by rfl, ?_⟩) ?_ ?_
              rotate_left
              ·intro w'
               go_simp
               with_reducible rfl
              rotate_left
              ·simp only [Act.put, List.setIfInBounds_toArray, List.set_cons_zero, List.set_cons_succ, i64_w, i32_w]
               rfl
              refine pure_ (i := 4) (N := some 48) (v := ?_) (a' := ?_) #[true, true, true, true, true, false, false, false, false, false, false, false, false, false, false, false, false, false, false, false, false] rfl rfl (any_of HT_.out (by kernel_rfl)) (fun _ _ _ h => h) (Or.inl ⟨by rfl, ?_⟩) ?_ ?_
              rotate_left
              ·intro w'
               go_simp
               with_reducible rfl
              rotate_left
              ·simp only [Act.put, List.setIfInBounds_toArray, List.set_cons_zero, List.set_cons_succ, i64_w, i32_w]
               rfl
              refine one_ (i := 5) (N := some 49) #[true, true, true, true, true, true, false, false, false, false, false, false, false, false, false, false, false, false, false, false, false] rfl rfl (one_of HT_.out (by kernel_rfl)) (by decide) (fun K hK => ?_)
              refine goes_ Tryd.func28 (by kernel_rfl) rfl #[.string (t106.extract (x6_2 : Int).toNat ((wrap64 (x6_2 + 1)) : Int).toNat)] (by rfl) rfl rfl q72_1 ?_
              with_reducible refine (impl_SignBig.calls (t106.extract (x6_2 : Int).toNat ((wrap64 (x6_2 + 1)) : Int).toNat) true _ A32.out).mono ?_
              rintro e w' ⟨rfl, ⟨nd, rfl⟩⟩
              refine ⟨_, rfl, ?_⟩
              refine hK.out _ _ trivial (fun hHeld => ?_)
              clear hK K
              refine norm_ (a' := ?_) ?_ ?_
              rotate_left
              ·show Act.put _ (some 49) _ = _
               simp only [Act.put, List.setIfInBounds_toArray, List.set_cons_zero, List.set_cons_succ, i64_w, i32_w]
               rfl
              refine pure_ (i := 6) (N := some 50) (v := ?_) (a' := ?_) #[true, true, true, true, true, true, true, false, false, false, false, false, false, false, false, false, false, false, false, false, false] rfl rfl (any_of HT_.out (by kernel_rfl)) (fun _ _ _ h => h) (Or.inl ⟨by rfl, ?_⟩) ?_ ?_
              rotate_left
              ·intro w'
               go_simp
               with_reducible rfl
              rotate_left
              ·simp only [Act.put, List.setIfInBounds_toArray, List.set_cons_zero, List.set_cons_succ, i64_w, i32_w]
               rfl
              refine pure_ (i := 7) (N := some 51) (v := ?_) (a' := ?_) #[true, true, true, true, true, true, true, true, false, false, false, false, false, false, false, false, false, false, false, false, false] rfl rfl (any_of HT_.out (by kernel_rfl)) (fun _ _ _ h => h) (Or.inl ⟨by rfl, ?_⟩) ?_ ?_
              rotate_left
              ·intro w'
               go_simp
               with_reducible rfl
              rotate_left
              ·simp only [Act.put, List.setIfInBounds_toArray, List.set_cons_zero, List.set_cons_succ, i64_w, i32_w]
               rfl
              refine pure_ (i := 8) (N := some 52) (v := ?_) (a' := ?_) #[true, true, true, true, true, true, true, true, true, false, false, false, false, false, false, false, false, false, false, false, false] rfl rfl (any_of HT_.out (by kernel_rfl)) (fun _ _ _ h => h) (Or.inl ⟨by rfl, ?_⟩) ?_ ?_
              rotate_left
              ·intro w'
               go_simp
               with_reducible rfl
              rotate_left
              ·simp only [Act.put, List.setIfInBounds_toArray, List.set_cons_zero, List.set_cons_succ, i64_w, i32_w]
               rfl
              refine pure_ (i := 9) (N := some 53) (v := ?_) (a' := ?_) #[true, true, true, true, true, true, true, true, true, true, false, false, false, false, false, false, false, false, false, false, false] rfl rfl (any_of HT_.out (by kernel_rfl)) (fun _ _ _ h => h) (Or.inl ⟨by rfl, ?_⟩) ?_ ?_
              rotate_left
              ·intro w'
               go_simp
               with_reducible rfl
              rotate_left
              ·simp only [Act.put, List.setIfInBounds_toArray, List.set_cons_zero, List.set_cons_succ, i64_w, i32_w]
               rfl
              refine pure_ (i := 10) (N := some 54) (v := ?_) (a' := ?_) #[true, true, true, true, true, true, true, true, true, true, true, false, false, false, false, false, false, false, false, false, false] rfl rfl (any_of HT_.out (by kernel_rfl)) (fun _ _ _ h => h) (Or.inl ⟨by rfl, ?_⟩) ?_ ?_
              rotate_left
              ·intro w'
               go_simp
               with_reducible rfl
              rotate_left
              ·simp only [Act.put, List.setIfInBounds_toArray, List.set_cons_zero, List.set_cons_succ, i64_w, i32_w]
               rfl
              refine pure_ (i := 11) (N := some 55) (v := undef) (a' := ?_) #[true, true, true, true, true, true, true, true, true, true, true, true, false, false, false, false, false, false, false, false, false] rfl rfl (any_of HT_.out (by kernel_rfl)) (fun _ _ _ h => h) (Or.inr ⟨by rfl, rfl⟩) ?_ ?_
              rotate_left
              ·simp only [Act.put, List.setIfInBounds_toArray, List.set_cons_zero, List.set_cons_succ, i64_w, i32_w]
               rfl
              refine pure_ (i := 12) (N := some 56) (v := undef) (a' := ?_) #[true, true, true, true, true, true, true, true, true, true, true, true, true, false, false, false, false, false, false, false, false] rfl rfl (any_of HT_.out (by kernel_rfl)) (fun _ _ _ h => h) (Or.inr ⟨by rfl, rfl⟩) ?_ ?_
              rotate_left
              ·simp only [Act.put, List.setIfInBounds_toArray, List.set_cons_zero, List.set_cons_succ, i64_w, i32_w]
               rfl
              refine pure_ (i := 13) (N := some 57) (v := undef) (a' := ?_) #[true, true, true, true, true, true, true, true, true, true, true, true, true, true, false, false, false, false, false, false, false] rfl rfl (any_of HT_.out (by kernel_rfl)) (fun _ _ _ h => h) (Or.inr ⟨by rfl, rfl⟩) ?_ ?_
              rotate_left
              ·simp only [Act.put, List.setIfInBounds_toArray, List.set_cons_zero, List.set_cons_succ, i64_w, i32_w]
               rfl
              refine pure_ (i := 14) (N := some 58) (v := undef) (a' := ?_) #[true, true, true, true, true, true, true, true, true, true, true, true, true, true, true, false, false, false, false, false, false] rfl rfl (any_of HT_.out (by kernel_rfl)) (fun _ _ _ h => h) (Or.inr ⟨by rfl, rfl⟩) ?_ ?_
              rotate_left
              ·simp only [Act.put, List.setIfInBounds_toArray, List.set_cons_zero, List.set_cons_succ, i64_w, i32_w]
               rfl
              refine pure_ (i := 15) (N := some 59) (v := undef) (a' := ?_) #[true, true, true, true, true, true, true, true, true, true, true, true, true, true, true, true, false, false, false, false, false] rfl rfl (any_of HT_.out (by kernel_rfl)) (fun _ _ _ h => h) (Or.inr ⟨by rfl, rfl⟩) ?_ ?_
              rotate_left
              ·simp only [Act.put, List.setIfInBounds_toArray, List.set_cons_zero, List.set_cons_succ, i64_w, i32_w]
               rfl
              refine pure_ (i := 16) (N := some 60) (v := undef) (a' := ?_) #[true, true, true, true, true, true, true, true, true, true, true, true, true, true, true, true, true, false, false, false, false] rfl rfl (any_of HT_.out (by kernel_rfl)) (fun _ _ _ h => h) (Or.inr ⟨by rfl, rfl⟩) ?_ ?_
              rotate_left
              ·simp only [Act.put, List.setIfInBounds_toArray, List.set_cons_zero, List.set_cons_succ, i64_w, i32_w]
               rfl
              refine pure_ (i := 17) (N := some 61) (v := undef) (a' := ?_) #[true, true, true, true, true, true, true, true, true, true, true, true, true, true, true, true, true, true, false, false, false] rfl rfl (any_of HT_.out (by kernel_rfl)) (fun _ _ _ h => h) (Or.inr ⟨by rfl, rfl⟩) ?_ ?_
              rotate_left
              ·simp only [Act.put, List.setIfInBounds_toArray, List.set_cons_zero, List.set_cons_succ, i64_w, i32_w]
               rfl
              refine pure_ (i := 18) (N := some 62) (v := undef) (a' := ?_) #[true, true, true, true, true, true, true, true, true, true, true, true, true, true, true, true, true, true, true, false, false] rfl rfl (any_of HT_.out (by kernel_rfl)) (fun _ _ _ h => h) (Or.inr ⟨by rfl, rfl⟩) ?_ ?_
              rotate_left
              ·simp only [Act.put, List.setIfInBounds_toArray, List.set_cons_zero, List.set_cons_succ, i64_w, i32_w]
               rfl
              refine pure_ (i := 19) (N := some 63) (v := ?_) (a' := ?_) #[true, true, true, true, true, true, true, true, true, true, true, true, true, true, true, true, true, true, true, true, false] rfl rfl (any_of HT_.out (by kernel_rfl)) (fun _ _ _ h => h) (Or.inl ⟨by rfl, ?_⟩) ?_ ?_
              rotate_left
              ·intro w'
               go_simp
               with_reducible rfl
              rotate_left
              ·simp only [Act.put, List.setIfInBounds_toArray, List.set_cons_zero, List.set_cons_succ, i64_w, i32_w]
               rfl
              refine pure_ (i := 20) (N := some 64) (v := ?_) (a' := ?_) #[true, true, true, true, true, true, true, true, true, true, true, true, true, true, true, true, true, true, true, true, true] rfl rfl (any_of HT_.out (by kernel_rfl)) (fun _ _ _ h => h) (Or.inl ⟨by rfl, ?_⟩) ?_ ?_
              rotate_left
              ·intro w'
               go_simp
               with_reducible rfl
              rotate_left
              ·simp only [Act.put, List.setIfInBounds_toArray, List.set_cons_zero, List.set_cons_succ, i64_w, i32_w]
               rfl
              refine done_ (done_of HT_.out (by kernel_rfl)) ?_
              try go_wp2
              go_roundg k2
              case measure => have := HJ5.out; have := HK2.out; omega
              case rel => exact ⟨(wrap64 (x6_2 + 1)), (by first | rfl | (simp; done) | (simp [*]; done)), H', ⟨by have := HJ5.out; have := HK2.out; omega⟩, ⟨by (with_reducible repeat (first | apply Kd.R_alloc | apply Kd.R_drewN | apply Kd.R_drew)); exact HO_106001.out⟩, ⟨by (with_reducible repeat (first | refine blk_drewN ?_ _ | refine blk_drew ?_ | refine blk_alloc ?_ _)); exact BK105.out⟩, ⟨by repeat (first | (with_reducible first | exact HB.out | apply below_alloc | apply pw_below_drewN | apply below_drew1 | refine below_set ?_ GE105.out) | exact HB.out)⟩⟩
            ·replace c33 := Bool.eq_false_iff.mpr c33
             subst c33
             have H1 : (some false) = some r := by rw [if_neg (show ¬ (false = true) by decide)] at H; exact H
             clear H
             have H := H1
             clear H1
             obtain rfl := Option.some.inj H
             try go_wp2
             have n0_ := Aside0.mk (Kd.R_drew HO_106001.out)
             have n1_ := Aside0.mk (blk_drew BK105.out)
             have n2_ := Aside0.mk (below_drew1 HB.out)
             clear HO_106001
             clear BK105
             clear HB
             have HO_106001 := n0_
             have BK105 := n1_
             have HB := n2_
             clear n0_ n1_ n2_
             refine start_ (n := 21) (S := fun w' => True) (ds := []) #[false, false, false, false, false, false, false, false, false, false, false, false, false, false, false, false, false, false, false, false, false] (by kernel_rfl) rfl rfl trivial (fun hHeld => ?_); refine with_tabW laws_FnGramSigns.tab13 laws_FnGramSigns.bits13 (fun HT_ HW_ => ?_)
             generalize wr.drew = w44 at HO_106001 BK105 HB hHeld ⊢
             refine pure_ (i := 0) (N := some 44) (v := ?_) (a' := ?_) #[true, false, false, false, false, false, false, false, false, false, false, false, false, false, false, false, false, false, false, false, false] rfl rfl (any_of HT_.out (by kernel_rfl)) (fun _ _ _ h => h) (Or.inl ⟨by rfl, ?_⟩) ?_ ?_
             rotate_left
             ·intro w'
              go_simp
              with_reducible rfl
             rotate_left
             ·simp only [Act.put, List.setIfInBounds_toArray, List.set_cons_zero, List.set_cons_succ, i64_w, i32_w]
              rfl
             refine pure_ (i := 1) (N := some 45) (v := ?_) (a' := ?_) #[true, true, false, false, false, false, false, false, false, false, false, false, false, false, false, false, false, false, false, false, false] rfl rfl (any_of HT_.out (by kernel_rfl)) (fun _ _ _ h => h) (Or.inl ⟨by rfl, ?_⟩) ?_ ?_
             rotate_left
             ·intro w'
              go_simp
              with_reducible rfl
             rotate_left
             ·simp only [Act.put, List.setIfInBounds_toArray, List.set_cons_zero, List.set_cons_succ, i64_w, i32_w]
              rfl
             refine pure_ (i := 2) (N := some 46) (v := ?_) (a' := ?_) #[true, true, true, false, false, false, false, false, false, false, false, false, false, false, false, false, false, false, false, false, false] rfl rfl (any_of HT_.out (by kernel_rfl)) (fun _ _ _ h => h) (Or.inl ⟨by rfl, ?_⟩) ?_ ?_
             rotate_left
             ·intro w'
              go_simp
              with_reducible rfl
             rotate_left
             ·simp only [Act.put, List.setIfInBounds_toArray, List.set_cons_zero, List.set_cons_succ, i64_w, i32_w]
              rfl
             refine pure_ (i := 3) (N := some 47) (v := ?_) (a' := ?_) #[true, true, true, true, false, false, false, false, false, false, false, false, false, false, false, false, false, false, false, false, false] rfl rfl (any_of HT_.out (by kernel_rfl)) (fun _ _ _ h => h) (Or.inl ⟨by rfl, ?_⟩) ?_ ?_
             rotate_left
             ·intro w'
              go_simp
              with_reducible rfl
             rotate_left
             ·simp only [Act.put, List.setIfInBounds_toArray, List.set_cons_zero, List.set_cons_succ, i64_w, i32_w]
              rfl
             refine pure_ (i := 4) (N := some 48) (v := ?_) (a' := ?_) #[true, true, true, true, true, false, false, false, false, false, false, false, false, false, false, false, false, false, false, false, false] rfl rfl (any_of HT_.out (by kernel_rfl)) (fun _ _ _ h => h) (Or.inl ⟨by rfl, ?_⟩) ?_ ?_
             rotate_left
             ·intro w'
              go_simp
              with_reducible rfl
             rotate_left
             ·simp only [Act.put, List.setIfInBounds_toArray, List.set_cons_zero, List.set_cons_succ, i64_w, i32_w]
              rfl
             refine one_ (i := 5) (N := some 49) #[true, true, true, true, true, true, false, false, false, false, false, false, false, false, false, false, false, false, false, false, false] rfl rfl (one_of HT_.out (by kernel_rfl)) (by decide) (fun K hK => ?_)
             refine goes_ Tryd.func28 (by kernel_rfl) rfl #[.string (t106.extract (x6_2 : Int).toNat ((wrap64 (x6_2 + 1)) : Int).toNat)] (by rfl) rfl rfl q72_1 ?_
             with_reducible refine (impl_SignBig.calls (t106.extract (x6_2 : Int).toNat ((wrap64 (x6_2 + 1)) : Int).toNat) false _ A32.out).mono ?_
             rintro e w' ⟨rfl, ⟨nd, rfl⟩⟩
             refine ⟨_, rfl, ?_⟩
             refine hK.out _ _ trivial (fun hHeld => ?_)
             clear hK K
             refine norm_ (a' := ?_) ?_ ?_
             rotate_left
             ·show Act.put _ (some 49) _ = _
              simp only [Act.put, List.setIfInBounds_toArray, List.set_cons_zero, List.set_cons_succ, i64_w, i32_w]
              rfl
             refine pure_ (i := 6) (N := some 50) (v := ?_) (a' := ?_) #[true, true, true, true, true, true, true, false, false, false, false, false, false, false, false, false, false, false, false, false, false] rfl rfl (any_of HT_.out (by kernel_rfl)) (fun _ _ _ h => h) (Or.inl ⟨by rfl, ?_⟩) ?_ ?_
             rotate_left
             ·intro w'
              go_simp
              with_reducible rfl
             rotate_left
             ·simp only [Act.put, List.setIfInBounds_toArray, List.set_cons_zero, List.set_cons_succ, i64_w, i32_w]
              rfl
             refine pure_ (i := 7) (N := some 51) (v := ?_) (a' := ?_) #[true, true, true, true, true, true, true, true, false, false, false, false, false, false, false, false, false, false, false, false, false] rfl rfl (any_of HT_.out (by kernel_rfl)) (fun _ _ _ h => h) (Or.inl ⟨by rfl, ?_⟩) ?_ ?_
             rotate_left
             ·intro w'
              go_simp
              with_reducible rfl
             rotate_left
             ·simp only [Act.put, List.setIfInBounds_toArray, List.set_cons_zero, List.set_cons_succ, i64_w, i32_w]
              rfl
             refine pure_ (i := 8) (N := some 52) (v := undef) (a' := ?_) #[true, true, true, true, true, true, true, true, true, false, false, false, false, false, false, false, false, false, false, false, false] rfl rfl (any_of HT_.out (by kernel_rfl)) (fun _ _ _ h => h) (Or.inr ⟨by rfl, rfl⟩) ?_ ?_
             rotate_left
             ·simp only [Act.put, List.setIfInBounds_toArray, List.set_cons_zero, List.set_cons_succ, i64_w, i32_w]
              rfl
             refine pure_ (i := 9) (N := some 53) (v := undef) (a' := ?_) #[true, true, true, true, true, true, true, true, true, true, false, false, false, false, false, false, false, false, false, false, false] rfl rfl (any_of HT_.out (by kernel_rfl)) (fun _ _ _ h => h) (Or.inr ⟨by rfl, rfl⟩) ?_ ?_
             rotate_left
             ·simp only [Act.put, List.setIfInBounds_toArray, List.set_cons_zero, List.set_cons_succ, i64_w, i32_w]
              rfl
             refine pure_ (i := 10) (N := some 54) (v := undef) (a' := ?_) #[true, true, true, true, true, true, true, true, true, true, true, false, false, false, false, false, false, false, false, false, false] rfl rfl (any_of HT_.out (by kernel_rfl)) (fun _ _ _ h => h) (Or.inr ⟨by rfl, rfl⟩) ?_ ?_
             rotate_left
             ·simp only [Act.put, List.setIfInBounds_toArray, List.set_cons_zero, List.set_cons_succ, i64_w, i32_w]
              rfl
             refine pure_ (i := 11) (N := some 55) (v := undef) (a' := ?_) #[true, true, true, true, true, true, true, true, true, true, true, true, false, false, false, false, false, false, false, false, false] rfl rfl (any_of HT_.out (by kernel_rfl)) (fun _ _ _ h => h) (Or.inr ⟨by rfl, rfl⟩) ?_ ?_
             rotate_left
             ·simp only [Act.put, List.setIfInBounds_toArray, List.set_cons_zero, List.set_cons_succ, i64_w, i32_w]
              rfl
             refine pure_ (i := 12) (N := some 56) (v := undef) (a' := ?_) #[true, true, true, true, true, true, true, true, true, true, true, true, true, false, false, false, false, false, false, false, false] rfl rfl (any_of HT_.out (by kernel_rfl)) (fun _ _ _ h => h) (Or.inr ⟨by rfl, rfl⟩) ?_ ?_
             rotate_left
             ·simp only [Act.put, List.setIfInBounds_toArray, List.set_cons_zero, List.set_cons_succ, i64_w, i32_w]
              rfl
             refine pure_ (i := 13) (N := some 57) (v := undef) (a' := ?_) #[true, true, true, true, true, true, true, true, true, true, true, true, true, true, false, false, false, false, false, false, false] rfl rfl (any_of HT_.out (by kernel_rfl)) (fun _ _ _ h => h) (Or.inr ⟨by rfl, rfl⟩) ?_ ?_
             rotate_left
             ·simp only [Act.put, List.setIfInBounds_toArray, List.set_cons_zero, List.set_cons_succ, i64_w, i32_w]
              rfl
             refine pure_ (i := 14) (N := some 58) (v := undef) (a' := ?_) #[true, true, true, true, true, true, true, true, true, true, true, true, true, true, true, false, false, false, false, false, false] rfl rfl (any_of HT_.out (by kernel_rfl)) (fun _ _ _ h => h) (Or.inr ⟨by rfl, rfl⟩) ?_ ?_
             rotate_left
             ·simp only [Act.put, List.setIfInBounds_toArray, List.set_cons_zero, List.set_cons_succ, i64_w, i32_w]
              rfl
             refine pure_ (i := 15) (N := some 59) (v := undef) (a' := ?_) #[true, true, true, true, true, true, true, true, true, true, true, true, true, true, true, true, false, false, false, false, false] rfl rfl (any_of HT_.out (by kernel_rfl)) (fun _ _ _ h => h) (Or.inr ⟨by rfl, rfl⟩) ?_ ?_
             rotate_left
             ·simp only [Act.put, List.setIfInBounds_toArray, List.set_cons_zero, List.set_cons_succ, i64_w, i32_w]
              rfl
             refine pure_ (i := 16) (N := some 60) (v := undef) (a' := ?_) #[true, true, true, true, true, true, true, true, true, true, true, true, true, true, true, true, true, false, false, false, false] rfl rfl (any_of HT_.out (by kernel_rfl)) (fun _ _ _ h => h) (Or.inr ⟨by rfl, rfl⟩) ?_ ?_
             rotate_left
             ·simp only [Act.put, List.setIfInBounds_toArray, List.set_cons_zero, List.set_cons_succ, i64_w, i32_w]
              rfl
             refine pure_ (i := 17) (N := some 61) (v := undef) (a' := ?_) #[true, true, true, true, true, true, true, true, true, true, true, true, true, true, true, true, true, true, false, false, false] rfl rfl (any_of HT_.out (by kernel_rfl)) (fun _ _ _ h => h) (Or.inr ⟨by rfl, rfl⟩) ?_ ?_
             rotate_left
             ·simp only [Act.put, List.setIfInBounds_toArray, List.set_cons_zero, List.set_cons_succ, i64_w, i32_w]
              rfl
             refine pure_ (i := 18) (N := some 62) (v := undef) (a' := ?_) #[true, true, true, true, true, true, true, true, true, true, true, true, true, true, true, true, true, true, true, false, false] rfl rfl (any_of HT_.out (by kernel_rfl)) (fun _ _ _ h => h) (Or.inr ⟨by rfl, rfl⟩) ?_ ?_
             rotate_left
             ·simp only [Act.put, List.setIfInBounds_toArray, List.set_cons_zero, List.set_cons_succ, i64_w, i32_w]
              rfl
             refine pure_ (i := 19) (N := some 63) (v := undef) (a' := ?_) #[true, true, true, true, true, true, true, true, true, true, true, true, true, true, true, true, true, true, true, true, false] rfl rfl (any_of HT_.out (by kernel_rfl)) (fun _ _ _ h => h) (Or.inr ⟨by rfl, rfl⟩) ?_ ?_
             rotate_left
             ·simp only [Act.put, List.setIfInBounds_toArray, List.set_cons_zero, List.set_cons_succ, i64_w, i32_w]
              rfl
             refine pure_ (i := 20) (N := some 64) (v := ?_) (a' := ?_) #[true, true, true, true, true, true, true, true, true, true, true, true, true, true, true, true, true, true, true, true, true] rfl rfl (any_of HT_.out (by kernel_rfl)) (fun _ _ _ h => h) (Or.inl ⟨by rfl, ?_⟩) ?_ ?_
             rotate_left
             ·intro w'
              go_simp
              with_reducible rfl
             rotate_left
             ·simp only [Act.put, List.setIfInBounds_toArray, List.set_cons_zero, List.set_cons_succ, i64_w, i32_w]
              rfl
             refine done_ (done_of HT_.out (by kernel_rfl)) ?_
             try go_wp2
             go_ret
             exact ⟨by first | rfl | (simp [errW_none, errW_some] <;> rfl) | (simp [*, errW_none, errW_some] <;> rfl), by repeat (first | (with_reducible first | exact HB.out | apply below_alloc | apply pw_below_drewN | apply below_drew1 | refine below_set ?_ GE105.out) | exact HB.out)⟩
           ·rw [if_neg c31] at H
            exact absurd H (by simp)
          ·rw [if_neg c30] at H
           exact absurd H (by simp)
         ·rw [if_neg c29] at H
          exact absurd H (by simp)
        ·rw [if_neg c28] at H
         have c28b0 : decide (x6_2 < (t106.size : Int)) = false := decide_eq_false c28
         clear c28
         have H' := Aside0.mk H
         clear H
         go_wp2
         go_loopg [7] k2 (fun kq v7 w' => ∃ (x7_3 : Int), v7 = .int .i64 x7_3 ∧ Aside0 (laws_FnGramSigns.l1 kq t106 t107 x7_3 t101 t102 = some r) ∧ Aside0 (kq ≤ k2) ∧ Aside0 (Kd.R k46 46 w' w.heap.size (fun _ => True) (.slice Ao10 t102.length co10) t102) ∧ Aside0 (w'.heap[gb105]? = some (.cells #[.string t101, (.slice Ao10 t102.length co10)] 25 (0, 0))) ∧ Aside0 (Below w.heap.size w w'))
         case atStart => exact ⟨(0), (by first | rfl | (simp; done) | (simp [*]; done)), H', ⟨Nat.le_refl _⟩, ⟨by (with_reducible repeat (first | apply Kd.R_alloc | apply Kd.R_drewN | apply Kd.R_drew)); exact HO_106001.out⟩, ⟨by (with_reducible repeat (first | refine blk_drewN ?_ _ | refine blk_drew ?_ | refine blk_alloc ?_ _)); exact BK105.out⟩, ⟨by repeat (first | (with_reducible first | exact HB.out | apply below_alloc | apply pw_below_drewN | apply below_drew1 | refine below_set ?_ GE105.out) | exact HB.out)⟩⟩
         case round =>
          clear H'
          try clear c2
          try clear p2
          try clear c3
          try clear p3
          try clear q3
          try clear hx3
          try clear c4
          try clear p6
          try clear c28
          try clear c28b0
          try clear c29
          try clear c30
          try clear c31
          try clear c33
          try clear c34
          try clear c34b0
          try clear c36
          try clear c37
          try clear p38
          try clear q38
          try clear hx38
          try clear p39
          try clear q39
          try clear hx39
          try clear c40
          try clear c40b0
          try clear p38
          try clear p39
          try clear q38
          try clear q39
          obtain ⟨x7_3, rfl, HA, HK3, HO_106001, BK105, HB⟩ := hrel
          cases gk with
          | zero => exact absurd HA.out (by simp [laws_FnGramSigns.l1])
          | succ k3 =>
           have H := HA.out
           clear HA
           simp only [laws_FnGramSigns.l1] at H
           by_cases c45 : x7_3 < (t107.size : Int)
           ·rw [if_pos c45] at H
            have c45b0 : decide (x7_3 < (t107.size : Int)) = true := decide_eq_true c45
            clear c45
            by_cases c46 : 0 ≤ x7_3
            ·rw [if_pos c46] at H
             have c46b0 := eq_true c46
             have c46b1 : decide (0 ≤ x7_3) = true := decide_eq_true c46
             clear c46
             by_cases c47 : x7_3 ≤ (wrap64 (x7_3 + 1))
             ·rw [if_pos c47] at H
              have c47b0 := eq_true c47
              have c47b1 : decide (x7_3 ≤ (wrap64 (x7_3 + 1))) = true := decide_eq_true c47
              by_cases c48 : (wrap64 (x7_3 + 1)) ≤ (t107.size : Int)
              ·rw [if_pos c48] at H
               have c48b0 := eq_true c48
               have c48b1 : decide ((wrap64 (x7_3 + 1)) ≤ (t107.size : Int)) = true := decide_eq_true c48
               replace H := Option.bind_eq_some_iff.mp H
               obtain ⟨t112, A490, H⟩ := H
               replace H : (if t112 = true then (if x7_3 > 0 then (if 0 ≤ (wrap64 (x7_3 - 1)) then (if (wrap64 (x7_3 - 1)) < (t107.size : Int) then (if (bt t107 (wrap64 (x7_3 - 1))) ≥ (bt t107 x7_3) then (some false) else (laws_FnGramSigns.l1 k3 t106 t107 (wrap64 (x7_3 + 1)) t101 t102)) else (none)) else (none)) else (laws_FnGramSigns.l1 k3 t106 t107 (wrap64 (x7_3 + 1)) t101 t102)) else (some false)) = some r := H
               have A49 := Aside0.mk A490
               clear A490
               by_cases c50 : t112 = true
               ·subst c50
                have H1 : (if x7_3 > 0 then (if 0 ≤ (wrap64 (x7_3 - 1)) then (if (wrap64 (x7_3 - 1)) < (t107.size : Int) then (if (bt t107 (wrap64 (x7_3 - 1))) ≥ (bt t107 x7_3) then (some false) else (laws_FnGramSigns.l1 k3 t106 t107 (wrap64 (x7_3 + 1)) t101 t102)) else (none)) else (none)) else (laws_FnGramSigns.l1 k3 t106 t107 (wrap64 (x7_3 + 1)) t101 t102)) = some r := by rw [if_pos rfl] at H; exact H
                clear H
                have H := H1
                clear H1
                by_cases c51 : x7_3 > 0
                ·rw [if_pos c51] at H
                 have c51b0 : decide (0 < x7_3) = true := decide_eq_true c51
                 clear c51
                 obtain ⟨ji52, hji52⟩ : ∃ j_ : Int, (wrap64 (x7_3 - 1)) = j_ := ⟨_, rfl⟩
                 replace H : (if 0 ≤ (ji52) then (if (ji52) < (t107.size : Int) then (if (bt t107 (ji52)) ≥ (bt t107 x7_3) then (some false) else (laws_FnGramSigns.l1 k3 t106 t107 (wrap64 (x7_3 + 1)) t101 t102)) else (none)) else (none)) = some r := by first | (rw [hji52] at H; exact H) | (simp only [hji52] at H ⊢; exact H)
                 (try rw [hji52] at A49)
                 have hji52w : (IntKind.i64.wrap (x7_3 - 1)) = ji52 := (i64_w _).trans hji52
                 by_cases c53 : 0 ≤ (ji52)
                 ·rw [if_pos c53] at H
                  have c53b0 : decide (0 ≤ (ji52)) = true := decide_eq_true c53
                  clear c53
                  by_cases c54 : (ji52) < (t107.size : Int)
                  ·rw [if_pos c54] at H
                   have c54b0 : decide ((ji52) < (t107.size : Int)) = true := decide_eq_true c54
                   clear c54
                   by_cases c57 : (bt t107 (ji52)) ≥ (bt t107 x7_3)
                   ·rw [if_pos c57] at H
                    have c57b0 : decide ((bt t107 x7_3) ≤ (bt t107 (ji52))) = true := decide_eq_true c57
                    clear c57
                    obtain rfl := Option.some.inj H
                    try go_wp2
                    have n0_ := Aside0.mk (Kd.R_drew HO_106001.out)
                    have n1_ := Aside0.mk (blk_drew BK105.out)
                    have n2_ := Aside0.mk (below_drew1 HB.out)
                    clear HO_106001
                    clear BK105
                    clear HB
                    have HO_106001 := n0_
                    have BK105 := n1_
                    have HB := n2_
                    clear n0_ n1_ n2_
                    refine start_ (n := 21) (S := fun w' => True) (ds := []) #[false, false, false, false, false, false, false, false, false, false, false, false, false, false, false, false, false, false, false, false, false] (by kernel_rfl) rfl rfl trivial (fun hHeld => ?_); refine with_tabW laws_FnGramSigns.tab18 laws_FnGramSigns.bits18 (fun HT_ HW_ => ?_)
                    generalize wr.drew = w58 at HO_106001 BK105 HB hHeld ⊢
                    refine pure_ (i := 0) (N := some 71) (v := ?_) (a' := ?_) #[true, false, false, false, false, false, false, false, false, false, false, false, false, false, false, false, false, false, false, false, false] rfl rfl (any_of HT_.out (by kernel_rfl)) (fun _ _ _ h => h) (Or.inl ⟨by rfl, ?_⟩) ?_ ?_
                    rotate_left
                    ·intro w'
                     go_simp
                     with_reducible rfl
                    rotate_left
                    ·simp only [Act.put, List.setIfInBounds_toArray, List.set_cons_zero, List.set_cons_succ, i64_w, i32_w]
                     rfl
                    refine pure_ (i := 1) (N := some 72) (v := ?_) (a' := ?_) #[true, true, false, false, false, false, false, false, false, false, false, false, false, false, false, false, false, false, false, false, false] rfl rfl (any_of HT_.out (by kernel_rfl)) (fun _ _ _ h => h) (Or.inl ⟨by rfl, ?_⟩) ?_ ?_
                    rotate_left
                    ·intro w'
                     go_simp
                     with_reducible rfl
                    rotate_left
                    ·simp only [Act.put, List.setIfInBounds_toArray, List.set_cons_zero, List.set_cons_succ, i64_w, i32_w]
                     rfl
                    refine pure_ (i := 2) (N := some 73) (v := ?_) (a' := ?_) #[true, true, true, false, false, false, false, false, false, false, false, false, false, false, false, false, false, false, false, false, false] rfl rfl (any_of HT_.out (by kernel_rfl)) (fun _ _ _ h => h) (Or.inl ⟨by rfl, ?_⟩) ?_ ?_
                    rotate_left
                    ·intro w'
                     go_simp
                     with_reducible rfl
                    rotate_left
                    ·simp only [Act.put, List.setIfInBounds_toArray, List.set_cons_zero, List.set_cons_succ, i64_w, i32_w]
                     rfl
                    refine pure_ (i := 3) (N := some 74) (v := ?_) (a' := ?_) #[true, true, true, true, false, false, false, false, false, false, false, false, false, false, false, false, false, false, false, false, false] rfl rfl (any_of HT_.out (by kernel_rfl)) (fun _ _ _ h => h) (Or.inl ⟨by rfl, ?_⟩) ?_ ?_
                    rotate_left
                    ·intro w'
                     go_simp
                     with_reducible rfl
                    rotate_left
                    ·simp only [Act.put, List.setIfInBounds_toArray, List.set_cons_zero, List.set_cons_succ, i64_w, i32_w]
                     rfl
                    refine pure_ (i := 4) (N := some 75) (v := ?_) (a' := ?_) #[true, true, true, true, true, false, false, false, false, false, false, false, false, false, false, false, false, false, false, false, false] rfl rfl (any_of HT_.out (by kernel_rfl)) (fun _ _ _ h => h) (Or.inl ⟨by rfl, ?_⟩) ?_ ?_
                    rotate_left
                    ·intro w'
                     go_simp
                     with_reducible rfl
                    rotate_left
                    ·simp only [Act.put, List.setIfInBounds_toArray, List.set_cons_zero, List.set_cons_succ, i64_w, i32_w]
                     rfl
                    refine one_ (i := 5) (N := some 76) #[true, true, true, true, true, true, false, false, false, false, false, false, false, false, false, false, false, false, false, false, false] rfl rfl (one_of HT_.out (by kernel_rfl)) (by decide) (fun K hK => ?_)
                    refine goes_ Tryd.func29 (by kernel_rfl) rfl #[.string (t107.extract (x7_3 : Int).toNat ((wrap64 (x7_3 + 1)) : Int).toNat)] (by rfl) rfl rfl q72_1 ?_
                    with_reducible refine (impl_SignSmall.calls (t107.extract (x7_3 : Int).toNat ((wrap64 (x7_3 + 1)) : Int).toNat) true _ A49.out).mono ?_
                    rintro e w' ⟨rfl, ⟨nd, rfl⟩⟩
                    refine ⟨_, rfl, ?_⟩
                    have p55 : 0 ≤ ((ji52) : Int) := of_decide_eq_true (by first | (with_reducible assumption) | assumption)
                    have q55 : (ji52) < (t107.size : Int) := of_decide_eq_true (by first | (with_reducible assumption) | assumption)
                    have hx55 := bt_at t107 (ji52)
                    replace p55 := eq_true p55
                    replace q55 := eq_true q55
                    have p56 : 0 ≤ (x7_3 : Int) := of_decide_eq_true (by first | (with_reducible assumption) | assumption)
                    have q56 : x7_3 < (t107.size : Int) := of_decide_eq_true (by first | (with_reducible assumption) | assumption)
                    have hx56 := bt_at t107 x7_3
                    replace p56 := eq_true p56
                    replace q56 := eq_true q56
                    refine hK.out _ _ trivial (fun hHeld => ?_)
                    clear hK K
                    refine norm_ (a' := ?_) ?_ ?_
                    rotate_left
                    ·show Act.put _ (some 76) _ = _
                     simp only [Act.put, List.setIfInBounds_toArray, List.set_cons_zero, List.set_cons_succ, i64_w, i32_w]
                     rfl
                    refine pure_ (i := 6) (N := some 77) (v := ?_) (a' := ?_) #[true, true, true, true, true, true, true, false, false, false, false, false, false, false, false, false, false, false, false, false, false] rfl rfl (any_of HT_.out (by kernel_rfl)) (fun _ _ _ h => h) (Or.inl ⟨by rfl, ?_⟩) ?_ ?_
                    rotate_left
                    ·intro w'
                     go_simp
                     with_reducible rfl
                    rotate_left
                    ·simp only [Act.put, List.setIfInBounds_toArray, List.set_cons_zero, List.set_cons_succ, i64_w, i32_w]
                     rfl
                    refine pure_ (i := 7) (N := some 78) (v := ?_) (a' := ?_) #[true, true, true, true, true, true, true, true, false, false, false, false, false, false, false, false, false, false, false, false, false] rfl rfl (any_of HT_.out (by kernel_rfl)) (fun _ _ _ h => h) (Or.inl ⟨by rfl, ?_⟩) ?_ ?_
                    rotate_left
                    ·intro w'
                     go_simp
                     with_reducible rfl
                    rotate_left
                    ·simp only [Act.put, List.setIfInBounds_toArray, List.set_cons_zero, List.set_cons_succ, i64_w, i32_w]
                     rfl
                    refine pure_ (i := 8) (N := some 79) (v := ?_) (a' := ?_) #[true, true, true, true, true, true, true, true, true, false, false, false, false, false, false, false, false, false, false, false, false] rfl rfl (any_of HT_.out (by kernel_rfl)) (fun _ _ _ h => h) (Or.inl ⟨by rfl, ?_⟩) ?_ ?_
                    rotate_left
                    ·intro w'
                     go_simp
                     with_reducible rfl
                    rotate_left
                    ·simp only [Act.put, List.setIfInBounds_toArray, List.set_cons_zero, List.set_cons_succ, i64_w, i32_w]
                     rfl
                    refine pure_ (i := 9) (N := some 80) (v := ?_) (a' := ?_) #[true, true, true, true, true, true, true, true, true, true, false, false, false, false, false, false, false, false, false, false, false] rfl rfl (any_of HT_.out (by kernel_rfl)) (fun _ _ _ h => h) (Or.inl ⟨by rfl, ?_⟩) ?_ ?_
                    rotate_left
                    ·intro w'
                     go_simp
                     with_reducible rfl
                    rotate_left
                    ·simp only [Act.put, List.setIfInBounds_toArray, List.set_cons_zero, List.set_cons_succ, i64_w, i32_w]
                     rfl
                    refine pure_ (i := 10) (N := some 81) (v := ?_) (a' := ?_) #[true, true, true, true, true, true, true, true, true, true, true, false, false, false, false, false, false, false, false, false, false] rfl rfl (any_of HT_.out (by kernel_rfl)) (fun _ _ _ h => h) (Or.inl ⟨by rfl, ?_⟩) ?_ ?_
                    rotate_left
                    ·intro w'
                     go_simp
                     with_reducible rfl
                    rotate_left
                    ·simp only [Act.put, List.setIfInBounds_toArray, List.set_cons_zero, List.set_cons_succ, i64_w, i32_w]
                     rfl
                    refine pure_ (i := 11) (N := some 82) (v := ?_) (a' := ?_) #[true, true, true, true, true, true, true, true, true, true, true, true, false, false, false, false, false, false, false, false, false] rfl rfl (any_of HT_.out (by kernel_rfl)) (fun _ _ _ h => h) (Or.inl ⟨by rfl, ?_⟩) ?_ ?_
                    rotate_left
                    ·intro w'
                     go_simp
                     with_reducible rfl
                    rotate_left
                    ·simp only [Act.put, List.setIfInBounds_toArray, List.set_cons_zero, List.set_cons_succ, i64_w, i32_w]
                     rfl
                    refine pure_ (i := 12) (N := some 83) (v := ?_) (a' := ?_) #[true, true, true, true, true, true, true, true, true, true, true, true, true, false, false, false, false, false, false, false, false] rfl rfl (any_of HT_.out (by kernel_rfl)) (fun _ _ _ h => h) (Or.inl ⟨by rfl, ?_⟩) ?_ ?_
                    rotate_left
                    ·intro w'
                     go_simp
                     with_reducible rfl
                    rotate_left
                    ·simp only [Act.put, List.setIfInBounds_toArray, List.set_cons_zero, List.set_cons_succ, i64_w, i32_w]
                     rfl
                    refine pure_ (i := 13) (N := some 84) (v := ?_) (a' := ?_) #[true, true, true, true, true, true, true, true, true, true, true, true, true, true, false, false, false, false, false, false, false] rfl rfl (any_of HT_.out (by kernel_rfl)) (fun _ _ _ h => h) (Or.inl ⟨by rfl, ?_⟩) ?_ ?_
                    rotate_left
                    ·intro w'
                     go_simp
                     with_reducible rfl
                    rotate_left
                    ·simp only [Act.put, List.setIfInBounds_toArray, List.set_cons_zero, List.set_cons_succ, i64_w, i32_w]
                     rfl
                    refine pure_ (i := 15) (N := some 86) (v := ?_) (a' := ?_) #[true, true, true, true, true, true, true, true, true, true, true, true, true, true, false, true, false, false, false, false, false] rfl rfl (any_of HT_.out (by kernel_rfl)) (fun _ _ _ h => h) (Or.inl ⟨by rfl, ?_⟩) ?_ ?_
                    rotate_left
                    ·intro w'
                     go_simp
                     with_reducible rfl
                    rotate_left
                    ·simp only [Act.put, List.setIfInBounds_toArray, List.set_cons_zero, List.set_cons_succ, i64_w, i32_w]
                     rfl
                    refine pure_ (i := 16) (N := some 87) (v := ?_) (a' := ?_) #[true, true, true, true, true, true, true, true, true, true, true, true, true, true, false, true, true, false, false, false, false] rfl rfl (any_of HT_.out (by kernel_rfl)) (fun _ _ _ h => h) (Or.inl ⟨by rfl, ?_⟩) ?_ ?_
                    rotate_left
                    ·intro w'
                     go_simp
                     with_reducible rfl
                    rotate_left
                    ·simp only [Act.put, List.setIfInBounds_toArray, List.set_cons_zero, List.set_cons_succ, i64_w, i32_w]
                     rfl
                    refine take_ (i := 14) (N := some 85) (v := ?_) (a' := ?_) #[true, true, true, true, true, true, true, true, true, true, true, true, true, true, true, true, true, false, false, false, false] rfl rfl (take_ofW HT_.out HW_.out (by kernel_rfl)) (fun _ _ _ h => h) (Or.inl ⟨by rfl, ?_⟩) hHeld ?_ ?_
                    rotate_left
                    ·intro w' _
                     go_simp
                     with_reducible rfl
                    rotate_left
                    ·simp only [Act.put, List.setIfInBounds_toArray, List.set_cons_zero, List.set_cons_succ, i64_w, i32_w]
                     rfl
                    refine take_ (i := 17) (N := some 88) (v := ?_) (a' := ?_) #[true, true, true, true, true, true, true, true, true, true, true, true, true, true, true, true, true, true, false, false, false] rfl rfl (take_ofW HT_.out HW_.out (by kernel_rfl)) (fun _ _ _ h => h) (Or.inl ⟨by rfl, ?_⟩) hHeld ?_ ?_
                    rotate_left
                    ·intro w' _
                     go_simp
                     with_reducible rfl
                    rotate_left
                    ·simp only [Act.put, List.setIfInBounds_toArray, List.set_cons_zero, List.set_cons_succ, i64_w, i32_w]
                     rfl
                    refine pure_ (i := 18) (N := some 89) (v := ?_) (a' := ?_) #[true, true, true, true, true, true, true, true, true, true, true, true, true, true, true, true, true, true, true, false, false] rfl rfl (any_of HT_.out (by kernel_rfl)) (fun _ _ _ h => h) (Or.inl ⟨by rfl, ?_⟩) ?_ ?_
                    rotate_left
                    ·intro w'
                     go_simp
                     with_reducible rfl
                    rotate_left
                    ·simp only [Act.put, List.setIfInBounds_toArray, List.set_cons_zero, List.set_cons_succ, i64_w, i32_w]
                     rfl
                    refine pure_ (i := 19) (N := some 90) (v := ?_) (a' := ?_) #[true, true, true, true, true, true, true, true, true, true, true, true, true, true, true, true, true, true, true, true, false] rfl rfl (any_of HT_.out (by kernel_rfl)) (fun _ _ _ h => h) (Or.inl ⟨by rfl, ?_⟩) ?_ ?_
                    rotate_left
                    ·intro w'
                     go_simp
                     with_reducible rfl
                    rotate_left
                    ·simp only [Act.put, List.setIfInBounds_toArray, List.set_cons_zero, List.set_cons_succ, i64_w, i32_w]
                     rfl
                    refine pure_ (i := 20) (N := some 91) (v := ?_) (a' := ?_) #[true, true, true, true, true, true, true, true, true, true, true, true, true, true, true, true, true, true, true, true, true] rfl rfl (any_of HT_.out (by kernel_rfl)) (fun _ _ _ h => h) (Or.inl ⟨by rfl, ?_⟩) ?_ ?_
                    rotate_left
                    ·intro w'
                     go_simp
                     with_reducible rfl
                    rotate_left
                    ·simp only [Act.put, List.setIfInBounds_toArray, List.set_cons_zero, List.set_cons_succ, i64_w, i32_w]
                     rfl
                    refine done_ (done_of HT_.out (by kernel_rfl)) ?_
                    try go_wp2
                    go_ret
                    exact ⟨by first | rfl | (simp [errW_none, errW_some] <;> rfl) | (simp only [← hji52]; first | rfl | (simp [errW_none, errW_some] <;> rfl)) | (simp [*, errW_none, errW_some] <;> rfl), by repeat (first | (with_reducible first | exact HB.out | apply below_alloc | apply pw_below_drewN | apply below_drew1 | refine below_set ?_ GE105.out) | exact HB.out)⟩
                   ·rw [if_neg c57] at H
                    have c57b0 : decide ((bt t107 x7_3) ≤ (bt t107 (ji52))) = false := decide_eq_false c57
                    clear c57
                    have H' := Aside0.mk H
                    clear H
                    try go_wp2
                    have n0_ := Aside0.mk (Kd.R_drew HO_106001.out)
                    have n1_ := Aside0.mk (blk_drew BK105.out)
                    have n2_ := Aside0.mk (below_drew1 HB.out)
                    clear HO_106001
                    clear BK105
                    clear HB
                    have HO_106001 := n0_
                    have BK105 := n1_
                    have HB := n2_
                    clear n0_ n1_ n2_
                    refine start_ (n := 21) (S := fun w' => True) (ds := []) #[false, false, false, false, false, false, false, false, false, false, false, false, false, false, false, false, false, false, false, false, false] (by kernel_rfl) rfl rfl trivial (fun hHeld => ?_); refine with_tabW laws_FnGramSigns.tab18 laws_FnGramSigns.bits18 (fun HT_ HW_ => ?_)
                    generalize wr.drew = w59 at HO_106001 BK105 HB hHeld ⊢
                    refine pure_ (i := 0) (N := some 71) (v := ?_) (a' := ?_) #[true, false, false, false, false, false, false, false, false, false, false, false, false, false, false, false, false, false, false, false, false] rfl rfl (any_of HT_.out (by kernel_rfl)) (fun _ _ _ h => h) (Or.inl ⟨by rfl, ?_⟩) ?_ ?_
                    rotate_left
                    ·intro w'
                     go_simp
                     with_reducible rfl
                    rotate_left
                    ·simp only [Act.put, List.setIfInBounds_toArray, List.set_cons_zero, List.set_cons_succ, i64_w, i32_w]
                     rfl
                    refine pure_ (i := 1) (N := some 72) (v := ?_) (a' := ?_) #[true, true, false, false, false, false, false, false, false, false, false, false, false, false, false, false, false, false, false, false, false] rfl rfl (any_of HT_.out (by kernel_rfl)) (fun _ _ _ h => h) (Or.inl ⟨by rfl, ?_⟩) ?_ ?_
                    rotate_left
                    ·intro w'
                     go_simp
                     with_reducible rfl
                    rotate_left
                    ·simp only [Act.put, List.setIfInBounds_toArray, List.set_cons_zero, List.set_cons_succ, i64_w, i32_w]
                     rfl
                    refine pure_ (i := 2) (N := some 73) (v := ?_) (a' := ?_) #[true, true, true, false, false, false, false, false, false, false, false, false, false, false, false, false, false, false, false, false, false] rfl rfl (any_of HT_.out (by kernel_rfl)) (fun _ _ _ h => h) (Or.inl ⟨by rfl, ?_⟩) ?_ ?_
                    rotate_left
                    ·intro w'
                     go_simp
                     with_reducible rfl
                    rotate_left
                    ·simp only [Act.put, List.setIfInBounds_toArray, List.set_cons_zero, List.set_cons_succ, i64_w, i32_w]
                     rfl
                    refine pure_ (i := 3) (N := some 74) (v := ?_) (a' := ?_) #[true, true, true, true, false, false, false, false, false, false, false, false, false, false, false, false, false, false, false, false, false] rfl rfl (any_of HT_.out (by kernel_rfl)) (fun _ _ _ h => h) (Or.inl ⟨by rfl, ?_⟩) ?_ ?_
                    rotate_left
                    ·intro w'
                     go_simp
                     with_reducible rfl
                    rotate_left
                    ·simp only [Act.put, List.setIfInBounds_toArray, List.set_cons_zero, List.set_cons_succ, i64_w, i32_w]
                     rfl
                    refine pure_ (i := 4) (N := some 75) (v := ?_) (a' := ?_) #[true, true, true, true, true, false, false, false, false, false, false, false, false, false, false, false, false, false, false, false, false] rfl rfl (any_of HT_.out (by kernel_rfl)) (fun _ _ _ h => h) (Or.inl ⟨by rfl, ?_⟩) ?_ ?_
                    rotate_left
                    ·intro w'
                     go_simp
                     with_reducible rfl
                    rotate_left
                    ·simp only [Act.put, List.setIfInBounds_toArray, List.set_cons_zero, List.set_cons_succ, i64_w, i32_w]
                     rfl
                    refine one_ (i := 5) (N := some 76) #[true, true, true, true, true, true, false, false, false, false, false, false, false, false, false, false, false, false, false, false, false] rfl rfl (one_of HT_.out (by kernel_rfl)) (by decide) (fun K hK => ?_)
                    refine goes_ Tryd.func29 (by kernel_rfl) rfl #[.string (t107.extract (x7_3 : Int).toNat ((wrap64 (x7_3 + 1)) : Int).toNat)] (by rfl) rfl rfl q72_1 ?_
                    with_reducible refine (impl_SignSmall.calls (t107.extract (x7_3 : Int).toNat ((wrap64 (x7_3 + 1)) : Int).toNat) true _ A49.out).mono ?_
                    rintro e w' ⟨rfl, ⟨nd, rfl⟩⟩
                    refine ⟨_, rfl, ?_⟩
                    have p55 : 0 ≤ ((ji52) : Int) := of_decide_eq_true (by first | (with_reducible assumption) | assumption)
                    have q55 : (ji52) < (t107.size : Int) := of_decide_eq_true (by first | (with_reducible assumption) | assumption)
                    have hx55 := bt_at t107 (ji52)
                    replace p55 := eq_true p55
                    replace q55 := eq_true q55
                    have p56 : 0 ≤ (x7_3 : Int) := of_decide_eq_true (by first | (with_reducible assumption) | assumption)
                    have q56 : x7_3 < (t107.size : Int) := of_decide_eq_true (by first | (with_reducible assumption) | assumption)
                    have hx56 := bt_at t107 x7_3
                    replace p56 := eq_true p56
                    replace q56 := eq_true q56
                    refine hK.out _ _ trivial (fun hHeld => ?_)
                    clear hK K
                    refine norm_ (a' := ?_) ?_ ?_
                    rotate_left
                    ·show Act.put _ (some 76) _ = _
                     simp only [Act.put, List.setIfInBounds_toArray, List.set_cons_zero, List.set_cons_succ, i64_w, i32_w]
                     rfl
                    refine pure_ (i := 6) (N := some 77) (v := ?_) (a' := ?_) #[true, true, true, true, true, true, true, false, false, false, false, false, false, false, false, false, false, false, false, false, false] rfl rfl (any_of HT_.out (by kernel_rfl)) (fun _ _ _ h => h) (Or.inl ⟨by rfl, ?_⟩) ?_ ?_
                    rotate_left
                    ·intro w'
                     go_simp
                     with_reducible rfl
                    rotate_left
                    ·simp only [Act.put, List.setIfInBounds_toArray, List.set_cons_zero, List.set_cons_succ, i64_w, i32_w]
                     rfl
                    refine pure_ (i := 7) (N := some 78) (v := ?_) (a' := ?_) #[true, true, true, true, true, true, true, true, false, false, false, false, false, false, false, false, false, false, false, false, false] rfl rfl (any_of HT_.out (by kernel_rfl)) (fun _ _ _ h => h) (Or.inl ⟨by rfl, ?_⟩) ?_ ?_
                    rotate_left
                    ·intro w'
                     go_simp
                     with_reducible rfl
                    rotate_left
                    ·simp only [Act.put, List.setIfInBounds_toArray, List.set_cons_zero, List.set_cons_succ, i64_w, i32_w]
                     rfl
                    refine pure_ (i := 8) (N := some 79) (v := ?_) (a' := ?_) #[true, true, true, true, true, true, true, true, true, false, false, false, false, false, false, false, false, false, false, false, false] rfl rfl (any_of HT_.out (by kernel_rfl)) (fun _ _ _ h => h) (Or.inl ⟨by rfl, ?_⟩) ?_ ?_
                    rotate_left
                    ·intro w'
                     go_simp
                     with_reducible rfl
                    rotate_left
                    ·simp only [Act.put, List.setIfInBounds_toArray, List.set_cons_zero, List.set_cons_succ, i64_w, i32_w]
                     rfl
                    refine pure_ (i := 9) (N := some 80) (v := ?_) (a' := ?_) #[true, true, true, true, true, true, true, true, true, true, false, false, false, false, false, false, false, false, false, false, false] rfl rfl (any_of HT_.out (by kernel_rfl)) (fun _ _ _ h => h) (Or.inl ⟨by rfl, ?_⟩) ?_ ?_
                    rotate_left
                    ·intro w'
                     go_simp
                     with_reducible rfl
                    rotate_left
                    ·simp only [Act.put, List.setIfInBounds_toArray, List.set_cons_zero, List.set_cons_succ, i64_w, i32_w]
                     rfl
                    refine pure_ (i := 10) (N := some 81) (v := ?_) (a' := ?_) #[true, true, true, true, true, true, true, true, true, true, true, false, false, false, false, false, false, false, false, false, false] rfl rfl (any_of HT_.out (by kernel_rfl)) (fun _ _ _ h => h) (Or.inl ⟨by rfl, ?_⟩) ?_ ?_
                    rotate_left
                    ·intro w'
                     go_simp
                     with_reducible rfl
                    rotate_left
                    ·simp only [Act.put, List.setIfInBounds_toArray, List.set_cons_zero, List.set_cons_succ, i64_w, i32_w]
                     rfl
                    refine pure_ (i := 11) (N := some 82) (v := ?_) (a' := ?_) #[true, true, true, true, true, true, true, true, true, true, true, true, false, false, false, false, false, false, false, false, false] rfl rfl (any_of HT_.out (by kernel_rfl)) (fun _ _ _ h => h) (Or.inl ⟨by rfl, ?_⟩) ?_ ?_
                    rotate_left
                    ·intro w'
                     go_simp
                     with_reducible rfl
                    rotate_left
                    ·simp only [Act.put, List.setIfInBounds_toArray, List.set_cons_zero, List.set_cons_succ, i64_w, i32_w]
                     rfl
                    refine pure_ (i := 12) (N := some 83) (v := ?_) (a' := ?_) #[true, true, true, true, true, true, true, true, true, true, true, true, true, false, false, false, false, false, false, false, false] rfl rfl (any_of HT_.out (by kernel_rfl)) (fun _ _ _ h => h) (Or.inl ⟨by rfl, ?_⟩) ?_ ?_
                    rotate_left
                    ·intro w'
                     go_simp
                     with_reducible rfl
                    rotate_left
                    ·simp only [Act.put, List.setIfInBounds_toArray, List.set_cons_zero, List.set_cons_succ, i64_w, i32_w]
                     rfl
                    refine pure_ (i := 13) (N := some 84) (v := ?_) (a' := ?_) #[true, true, true, true, true, true, true, true, true, true, true, true, true, true, false, false, false, false, false, false, false] rfl rfl (any_of HT_.out (by kernel_rfl)) (fun _ _ _ h => h) (Or.inl ⟨by rfl, ?_⟩) ?_ ?_
                    rotate_left
                    ·intro w'
                     go_simp
                     with_reducible rfl
                    rotate_left
                    ·simp only [Act.put, List.setIfInBounds_toArray, List.set_cons_zero, List.set_cons_succ, i64_w, i32_w]
                     rfl
                    refine pure_ (i := 15) (N := some 86) (v := ?_) (a' := ?_) #[true, true, true, true, true, true, true, true, true, true, true, true, true, true, false, true, false, false, false, false, false] rfl rfl (any_of HT_.out (by kernel_rfl)) (fun _ _ _ h => h) (Or.inl ⟨by rfl, ?_⟩) ?_ ?_
                    rotate_left
                    ·intro w'
                     go_simp
                     with_reducible rfl
                    rotate_left
                    ·simp only [Act.put, List.setIfInBounds_toArray, List.set_cons_zero, List.set_cons_succ, i64_w, i32_w]
                     rfl
                    refine pure_ (i := 16) (N := some 87) (v := ?_) (a' := ?_) #[true, true, true, true, true, true, true, true, true, true, true, true, true, true, false, true, true, false, false, false, false] rfl rfl (any_of HT_.out (by kernel_rfl)) (fun _ _ _ h => h) (Or.inl ⟨by rfl, ?_⟩) ?_ ?_
                    rotate_left
                    ·intro w'
                     go_simp
                     with_reducible rfl
                    rotate_left
                    ·simp only [Act.put, List.setIfInBounds_toArray, List.set_cons_zero, List.set_cons_succ, i64_w, i32_w]
                     rfl
                    refine take_ (i := 14) (N := some 85) (v := ?_) (a' := ?_) #[true, true, true, true, true, true, true, true, true, true, true, true, true, true, true, true, true, false, false, false, false] rfl rfl (take_ofW HT_.out HW_.out (by kernel_rfl)) (fun _ _ _ h => h) (Or.inl ⟨by rfl, ?_⟩) hHeld ?_ ?_
                    rotate_left
                    ·intro w' _
                     go_simp
                     with_reducible rfl
                    rotate_left
                    ·simp only [Act.put, List.setIfInBounds_toArray, List.set_cons_zero, List.set_cons_succ, i64_w, i32_w]
                     rfl
                    refine take_ (i := 17) (N := some 88) (v := ?_) (a' := ?_) #[true, true, true, true, true, true, true, true, true, true, true, true, true, true, true, true, true, true, false, false, false] rfl rfl (take_ofW HT_.out HW_.out (by kernel_rfl)) (fun _ _ _ h => h) (Or.inl ⟨by rfl, ?_⟩) hHeld ?_ ?_
                    rotate_left
                    ·intro w' _
                     go_simp
                     with_reducible rfl
                    rotate_left
                    ·simp only [Act.put, List.setIfInBounds_toArray, List.set_cons_zero, List.set_cons_succ, i64_w, i32_w]
                     rfl
                    refine pure_ (i := 18) (N := some 89) (v := ?_) (a' := ?_) #[true, true, true, true, true, true, true, true, true, true, true, true, true, true, true, true, true, true, true, false, false] rfl rfl (any_of HT_.out (by kernel_rfl)) (fun _ _ _ h => h) (Or.inl ⟨by rfl, ?_⟩) ?_ ?_
                    rotate_left
                    ·intro w'
                     go_simp
                     with_reducible rfl
                    rotate_left
                    ·simp only [Act.put, List.setIfInBounds_toArray, List.set_cons_zero, List.set_cons_succ, i64_w, i32_w]
                     rfl
                    refine pure_ (i := 19) (N := some 90) (v := ?_) (a' := ?_) #[true, true, true, true, true, true, true, true, true, true, true, true, true, true, true, true, true, true, true, true, false] rfl rfl (any_of HT_.out (by kernel_rfl)) (fun _ _ _ h => h) (Or.inl ⟨by rfl, ?_⟩) ?_ ?_
                    rotate_left
                    ·intro w'
                     go_simp
                     with_reducible rfl
                    rotate_left
                    ·simp only [Act.put, List.setIfInBounds_toArray, List.set_cons_zero, List.set_cons_succ, i64_w, i32_w]
                     rfl
                    refine pure_ (i := 20) (N := some 91) (v := ?_) (a' := ?_) #[true, true, true, true, true, true, true, true, true, true, true, true, true, true, true, true, true, true, true, true, true] rfl rfl (any_of HT_.out (by kernel_rfl)) (fun _ _ _ h => h) (Or.inl ⟨by rfl, ?_⟩) ?_ ?_
                    rotate_left
                    ·intro w'
                     go_simp
                     with_reducible rfl
                    rotate_left
                    ·simp only [Act.put, List.setIfInBounds_toArray, List.set_cons_zero, List.set_cons_succ, i64_w, i32_w]
                     rfl
                    refine done_ (done_of HT_.out (by kernel_rfl)) ?_
                    try go_wp2
                    go_roundg k3
                    case measure => have := HJ5.out; have := HK2.out; have := HK3.out; omega
                    case rel => exact ⟨(wrap64 (x7_3 + 1)), (by first | rfl | (simp; done) | (simp [*]; done)), H', ⟨by have := HJ5.out; have := HK2.out; have := HK3.out; omega⟩, ⟨by (with_reducible repeat (first | apply Kd.R_alloc | apply Kd.R_drewN | apply Kd.R_drew)); exact HO_106001.out⟩, ⟨by (with_reducible repeat (first | refine blk_drewN ?_ _ | refine blk_drew ?_ | refine blk_alloc ?_ _)); exact BK105.out⟩, ⟨by repeat (first | (with_reducible first | exact HB.out | apply below_alloc | apply pw_below_drewN | apply below_drew1 | refine below_set ?_ GE105.out) | exact HB.out)⟩⟩
                  ·rw [if_neg c54] at H
                   exact absurd H (by simp)
                 ·rw [if_neg c53] at H
                  exact absurd H (by simp)
                ·rw [if_neg c51] at H
                 have c51b0 : decide (0 < x7_3) = false := decide_eq_false c51
                 clear c51
                 have H' := Aside0.mk H
                 clear H
                 try go_wp2
                 have n0_ := Aside0.mk (Kd.R_drew HO_106001.out)
                 have n1_ := Aside0.mk (blk_drew BK105.out)
                 have n2_ := Aside0.mk (below_drew1 HB.out)
                 clear HO_106001
                 clear BK105
                 clear HB
                 have HO_106001 := n0_
                 have BK105 := n1_
                 have HB := n2_
                 clear n0_ n1_ n2_
                 refine start_ (n := 21) (S := fun w' => True) (ds := []) #[false, false, false, false, false, false, false, false, false, false, false, false, false, false, false, false, false, false, false, false, false] (by kernel_rfl) rfl rfl trivial (fun hHeld => ?_); refine with_tabW laws_FnGramSigns.tab18 laws_FnGramSigns.bits18 (fun HT_ HW_ => ?_)
                 generalize wr.drew = w60 at HO_106001 BK105 HB hHeld ⊢
                 refine pure_ (i := 0) (N := some 71) (v := ?_) (a' := ?_) #[true, false, false, false, false, false, false, false, false, false, false, false, false, false, false, false, false, false, false, false, false] rfl rfl (any_of HT_.out (by kernel_rfl)) (fun _ _ _ h => h) (Or.inl ⟨by rfl, ?_⟩) ?_ ?_
                 rotate_left
                 ·intro w'
                  go_simp
                  with_reducible rfl
                 rotate_left
                 ·simp only [Act.put, List.setIfInBounds_toArray, List.set_cons_zero, List.set_cons_succ, i64_w, i32_w]
                  rfl
                 refine pure_ (i := 1) (N := some 72) (v := ?_) (a' := ?_) #[true, true, false, false, false, false, false, false, false, false, false, false, false, false, false, false, false, false, false, false, false] rfl rfl (any_of HT_.out (by kernel_rfl)) (fun _ _ _ h => h) (Or.inl ⟨by rfl, ?_⟩) ?_ ?_
                 rotate_left
                 ·intro w'
                  go_simp
                  with_reducible rfl
                 rotate_left
                 ·simp only [Act.put, List.setIfInBounds_toArray, List.set_cons_zero, List.set_cons_succ, i64_w, i32_w]
                  rfl
                 refine pure_ (i := 2) (N := some 73) (v := ?_) (a' := ?_) #[true, true, true, false, false, false, false, false, false, false, false, false, false, false, false, false, false, false, false, false, false] rfl rfl (any_of HT_.out (by kernel_rfl)) (fun _ _ _ h => h) (Or.inl ⟨by rfl, ?_⟩) ?_ ?_
                 rotate_left
                 ·intro w'
                  go_simp
                  with_reducible rfl
                 rotate_left
                 ·simp only [Act.put, List.setIfInBounds_toArray, List.set_cons_zero, List.set_cons_succ, i64_w, i32_w]
                  rfl
                 refine pure_ (i := 3) (N := some 74) (v := ?_) (a' := ?_) #[true, true, true, true, false, false, false, false, false, false, false, false, false, false, false, false, false, false, false, false, false] rfl rfl (any_of HT_.out (by kernel_rfl)) (fun _ _ _ h => h) (Or.inl ⟨by rfl, ?_⟩) ?_ ?_
                 rotate_left
                 ·intro w'
                  go_simp
                  with_reducible rfl
                 rotate_left
                 ·simp only [Act.put, List.setIfInBounds_toArray, List.set_cons_zero, List.set_cons_succ, i64_w, i32_w]
                  rfl
                 refine pure_ (i := 4) (N := some 75) (v := ?_) (a' := ?_) #[true, true, true, true, true, false, false, false, false, false, false, false, false, false, false, false, false, false, false, false, false] rfl rfl (any_of HT_.out (by kernel_rfl)) (fun _ _ _ h => h) (Or.inl ⟨by rfl, ?_⟩) ?_ ?_
                 rotate_left
                 ·intro w'
                  go_simp
                  with_reducible rfl
                 rotate_left
                 ·simp only [Act.put, List.setIfInBounds_toArray, List.set_cons_zero, List.set_cons_succ, i64_w, i32_w]
                  rfl
                 refine one_ (i := 5) (N := some 76) #[true, true, true, true, true, true, false, false, false, false, false, false, false, false, false, false, false, false, false, false, false] rfl rfl (one_of HT_.out (by kernel_rfl)) (by decide) (fun K hK => ?_)
                 refine goes_ Tryd.func29 (by kernel_rfl) rfl #[.string (t107.extract (x7_3 : Int).toNat ((wrap64 (x7_3 + 1)) : Int).toNat)] (by rfl) rfl rfl q72_1 ?_
                 with_reducible refine (impl_SignSmall.calls (t107.extract (x7_3 : Int).toNat ((wrap64 (x7_3 + 1)) : Int).toNat) true _ A49.out).mono ?_
                 rintro e w' ⟨rfl, ⟨nd, rfl⟩⟩
                 refine ⟨_, rfl, ?_⟩
                 refine hK.out _ _ trivial (fun hHeld => ?_)
                 clear hK K
                 refine norm_ (a' := ?_) ?_ ?_
                 rotate_left
                 ·show Act.put _ (some 76) _ = _
                  simp only [Act.put, List.setIfInBounds_toArray, List.set_cons_zero, List.set_cons_succ, i64_w, i32_w]
                  rfl
                 refine pure_ (i := 6) (N := some 77) (v := ?_) (a' := ?_) #[true, true, true, true, true, true, true, false, false, false, false, false, false, false, false, false, false, false, false, false, false] rfl rfl (any_of HT_.out (by kernel_rfl)) (fun _ _ _ h => h) (Or.inl ⟨by rfl, ?_⟩) ?_ ?_
                 rotate_left
                 ·intro w'
                  go_simp
                  with_reducible rfl
                 rotate_left
                 ·simp only [Act.put, List.setIfInBounds_toArray, List.set_cons_zero, List.set_cons_succ, i64_w, i32_w]
                  rfl
                 refine pure_ (i := 7) (N := some 78) (v := ?_) (a' := ?_) #[true, true, true, true, true, true, true, true, false, false, false, false, false, false, false, false, false, false, false, false, false] rfl rfl (any_of HT_.out (by kernel_rfl)) (fun _ _ _ h => h) (Or.inl ⟨by rfl, ?_⟩) ?_ ?_
                 rotate_left
                 ·intro w'
                  go_simp
                  with_reducible rfl
                 rotate_left
                 ·simp only [Act.put, List.setIfInBounds_toArray, List.set_cons_zero, List.set_cons_succ, i64_w, i32_w]
                  rfl
                 refine pure_ (i := 8) (N := some 79) (v := ?_) (a' := ?_) #[true, true, true, true, true, true, true, true, true, false, false, false, false, false, false, false, false, false, false, false, false] rfl rfl (any_of HT_.out (by kernel_rfl)) (fun _ _ _ h => h) (Or.inl ⟨by rfl, ?_⟩) ?_ ?_
                 rotate_left
                 ·intro w'
                  go_simp
                  with_reducible rfl
                 rotate_left
                 ·simp only [Act.put, List.setIfInBounds_toArray, List.set_cons_zero, List.set_cons_succ, i64_w, i32_w]
                  rfl
                 refine pure_ (i := 9) (N := some 80) (v := ?_) (a' := ?_) #[true, true, true, true, true, true, true, true, true, true, false, false, false, false, false, false, false, false, false, false, false] rfl rfl (any_of HT_.out (by kernel_rfl)) (fun _ _ _ h => h) (Or.inl ⟨by rfl, ?_⟩) ?_ ?_
                 rotate_left
                 ·intro w'
                  go_simp
                  with_reducible rfl
                 rotate_left
                 ·simp only [Act.put, List.setIfInBounds_toArray, List.set_cons_zero, List.set_cons_succ, i64_w, i32_w]
                  rfl
                 refine pure_ (i := 10) (N := some 81) (v := ?_) (a' := ?_) #[true, true, true, true, true, true, true, true, true, true, true, false, false, false, false, false, false, false, false, false, false] rfl rfl (any_of HT_.out (by kernel_rfl)) (fun _ _ _ h => h) (Or.inl ⟨by rfl, ?_⟩) ?_ ?_
                 rotate_left
                 ·intro w'
                  go_simp
                  with_reducible rfl
                 rotate_left
                 ·simp only [Act.put, List.setIfInBounds_toArray, List.set_cons_zero, List.set_cons_succ, i64_w, i32_w]
                  rfl
                 refine pure_ (i := 11) (N := some 82) (v := undef) (a' := ?_) #[true, true, true, true, true, true, true, true, true, true, true, true, false, false, false, false, false, false, false, false, false] rfl rfl (any_of HT_.out (by kernel_rfl)) (fun _ _ _ h => h) (Or.inr ⟨by rfl, rfl⟩) ?_ ?_
                 rotate_left
                 ·simp only [Act.put, List.setIfInBounds_toArray, List.set_cons_zero, List.set_cons_succ, i64_w, i32_w]
                  rfl
                 refine pure_ (i := 12) (N := some 83) (v := undef) (a' := ?_) #[true, true, true, true, true, true, true, true, true, true, true, true, true, false, false, false, false, false, false, false, false] rfl rfl (any_of HT_.out (by kernel_rfl)) (fun _ _ _ h => h) (Or.inr ⟨by rfl, rfl⟩) ?_ ?_
                 rotate_left
                 ·simp only [Act.put, List.setIfInBounds_toArray, List.set_cons_zero, List.set_cons_succ, i64_w, i32_w]
                  rfl
                 refine pure_ (i := 13) (N := some 84) (v := undef) (a' := ?_) #[true, true, true, true, true, true, true, true, true, true, true, true, true, true, false, false, false, false, false, false, false] rfl rfl (any_of HT_.out (by kernel_rfl)) (fun _ _ _ h => h) (Or.inr ⟨by rfl, rfl⟩) ?_ ?_
                 rotate_left
                 ·simp only [Act.put, List.setIfInBounds_toArray, List.set_cons_zero, List.set_cons_succ, i64_w, i32_w]
                  rfl
                 refine pure_ (i := 14) (N := some 85) (v := undef) (a' := ?_) #[true, true, true, true, true, true, true, true, true, true, true, true, true, true, true, false, false, false, false, false, false] rfl rfl (any_of HT_.out (by kernel_rfl)) (fun _ _ _ h => h) (Or.inr ⟨by rfl, rfl⟩) ?_ ?_
                 rotate_left
                 ·simp only [Act.put, List.setIfInBounds_toArray, List.set_cons_zero, List.set_cons_succ, i64_w, i32_w]
                  rfl
                 refine pure_ (i := 15) (N := some 86) (v := undef) (a' := ?_) #[true, true, true, true, true, true, true, true, true, true, true, true, true, true, true, true, false, false, false, false, false] rfl rfl (any_of HT_.out (by kernel_rfl)) (fun _ _ _ h => h) (Or.inr ⟨by rfl, rfl⟩) ?_ ?_
                 rotate_left
                 ·simp only [Act.put, List.setIfInBounds_toArray, List.set_cons_zero, List.set_cons_succ, i64_w, i32_w]
                  rfl
                 refine pure_ (i := 16) (N := some 87) (v := undef) (a' := ?_) #[true, true, true, true, true, true, true, true, true, true, true, true, true, true, true, true, true, false, false, false, false] rfl rfl (any_of HT_.out (by kernel_rfl)) (fun _ _ _ h => h) (Or.inr ⟨by rfl, rfl⟩) ?_ ?_
                 rotate_left
                 ·simp only [Act.put, List.setIfInBounds_toArray, List.set_cons_zero, List.set_cons_succ, i64_w, i32_w]
                  rfl
                 refine pure_ (i := 17) (N := some 88) (v := undef) (a' := ?_) #[true, true, true, true, true, true, true, true, true, true, true, true, true, true, true, true, true, true, false, false, false] rfl rfl (any_of HT_.out (by kernel_rfl)) (fun _ _ _ h => h) (Or.inr ⟨by rfl, rfl⟩) ?_ ?_
                 rotate_left
                 ·simp only [Act.put, List.setIfInBounds_toArray, List.set_cons_zero, List.set_cons_succ, i64_w, i32_w]
                  rfl
                 refine pure_ (i := 18) (N := some 89) (v := undef) (a' := ?_) #[true, true, true, true, true, true, true, true, true, true, true, true, true, true, true, true, true, true, true, false, false] rfl rfl (any_of HT_.out (by kernel_rfl)) (fun _ _ _ h => h) (Or.inr ⟨by rfl, rfl⟩) ?_ ?_
                 rotate_left
                 ·simp only [Act.put, List.setIfInBounds_toArray, List.set_cons_zero, List.set_cons_succ, i64_w, i32_w]
                  rfl
                 refine pure_ (i := 19) (N := some 90) (v := ?_) (a' := ?_) #[true, true, true, true, true, true, true, true, true, true, true, true, true, true, true, true, true, true, true, true, false] rfl rfl (any_of HT_.out (by kernel_rfl)) (fun _ _ _ h => h) (Or.inl ⟨by rfl, ?_⟩) ?_ ?_
                 rotate_left
                 ·intro w'
                  go_simp
                  with_reducible rfl
                 rotate_left
                 ·simp only [Act.put, List.setIfInBounds_toArray, List.set_cons_zero, List.set_cons_succ, i64_w, i32_w]
                  rfl
                 refine pure_ (i := 20) (N := some 91) (v := ?_) (a' := ?_) #[true, true, true, true, true, true, true, true, true, true, true, true, true, true, true, true, true, true, true, true, true] rfl rfl (any_of HT_.out (by kernel_rfl)) (fun _ _ _ h => h) (Or.inl ⟨by rfl, ?_⟩) ?_ ?_
                 rotate_left
                 ·intro w'
                  go_simp
                  with_reducible rfl
                 rotate_left
                 ·simp only [Act.put, List.setIfInBounds_toArray, List.set_cons_zero, List.set_cons_succ, i64_w, i32_w]
                  rfl
                 refine done_ (done_of HT_.out (by kernel_rfl)) ?_
                 try go_wp2
                 go_roundg k3
                 case measure => have := HJ5.out; have := HK2.out; have := HK3.out; omega
                 case rel => exact ⟨(wrap64 (x7_3 + 1)), (by first | rfl | (simp; done) | (simp [*]; done)), H', ⟨by have := HJ5.out; have := HK2.out; have := HK3.out; omega⟩, ⟨by (with_reducible repeat (first | apply Kd.R_alloc | apply Kd.R_drewN | apply Kd.R_drew)); exact HO_106001.out⟩, ⟨by (with_reducible repeat (first | refine blk_drewN ?_ _ | refine blk_drew ?_ | refine blk_alloc ?_ _)); exact BK105.out⟩, ⟨by repeat (first | (with_reducible first | exact HB.out | apply below_alloc | apply pw_below_drewN | apply below_drew1 | refine below_set ?_ GE105.out) | exact HB.out)⟩⟩
               ·replace c50 := Bool.eq_false_iff.mpr c50
                subst c50
                have H1 : (some false) = some r := by rw [if_neg (show ¬ (false = true) by decide)] at H; exact H
                clear H
                have H := H1
                clear H1
                obtain rfl := Option.some.inj H
                try go_wp2
                have n0_ := Aside0.mk (Kd.R_drew HO_106001.out)
                have n1_ := Aside0.mk (blk_drew BK105.out)
                have n2_ := Aside0.mk (below_drew1 HB.out)
                clear HO_106001
                clear BK105
                clear HB
                have HO_106001 := n0_
                have BK105 := n1_
                have HB := n2_
                clear n0_ n1_ n2_
                refine start_ (n := 21) (S := fun w' => True) (ds := []) #[false, false, false, false, false, false, false, false, false, false, false, false, false, false, false, false, false, false, false, false, false] (by kernel_rfl) rfl rfl trivial (fun hHeld => ?_); refine with_tabW laws_FnGramSigns.tab18 laws_FnGramSigns.bits18 (fun HT_ HW_ => ?_)
                generalize wr.drew = w61 at HO_106001 BK105 HB hHeld ⊢
                refine pure_ (i := 0) (N := some 71) (v := ?_) (a' := ?_) #[true, false, false, false, false, false, false, false, false, false, false, false, false, false, false, false, false, false, false, false, false] rfl rfl (any_of HT_.out (by kernel_rfl)) (fun _ _ _ h => h) (Or.inl ⟨by rfl, ?_⟩) ?_ ?_
                rotate_left
                ·intro w'
                 go_simp
                 with_reducible rfl
                rotate_left
                ·simp only [Act.put, List.setIfInBounds_toArray, List.set_cons_zero, List.set_cons_succ, i64_w, i32_w]
                 rfl
                refine pure_ (i := 1) (N := some 72) (v := ?_) (a' := ?_) #[true, true, false, false, false, false, false, false, false, false, false, false, false, false, false, false, false, false, false, false, false] rfl rfl (any_of HT_.out (by kernel_rfl)) (fun _ _ _ h => h) (Or.inl ⟨by rfl, ?_⟩) ?_ ?_
                rotate_left
                ·intro w'
                 go_simp
                 with_reducible rfl
                rotate_left
                ·simp only [Act.put, List.setIfInBounds_toArray, List.set_cons_zero, List.set_cons_succ, i64_w, i32_w]
                 rfl
                refine pure_ (i := 2) (N := some 73) (v := ?_) (a' := ?_) #[true, true, true, false, false, false, false, false, false, false, false, false, false, false, false, false, false, false, false, false, false] rfl rfl (any_of HT_.out (by kernel_rfl)) (fun _ _ _ h => h) (Or.inl ⟨by rfl, ?_⟩) ?_ ?_
                rotate_left
                ·intro w'
                 go_simp
                 with_reducible rfl
                rotate_left
                ·simp only [Act.put, List.setIfInBounds_toArray, List.set_cons_zero, List.set_cons_succ, i64_w, i32_w]
                 rfl
                refine pure_ (i := 3) (N := some 74) (v := ?_) (a' := ?_) #[true, true, true, true, false, false, false, false, false, false, false, false, false, false, false, false, false, false, false, false, false] rfl rfl (any_of HT_.out (by kernel_rfl)) (fun _ _ _ h => h) (Or.inl ⟨by rfl, ?_⟩) ?_ ?_
                rotate_left
                ·intro w'
                 go_simp
                 with_reducible rfl
                rotate_left
                ·simp only [Act.put, List.setIfInBounds_toArray, List.set_cons_zero, List.set_cons_succ, i64_w, i32_w]
                 rfl
                refine pure_ (i := 4) (N := some 75) (v := ?_) (a' := ?_) #[true, true, true, true, true, false, false, false, false, false, false, false, false, false, false, false, false, false, false, false, false] rfl rfl (any_of HT_.out (by kernel_rfl)) (fun _ _ _ h => h) (Or.inl ⟨by rfl, ?_⟩) ?_ ?_
                rotate_left
                ·intro w'
                 go_simp
                 with_reducible rfl
                rotate_left
                ·simp only [Act.put, List.setIfInBounds_toArray, List.set_cons_zero, List.set_cons_succ, i64_w, i32_w]
                 rfl
                refine one_ (i := 5) (N := some 76) #[true, true, true, true, true, true, false, false, false, false, false, false, false, false, false, false, false, false, false, false, false] rfl rfl (one_of HT_.out (by kernel_rfl)) (by decide) (fun K hK => ?_)
                refine goes_ Tryd.func29 (by kernel_rfl) rfl #[.string (t107.extract (x7_3 : Int).toNat ((wrap64 (x7_3 + 1)) : Int).toNat)] (by rfl) rfl rfl q72_1 ?_
                with_reducible refine (impl_SignSmall.calls (t107.extract (x7_3 : Int).toNat ((wrap64 (x7_3 + 1)) : Int).toNat) false _ A49.out).mono ?_
                rintro e w' ⟨rfl, ⟨nd, rfl⟩⟩
                refine ⟨_, rfl, ?_⟩
                refine hK.out _ _ trivial (fun hHeld => ?_)
                clear hK K
                refine norm_ (a' := ?_) ?_ ?_
                rotate_left
                ·show Act.put _ (some 76) _ = _
                 simp only [Act.put, List.setIfInBounds_toArray, List.set_cons_zero, List.set_cons_succ, i64_w, i32_w]
                 rfl
                refine pure_ (i := 6) (N := some 77) (v := ?_) (a' := ?_) #[true, true, true, true, true, true, true, false, false, false, false, false, false, false, false, false, false, false, false, false, false] rfl rfl (any_of HT_.out (by kernel_rfl)) (fun _ _ _ h => h) (Or.inl ⟨by rfl, ?_⟩) ?_ ?_
                rotate_left
                ·intro w'
                 go_simp
                 with_reducible rfl
                rotate_left
                ·simp only [Act.put, List.setIfInBounds_toArray, List.set_cons_zero, List.set_cons_succ, i64_w, i32_w]
                 rfl
                refine pure_ (i := 7) (N := some 78) (v := ?_) (a' := ?_) #[true, true, true, true, true, true, true, true, false, false, false, false, false, false, false, false, false, false, false, false, false] rfl rfl (any_of HT_.out (by kernel_rfl)) (fun _ _ _ h => h) (Or.inl ⟨by rfl, ?_⟩) ?_ ?_
                rotate_left
                ·intro w'
                 go_simp
                 with_reducible rfl
                rotate_left
                ·simp only [Act.put, List.setIfInBounds_toArray, List.set_cons_zero, List.set_cons_succ, i64_w, i32_w]
                 rfl
                refine pure_ (i := 8) (N := some 79) (v := undef) (a' := ?_) #[true, true, true, true, true, true, true, true, true, false, false, false, false, false, false, false, false, false, false, false, false] rfl rfl (any_of HT_.out (by kernel_rfl)) (fun _ _ _ h => h) (Or.inr ⟨by rfl, rfl⟩) ?_ ?_
                rotate_left
                ·simp only [Act.put, List.setIfInBounds_toArray, List.set_cons_zero, List.set_cons_succ, i64_w, i32_w]
                 rfl
                refine pure_ (i := 9) (N := some 80) (v := undef) (a' := ?_) #[true, true, true, true, true, true, true, true, true, true, false, false, false, false, false, false, false, false, false, false, false] rfl rfl (any_of HT_.out (by kernel_rfl)) (fun _ _ _ h => h) (Or.inr ⟨by rfl, rfl⟩) ?_ ?_
                rotate_left
                ·simp only [Act.put, List.setIfInBounds_toArray, List.set_cons_zero, List.set_cons_succ, i64_w, i32_w]
                 rfl
                refine pure_ (i := 10) (N := some 81) (v := undef) (a' := ?_) #[true, true, true, true, true, true, true, true, true, true, true, false, false, false, false, false, false, false, false, false, false] rfl rfl (any_of HT_.out (by kernel_rfl)) (fun _ _ _ h => h) (Or.inr ⟨by rfl, rfl⟩) ?_ ?_
                rotate_left
                ·simp only [Act.put, List.setIfInBounds_toArray, List.set_cons_zero, List.set_cons_succ, i64_w, i32_w]
                 rfl
                refine pure_ (i := 11) (N := some 82) (v := undef) (a' := ?_) #[true, true, true, true, true, true, true, true, true, true, true, true, false, false, false, false, false, false, false, false, false] rfl rfl (any_of HT_.out (by kernel_rfl)) (fun _ _ _ h => h) (Or.inr ⟨by rfl, rfl⟩) ?_ ?_
                rotate_left
                ·simp only [Act.put, List.setIfInBounds_toArray, List.set_cons_zero, List.set_cons_succ, i64_w, i32_w]
                 rfl
                refine pure_ (i := 12) (N := some 83) (v := undef) (a' := ?_) #[true, true, true, true, true, true, true, true, true, true, true, true, true, false, false, false, false, false, false, false, false] rfl rfl (any_of HT_.out (by kernel_rfl)) (fun _ _ _ h => h) (Or.inr ⟨by rfl, rfl⟩) ?_ ?_
                rotate_left
                ·simp only [Act.put, List.setIfInBounds_toArray, List.set_cons_zero, List.set_cons_succ, i64_w, i32_w]
                 rfl
                refine pure_ (i := 13) (N := some 84) (v := undef) (a' := ?_) #[true, true, true, true, true, true, true, true, true, true, true, true, true, true, false, false, false, false, false, false, false] rfl rfl (any_of HT_.out (by kernel_rfl)) (fun _ _ _ h => h) (Or.inr ⟨by rfl, rfl⟩) ?_ ?_
                rotate_left
                ·simp only [Act.put, List.setIfInBounds_toArray, List.set_cons_zero, List.set_cons_succ, i64_w, i32_w]
                 rfl
                refine pure_ (i := 14) (N := some 85) (v := undef) (a' := ?_) #[true, true, true, true, true, true, true, true, true, true, true, true, true, true, true, false, false, false, false, false, false] rfl rfl (any_of HT_.out (by kernel_rfl)) (fun _ _ _ h => h) (Or.inr ⟨by rfl, rfl⟩) ?_ ?_
                rotate_left
                ·simp only [Act.put, List.setIfInBounds_toArray, List.set_cons_zero, List.set_cons_succ, i64_w, i32_w]
                 rfl
                refine pure_ (i := 15) (N := some 86) (v := undef) (a' := ?_) #[true, true, true, true, true, true, true, true, true, true, true, true, true, true, true, true, false, false, false, false, false] rfl rfl (any_of HT_.out (by kernel_rfl)) (fun _ _ _ h => h) (Or.inr ⟨by rfl, rfl⟩) ?_ ?_
                rotate_left
                ·simp only [Act.put, List.setIfInBounds_toArray, List.set_cons_zero, List.set_cons_succ, i64_w, i32_w]
                 rfl
                refine pure_ (i := 16) (N := some 87) (v := undef) (a' := ?_) #[true, true, true, true, true, true, true, true, true, true, true, true, true, true, true, true, true, false, false, false, false] rfl rfl (any_of HT_.out (by kernel_rfl)) (fun _ _ _ h => h) (Or.inr ⟨by rfl, rfl⟩) ?_ ?_
                rotate_left
                ·simp only [Act.put, List.setIfInBounds_toArray, List.set_cons_zero, List.set_cons_succ, i64_w, i32_w]
                 rfl
                refine pure_ (i := 17) (N := some 88) (v := undef) (a' := ?_) #[true, true, true, true, true, true, true, true, true, true, true, true, true, true, true, true, true, true, false, false, false] rfl rfl (any_of HT_.out (by kernel_rfl)) (fun _ _ _ h => h) (Or.inr ⟨by rfl, rfl⟩) ?_ ?_
                rotate_left
                ·simp only [Act.put, List.setIfInBounds_toArray, List.set_cons_zero, List.set_cons_succ, i64_w, i32_w]
                 rfl
                refine pure_ (i := 18) (N := some 89) (v := undef) (a' := ?_) #[true, true, true, true, true, true, true, true, true, true, true, true, true, true, true, true, true, true, true, false, false] rfl rfl (any_of HT_.out (by kernel_rfl)) (fun _ _ _ h => h) (Or.inr ⟨by rfl, rfl⟩) ?_ ?_
                rotate_left
                ·simp only [Act.put, List.setIfInBounds_toArray, List.set_cons_zero, List.set_cons_succ, i64_w, i32_w]
                 rfl
                refine pure_ (i := 19) (N := some 90) (v := undef) (a' := ?_) #[true, true, true, true, true, true, true, true, true, true, true, true, true, true, true, true, true, true, true, true, false] rfl rfl (any_of HT_.out (by kernel_rfl)) (fun _ _ _ h => h) (Or.inr ⟨by rfl, rfl⟩) ?_ ?_
                rotate_left
                ·simp only [Act.put, List.setIfInBounds_toArray, List.set_cons_zero, List.set_cons_succ, i64_w, i32_w]
                 rfl
                refine pure_ (i := 20) (N := some 91) (v := ?_) (a' := ?_) #[true, true, true, true, true, true, true, true, true, true, true, true, true, true, true, true, true, true, true, true, true] rfl rfl (any_of HT_.out (by kernel_rfl)) (fun _ _ _ h => h) (Or.inl ⟨by rfl, ?_⟩) ?_ ?_
                rotate_left
                ·intro w'
                 go_simp
                 with_reducible rfl
                rotate_left
                ·simp only [Act.put, List.setIfInBounds_toArray, List.set_cons_zero, List.set_cons_succ, i64_w, i32_w]
                 rfl
                refine done_ (done_of HT_.out (by kernel_rfl)) ?_
                try go_wp2
                go_ret
                exact ⟨by first | rfl | (simp [errW_none, errW_some] <;> rfl) | (simp [*, errW_none, errW_some] <;> rfl), by repeat (first | (with_reducible first | exact HB.out | apply below_alloc | apply pw_below_drewN | apply below_drew1 | refine below_set ?_ GE105.out) | exact HB.out)⟩
              ·rw [if_neg c48] at H
               exact absurd H (by simp)
             ·rw [if_neg c47] at H
              exact absurd H (by simp)
            ·rw [if_neg c46] at H
             exact absurd H (by simp)
           ·rw [if_neg c45] at H
            have c45b0 : decide (x7_3 < (t107.size : Int)) = false := decide_eq_false c45
            clear c45
            have H' := Aside0.mk H
            clear H
            go_wp2
            go_loopg [8] k3 (fun kq v8 w' => ∃ (x8_4 : Int), v8 = .int .i64 x8_4 ∧ Aside0 (laws_FnGramSigns.l2 kq t106 t107 x8_4 t101 t102 = some r) ∧ Aside0 (kq ≤ k3) ∧ Aside0 (Kd.R k46 46 w' w.heap.size (fun _ => True) (.slice Ao10 t102.length co10) t102) ∧ Aside0 (w'.heap[gb105]? = some (.cells #[.string t101, (.slice Ao10 t102.length co10)] 25 (0, 0))) ∧ Aside0 (Below w.heap.size w w'))
            case atStart => exact ⟨(0), (by first | rfl | (simp; done) | (simp [*]; done)), H', ⟨Nat.le_refl _⟩, ⟨by (with_reducible repeat (first | apply Kd.R_alloc | apply Kd.R_drewN | apply Kd.R_drew)); exact HO_106001.out⟩, ⟨by (with_reducible repeat (first | refine blk_drewN ?_ _ | refine blk_drew ?_ | refine blk_alloc ?_ _)); exact BK105.out⟩, ⟨by repeat (first | (with_reducible first | exact HB.out | apply below_alloc | apply pw_below_drewN | apply below_drew1 | refine below_set ?_ GE105.out) | exact HB.out)⟩⟩
            case round =>
             clear H'
             try clear c2
             try clear p2
             try clear c4
             try clear c5
             try clear p5
             try clear q5
             try clear hx5
             try clear p6
             try clear c29
             try clear c45
             try clear c45b0
             try clear c46
             try clear c47
             try clear c48
             try clear c50
             try clear c51
             try clear c51b0
             try clear c53
             try clear c54
             try clear p55
             try clear q55
             try clear hx55
             try clear p56
             try clear q56
             try clear hx56
             try clear c57
             try clear c57b0
             try clear p55
             try clear p56
             try clear q55
             try clear q56
             obtain ⟨x8_4, rfl, HA, HK4, HO_106001, BK105, HB⟩ := hrel
             cases gk with
             | zero => exact absurd HA.out (by simp [laws_FnGramSigns.l2])
             | succ k4 =>
              have H := HA.out
              clear HA
              simp only [laws_FnGramSigns.l2] at H
              by_cases c62 : x8_4 < (t102.length : Int)
              ·rw [if_pos c62] at H
               have c62b0 : decide (x8_4 < (t102.length : Int)) = true := decide_eq_true c62
               clear c62
               have H' := Aside0.mk H
               clear H
               have hcz63_0 : wr.cell? ⟨gb105, 0, none⟩ = some (.string t101) := (blk_cell BK105.out 0).trans rfl
               have hcz63_1 : wr.cell? ⟨gb105, 1, none⟩ = some (.slice Ao10 t102.length co10) := (blk_cell BK105.out 1).trans rfl
               have hfz63_0 := blk_frozen BK105.out 0
               have hfz63_1 := blk_frozen BK105.out 1
               go_wp2
               go_loopg [9] k4 (fun kq v9 w' => ∃ (x9_5 : Int), v9 = .int .i64 x9_5 ∧ Aside0 (laws_FnGramSigns.l3 kq t106 t107 x8_4 x9_5 t101 t102 = some r) ∧ Aside0 (kq ≤ k4) ∧ Aside0 (Kd.R k46 46 w' w.heap.size (fun _ => True) (.slice Ao10 t102.length co10) t102) ∧ Aside0 (w'.heap[gb105]? = some (.cells #[.string t101, (.slice Ao10 t102.length co10)] 25 (0, 0))) ∧ Aside0 (Below w.heap.size w w'))
               case atStart => exact ⟨(0), (by first | rfl | (simp; done) | (simp [*]; done)), H', ⟨Nat.le_refl _⟩, ⟨by (with_reducible repeat (first | apply Kd.R_alloc | apply Kd.R_drewN | apply Kd.R_drew)); exact HO_106001.out⟩, ⟨by (with_reducible repeat (first | refine blk_drewN ?_ _ | refine blk_drew ?_ | refine blk_alloc ?_ _)); exact BK105.out⟩, ⟨by repeat (first | (with_reducible first | exact HB.out | apply below_alloc | apply pw_below_drewN | apply below_drew1 | refine below_set ?_ GE105.out) | exact HB.out)⟩⟩
               case round =>
                clear H'
                try clear c2
                try clear p2
                try clear c4
                try clear c5
                try clear p5
                try clear q5
                try clear hx5
                try clear c6
                try clear p6
                try clear c29
                try clear c45
                try clear c45b0
                try clear c46
                try clear c47
                try clear c48
                try clear c50
                try clear c51
                try clear c51b0
                try clear c53
                try clear c54
                try clear p55
                try clear q55
                try clear hx55
                try clear p56
                try clear q56
                try clear hx56
                try clear c57
                try clear c57b0
                try clear c62
                try clear c62b0
                try clear hcz63_0
                try clear hcz63_1
                try clear hfz63_0
                try clear hfz63_1
                try clear p2
                try clear p5
                try clear p55
                try clear p56
                try clear p6
                try clear q5
                try clear q55
                try clear q56
                obtain ⟨x9_5, rfl, HA, HK5, HO_106001, BK105, HB⟩ := hrel
                cases gk with
                | zero => exact absurd HA.out (by simp [laws_FnGramSigns.l3])
                | succ k5 =>
                 have H := HA.out
                 clear HA
                 simp only [laws_FnGramSigns.l3] at H
                 by_cases c64 : 0 ≤ x8_4
                 ·rw [if_pos c64] at H
                  have c64b0 : decide (0 ≤ x8_4) = true := decide_eq_true c64
                  clear c64
                  by_cases c65 : x8_4 < (t102.length : Int)
                  ·rw [if_pos c65] at H
                   have c65b0 : decide (x8_4 < (t102.length : Int)) = true := decide_eq_true c65
                   clear c65
                   by_cases c66 : x9_5 < (((rd_T46 t102 x8_4).f1).size : Int)
                   ·rw [if_pos c66] at H
                    have c66b0 : decide (x9_5 < (((rd_T46 t102 x8_4).f1).size : Int)) = true := decide_eq_true c66
                    clear c66
                    by_cases c67 : t106.size + t107.size ≤ 9223372036854775807
                    ·rw [if_pos c67] at H
                     have c67b0 := eq_true c67
                     have c67b1 : decide (t106.size + t107.size ≤ 9223372036854775807) = true := decide_eq_true c67
                     try have c67b2 : (9223372036854775807 < t106.size + t107.size) = False := eq_false (Nat.not_lt.2 c67)
                     by_cases c68 : 0 ≤ x9_5
                     ·rw [if_pos c68] at H
                      have c68b0 : decide (0 ≤ x9_5) = true := decide_eq_true c68
                      clear c68
                      replace H := Option.bind_eq_some_iff.mp H
                      obtain ⟨t116, A700, H⟩ := H
                      replace H : (if t116 = true then (laws_FnGramSigns.l3 k5 t106 t107 x8_4 (wrap64 (x9_5 + 1)) t101 t102) else (some false)) = some r := H
                      have A70 := Aside0.mk A700
                      clear A700
                      by_cases c71 : t116 = true
                      ·subst c71
                       have H1 : (laws_FnGramSigns.l3 k5 t106 t107 x8_4 (wrap64 (x9_5 + 1)) t101 t102) = some r := by rw [if_pos rfl] at H; exact H
                       clear H
                       have H := H1
                       clear H1
                       have H' := Aside0.mk H
                       clear H
                       have hcz72_0 : wr.cell? ⟨gb105, 0, none⟩ = some (.string t101) := (blk_cell BK105.out 0).trans rfl
                       have hcz72_1 : wr.cell? ⟨gb105, 1, none⟩ = some (.slice Ao10 t102.length co10) := (blk_cell BK105.out 1).trans rfl
                       have hfz72_0 := blk_frozen BK105.out 0
                       have hfz72_1 := blk_frozen BK105.out 1
                       have p114 : 0 ≤ (x8_4 : Int) := of_decide_eq_true (by first | (with_reducible assumption) | assumption)
                       have q114 : x8_4 < (t102.length : Int) := of_decide_eq_true (by first | (with_reducible assumption) | assumption)
                       obtain ⟨ad114, e114, hx114_0, hx114_1⟩ := at_T46 (Kd.R_reads' HO_106001.out).2.2 x8_4 p114 q114
                       cases e114
                       replace p114 := eq_true p114
                       replace q114 := eq_true q114
                       have p115 : 0 ≤ (x8_4 : Int) := of_decide_eq_true (by first | (with_reducible assumption) | assumption)
                       have q115 : x8_4 < (t102.length : Int) := of_decide_eq_true (by first | (with_reducible assumption) | assumption)
                       obtain ⟨ad115, e115, hx115_0, hx115_1⟩ := at_T46 (Kd.R_reads' HO_106001.out).2.2 x8_4 p115 q115
                       obtain rfl : ad114 = ad115 := (by injection e115)
                       replace p115 := eq_true p115
                       replace q115 := eq_true q115
                       have p69 : 0 ≤ (x9_5 : Int) := of_decide_eq_true (by first | (with_reducible assumption) | assumption)
                       have q69 : x9_5 < (((rd_T46 t102 x8_4).f1).size : Int) := of_decide_eq_true (by first | (with_reducible assumption) | assumption)
                       have hx69 := bt_at ((rd_T46 t102 x8_4).f1) x9_5
                       replace p69 := eq_true p69
                       replace q69 := eq_true q69
                       go_wp2_with (first | ((with_reducible refine gate_callee (f := 30) rfl ?_); refine goesL_ (some 121) rfl rfl Tryd.func30 (by kernel_rfl) rfl #[.string (t106 ++ t107), .int .u8 (bt ((rd_T46 t102 x8_4).f1) x9_5)] rfl q72_1 ?_; (with_reducible refine (laws_wpHas.calls k5 (t106 ++ t107) (bt ((rd_T46 t102 x8_4).f1) x9_5) true _ A70.out).mono ?_); rintro e w' ⟨rfl, ⟨nd, rfl⟩⟩; refine ⟨_, rfl, ?_⟩))
                       go_roundg k5
                       case measure => have := HJ5.out; have := HK2.out; have := HK3.out; have := HK4.out; have := HK5.out; omega
                       case rel => exact ⟨(wrap64 (x9_5 + 1)), (by first | rfl | (simp; done) | (simp [*]; done)), H', ⟨by have := HJ5.out; have := HK2.out; have := HK3.out; have := HK4.out; have := HK5.out; omega⟩, ⟨by (with_reducible repeat (first | apply Kd.R_alloc | apply Kd.R_drewN | apply Kd.R_drew)); exact HO_106001.out⟩, ⟨by (with_reducible repeat (first | refine blk_drewN ?_ _ | refine blk_drew ?_ | refine blk_alloc ?_ _)); exact BK105.out⟩, ⟨by repeat (first | (with_reducible first | exact HB.out | apply below_alloc | apply pw_below_drewN | apply below_drew1 | refine below_set ?_ GE105.out) | exact HB.out)⟩⟩
                      ·replace c71 := Bool.eq_false_iff.mpr c71
                       subst c71
                       have H1 : (some false) = some r := by rw [if_neg (show ¬ (false = true) by decide)] at H; exact H
                       clear H
                       have H := H1
                       clear H1
                       obtain rfl := Option.some.inj H
                       have hcz73_0 : wr.cell? ⟨gb105, 0, none⟩ = some (.string t101) := (blk_cell BK105.out 0).trans rfl
                       have hcz73_1 : wr.cell? ⟨gb105, 1, none⟩ = some (.slice Ao10 t102.length co10) := (blk_cell BK105.out 1).trans rfl
                       have hfz73_0 := blk_frozen BK105.out 0
                       have hfz73_1 := blk_frozen BK105.out 1
                       have p114 : 0 ≤ (x8_4 : Int) := of_decide_eq_true (by first | (with_reducible assumption) | assumption)
                       have q114 : x8_4 < (t102.length : Int) := of_decide_eq_true (by first | (with_reducible assumption) | assumption)
                       obtain ⟨ad114, e114, hx114_0, hx114_1⟩ := at_T46 (Kd.R_reads' HO_106001.out).2.2 x8_4 p114 q114
                       cases e114
                       replace p114 := eq_true p114
                       replace q114 := eq_true q114
                       have p115 : 0 ≤ (x8_4 : Int) := of_decide_eq_true (by first | (with_reducible assumption) | assumption)
                       have q115 : x8_4 < (t102.length : Int) := of_decide_eq_true (by first | (with_reducible assumption) | assumption)
                       obtain ⟨ad115, e115, hx115_0, hx115_1⟩ := at_T46 (Kd.R_reads' HO_106001.out).2.2 x8_4 p115 q115
                       obtain rfl : ad114 = ad115 := (by injection e115)
                       replace p115 := eq_true p115
                       replace q115 := eq_true q115
                       have p69 : 0 ≤ (x9_5 : Int) := of_decide_eq_true (by first | (with_reducible assumption) | assumption)
                       have q69 : x9_5 < (((rd_T46 t102 x8_4).f1).size : Int) := of_decide_eq_true (by first | (with_reducible assumption) | assumption)
                       have hx69 := bt_at ((rd_T46 t102 x8_4).f1) x9_5
                       replace p69 := eq_true p69
                       replace q69 := eq_true q69
                       go_wp2_with (first | ((with_reducible refine gate_callee (f := 30) rfl ?_); refine goesL_ (some 121) rfl rfl Tryd.func30 (by kernel_rfl) rfl #[.string (t106 ++ t107), .int .u8 (bt ((rd_T46 t102 x8_4).f1) x9_5)] rfl q72_1 ?_; (with_reducible refine (laws_wpHas.calls k5 (t106 ++ t107) (bt ((rd_T46 t102 x8_4).f1) x9_5) false _ A70.out).mono ?_); rintro e w' ⟨rfl, ⟨nd, rfl⟩⟩; refine ⟨_, rfl, ?_⟩))
                       go_ret
                       exact ⟨by first | rfl | (simp [errW_none, errW_some] <;> rfl) | (simp [*, errW_none, errW_some] <;> rfl), by repeat (first | (with_reducible first | exact HB.out | apply below_alloc | apply pw_below_drewN | apply below_drew1 | refine below_set ?_ GE105.out) | exact HB.out)⟩
                     ·rw [if_neg c68] at H
                      exact absurd H (by simp)
                    ·rw [if_neg c67] at H
                     exact absurd H (by simp)
                   ·rw [if_neg c66] at H
                    have c66b0 : decide (x9_5 < (((rd_T46 t102 x8_4).f1).size : Int)) = false := decide_eq_false c66
                    clear c66
                    have H' := Aside0.mk H
                    clear H
                    have hcz74_0 : wr.cell? ⟨gb105, 0, none⟩ = some (.string t101) := (blk_cell BK105.out 0).trans rfl
                    have hcz74_1 : wr.cell? ⟨gb105, 1, none⟩ = some (.slice Ao10 t102.length co10) := (blk_cell BK105.out 1).trans rfl
                    have hfz74_0 := blk_frozen BK105.out 0
                    have hfz74_1 := blk_frozen BK105.out 1
                    have p114 : 0 ≤ (x8_4 : Int) := of_decide_eq_true (by first | (with_reducible assumption) | assumption)
                    have q114 : x8_4 < (t102.length : Int) := of_decide_eq_true (by first | (with_reducible assumption) | assumption)
                    obtain ⟨ad114, e114, hx114_0, hx114_1⟩ := at_T46 (Kd.R_reads' HO_106001.out).2.2 x8_4 p114 q114
                    cases e114
                    replace p114 := eq_true p114
                    replace q114 := eq_true q114
                    go_wp2
                    go_roundg k5
                    case measure => have := HJ5.out; have := HK2.out; have := HK3.out; have := HK4.out; have := HK5.out; omega
                    case rel => exact ⟨(wrap64 (x8_4 + 1)), (by first | rfl | (simp; done) | (simp [*]; done)), H', ⟨by have := HJ5.out; have := HK2.out; have := HK3.out; have := HK4.out; have := HK5.out; omega⟩, ⟨by (with_reducible repeat (first | apply Kd.R_alloc | apply Kd.R_drewN | apply Kd.R_drew)); exact HO_106001.out⟩, ⟨by (with_reducible repeat (first | refine blk_drewN ?_ _ | refine blk_drew ?_ | refine blk_alloc ?_ _)); exact BK105.out⟩, ⟨by repeat (first | (with_reducible first | exact HB.out | apply below_alloc | apply pw_below_drewN | apply below_drew1 | refine below_set ?_ GE105.out) | exact HB.out)⟩⟩
                  ·rw [if_neg c65] at H
                   exact absurd H (by simp)
                 ·rw [if_neg c64] at H
                  exact absurd H (by simp)
              ·rw [if_neg c62] at H
               have c62b0 : decide (x8_4 < (t102.length : Int)) = false := decide_eq_false c62
               clear c62
               by_cases c75 : 0 < (t101.size : Int)
               ·rw [if_pos c75] at H
                have c75b0 : decide (0 < (t101.size : Int)) = true := decide_eq_true c75
                have c75b1 : decide (0 < t101.size) = true := decide_eq_true (by omega)
                clear c75
                replace H := Option.bind_eq_some_iff.mp H
                obtain ⟨t113, A770, H⟩ := H
                replace H : (some t113) = some r := H
                have A77 := Aside0.mk A770
                clear A770
                obtain rfl := Option.some.inj H
                have hcz78_0 : wr.cell? ⟨gb105, 0, none⟩ = some (.string t101) := (blk_cell BK105.out 0).trans rfl
                have hcz78_1 : wr.cell? ⟨gb105, 1, none⟩ = some (.slice Ao10 t102.length co10) := (blk_cell BK105.out 1).trans rfl
                have hfz78_0 := blk_frozen BK105.out 0
                have hfz78_1 := blk_frozen BK105.out 1
                have p76 : 0 ≤ (0 : Int) := (by omega)
                have q76 : 0 < t101.size := (by have : (0 : Int) < (t101.size : Int) := of_decide_eq_true (by first | (with_reducible assumption) | assumption); omega)
                have hx76 : ∀ h : 0 < t101.size, ((t101[0]'h).toNat : Int) = bt t101 0 := bt_at t101 0
                clear p76
                have qi76 : (0 < (t101.size : Int)) = True := eq_true (of_decide_eq_true (by first | (with_reducible assumption) | assumption))
                replace q76 := eq_true q76
                go_wp2_with (first | ((with_reducible refine gate_callee (f := 30) rfl ?_); refine goesL_ (some 127) rfl rfl Tryd.func30 (by kernel_rfl) rfl #[.string t106, .int .u8 (bt t101 0)] rfl q72_1 ?_; (with_reducible refine (laws_wpHas.calls k4 t106 (bt t101 0) t113 _ A77.out).mono ?_); rintro e w' ⟨rfl, ⟨nd, rfl⟩⟩; refine ⟨_, rfl, ?_⟩))
                go_ret
                exact ⟨by first | rfl | (simp [errW_none, errW_some] <;> rfl) | (simp [*, errW_none, errW_some] <;> rfl), by repeat (first | (with_reducible first | exact HB.out | apply below_alloc | apply pw_below_drewN | apply below_drew1 | refine below_set ?_ GE105.out) | exact HB.out)⟩
               ·rw [if_neg c75] at H
                exact absurd H (by simp)
     ·replace c25 := Bool.eq_false_iff.mpr c25
      subst c25
      have H1 : (if t106.toList = ([] : List UInt8) then (some (t107.toList == ([] : List UInt8))) else (some false)) = some r := by rw [if_neg (show ¬ (false = true) by decide)] at H; exact H
      clear H
      have H := H1
      clear H1
      by_cases c79 : t106.toList = ([] : List UInt8)
      ·rw [if_pos c79] at H
       have c79b0 : (t106.toList == ([] : List UInt8)) = true := beq_iff_eq.mpr c79
       have c79b1 : (t106.toList != ([] : List UInt8)) = false := bne_eq_false_iff_eq.mpr c79
       clear c79
       obtain rfl := Option.some.inj H
       have hcz80_0 : wc.cell? ⟨gb105, 0, none⟩ = some (.string t101) := (blk_cell BK105.out 0).trans rfl
       have hcz80_1 : wc.cell? ⟨gb105, 1, none⟩ = some (.slice Ao10 t102.length co10) := (blk_cell BK105.out 1).trans rfl
       have hfz80_0 := blk_frozen BK105.out 0
       have hfz80_1 := blk_frozen BK105.out 1
       go_wp2_with (first | ((with_reducible refine gate_callee (f := 27) rfl ?_); refine goesL_ (some 30) rfl rfl Tryd.func27 (by kernel_rfl) rfl #[.agg #[.string t101, .slice Ao10 t102.length co10]] rfl q72_1 ?_; (with_reducible refine (spec_GramOk.calls kj5 t101 _ _ t102 false _ ?side1 ?side2 A24.out).mono ?_); (case side1 => repeat (first | exact (Kd.R_reads' HO_106001.out).2.2 | (with_reducible refine Kd.C_alloc ?_ _) | (with_reducible refine Kd.C_drewN ?_ _) | (with_reducible refine Kd.C_drew ?_))); (case side2 => exact (Kd.R_reads' HO_106001.out).2.1); rintro e w81 ⟨rfl, hb⟩; refine ⟨_, rfl, ?_⟩; have n0_ := Aside0.mk (Kd.R_below q72_7 hb); have n1_ := Aside0.mk (blk_below (g := gb105) (o := .cells #[.string t101, .slice Ao10 t102.length co10] 25 (0, 0)) q72_3 hb); have n2_ := Aside0.mk (below_step q72_2 hb); clear HO_106001; clear BK105; clear HB; have HO_106001 := n0_; have BK105 := n1_; have HB := n2_; clear n0_ n1_ n2_; (try clear hb); (try clear hb2); (try clear hk); (try clear hi)))
       go_ret
       exact ⟨by first | rfl | (simp [errW_none, errW_some] <;> rfl) | (simp [*, errW_none, errW_some] <;> rfl), by repeat (first | (with_reducible first | exact HB.out | apply below_alloc | apply pw_below_drewN | apply below_drew1 | refine below_set ?_ GE105.out) | exact HB.out)⟩
      ·rw [if_neg c79] at H
       have c79b0 : (t106.toList == ([] : List UInt8)) = false := beq_eq_false_iff_ne.mpr c79
       have c79b1 : (t106.toList != ([] : List UInt8)) = true := bne_iff_ne.mpr c79
       obtain rfl := Option.some.inj H
       have hcz82_0 : wc.cell? ⟨gb105, 0, none⟩ = some (.string t101) := (blk_cell BK105.out 0).trans rfl
       have hcz82_1 : wc.cell? ⟨gb105, 1, none⟩ = some (.slice Ao10 t102.length co10) := (blk_cell BK105.out 1).trans rfl
       have hfz82_0 := blk_frozen BK105.out 0
       have hfz82_1 := blk_frozen BK105.out 1
       go_wp2_with (first | ((with_reducible refine gate_callee (f := 27) rfl ?_); refine goesL_ (some 30) rfl rfl Tryd.func27 (by kernel_rfl) rfl #[.agg #[.string t101, .slice Ao10 t102.length co10]] rfl q72_1 ?_; (with_reducible refine (spec_GramOk.calls kj5 t101 _ _ t102 false _ ?side1 ?side2 A24.out).mono ?_); (case side1 => repeat (first | exact (Kd.R_reads' HO_106001.out).2.2 | (with_reducible refine Kd.C_alloc ?_ _) | (with_reducible refine Kd.C_drewN ?_ _) | (with_reducible refine Kd.C_drew ?_))); (case side2 => exact (Kd.R_reads' HO_106001.out).2.1); rintro e w83 ⟨rfl, hb⟩; refine ⟨_, rfl, ?_⟩; have n0_ := Aside0.mk (Kd.R_below q72_7 hb); have n1_ := Aside0.mk (blk_below (g := gb105) (o := .cells #[.string t101, .slice Ao10 t102.length co10] 25 (0, 0)) q72_3 hb); have n2_ := Aside0.mk (below_step q72_2 hb); clear HO_106001; clear BK105; clear HB; have HO_106001 := n0_; have BK105 := n1_; have HB := n2_; clear n0_ n1_ n2_; (try clear hb); (try clear hb2); (try clear hk); (try clear hi)))
       go_ret
       exact ⟨by first | rfl | (simp [errW_none, errW_some] <;> rfl) | (simp [*, errW_none, errW_some] <;> rfl), by repeat (first | (with_reducible first | exact HB.out | apply below_alloc | apply pw_below_drewN | apply below_drew1 | refine below_set ?_ GE105.out) | exact HB.out)⟩
def laws_FnGramSigns.Pure : Prop := ∀ (l0 : List Int), l0.length ≤ maxLen → l0.length * 1 ≤ 140737488351232 → (∀ x ∈ l0, (Lit.int .u8 x).wf = true) → ∃ k, laws_FnGramSigns.f k l0 = some true
theorem laws_FnGramSigns.walk (P : laws_FnGramSigns.Pure) (a0 : Option Addr) (len0 cap0 : Nat) (z0 : List Int) (w : World) (w0 : (a0 = none ∧ len0 = 0 ∧ cap0 = 0 ∧ z0 = []) ∨ ∃ x, a0 = some x ∧ len0 ≤ cap0 ∧ cap0 ≤ maxLen ∧ z0.length = cap0 ∧ (∀ i, i < z0.length → w.cell? (x.add i) = some (.int .u8 (z0.getD i 0))) ∧ ∀ n ∈ z0, (Lit.int .u8 n).wf = true) (y0 : len0 * 1 ≤ 140737488351232) :
  Calls Tryd.prog 4 #[.slice a0 len0 cap0] w fun e w' => e = .returned (.bool true) ∧ Below w.heap.size w w' := by
 obtain ⟨l0, rfl, hr0, hm0, hw0, hc0⟩ := ReadsInt.ofRowC w0
 obtain ⟨k, h⟩ := P l0 hm0 y0 hw0
 refine (laws_FnGramSigns.calls k _ _ l0 true w (Kd.C_of_reads (d := (0 : Int)) (h1 := fun _ => rfl) hr0) hc0 h).mono ?_
 rintro e w' ⟨rfl, hd⟩
 exact ⟨rfl, hd⟩
end Go.Proofs.YtiibnkibckklgaaDoor.P
namespace Go.Proofs.YtiibnkibckklgaaDoor.P
set_option linter.unusedVariables false
set_option linter.unusedSimpArgs false
open Go.RowKit Go.Proofs.YtiibnkibckklgaaDoorW.PrintWords
def RdB (s : List Int) : Prop := s.length ≤ 2000 ∧ ∀ x ∈ s, 0 ≤ x ∧ x ≤ 255
theorem RdB.bd {s : List Int} (h : RdB s) (i : Int) : 0 ≤ rd s i ∧ rd s i ≤ 255 := by
  unfold rd
  rw [List.getD_eq_getElem?_getD]
  by_cases hi : i.toNat < s.length
  · rw [List.getElem?_eq_getElem hi]; exact h.2 _ (List.getElem_mem hi)
  · rw [List.getElem?_eq_none (by omega)]; simp
theorem xor_nonneg {a b : Int} (ha : 0 ≤ a) (ha2 : a < 4611686018427387904) (hb : 0 ≤ b) (hb2 : b < 4611686018427387904) : 0 ≤ Go.bits .xor .i64 a b := by
  obtain ⟨m, rfl⟩ := Int.eq_ofNat_of_zero_le ha
  obtain ⟨n, rfl⟩ := Int.eq_ofNat_of_zero_le hb
  have hx : m ^^^ n < 2 ^ 62 := Nat.xor_lt_two_pow (by omega) (by omega)
  have h1 : (BitVec.ofInt 64 (m : Int)).toNat = m := by
    rw [BitVec.ofInt_natCast, BitVec.toNat_ofNat]; exact Nat.mod_eq_of_lt (by omega)
  have h2 : (BitVec.ofInt 64 (n : Int)).toNat = n := by
    rw [BitVec.ofInt_natCast, BitVec.toNat_ofNat]; exact Nat.mod_eq_of_lt (by omega)
  show 0 ≤ IntKind.i64.wrap ((BitVec.ofInt 64 (m : Int) ^^^ BitVec.ofInt 64 (n : Int)).toNat : Int)
  rw [BitVec.toNat_xor, h1, h2, IntKind.wrap_i64]
  omega
theorem tmod_bd {a n : Int} (ha : 0 ≤ a) (hn : 0 < n) : 0 ≤ Int.tmod a n ∧ Int.tmod a n < n := by
  rw [Int.tmod_eq_emod_of_nonneg ha]
  exact ⟨Int.emod_nonneg _ (by omega), Int.emod_lt_of_pos _ hn⟩
theorem tdiv_bd {a n : Int} (ha : 0 ≤ a) (hn : 0 < n) : 0 ≤ Int.tdiv a n ∧ Int.tdiv a n ≤ a := by
  rw [Int.tdiv_eq_ediv_of_nonneg ha]
  exact ⟨Int.ediv_nonneg ha (by omega), Int.ediv_le_self _ ha⟩
theorem spec_l17Rd_pick.tot {s : List Int} (hs : RdB s) {p n : Int} (h0 : 0 ≤ p) (h1 : p < 1000000000) (hn : 1 ≤ n) : Tot (fun k => spec_l17Rd_pick.f k s p n) (fun r => 0 ≤ r.1 ∧ r.1 < n ∧ r.2 = p + 1) := by
  unfold spec_l17Rd_pick.f
  refine Tot.neg (by omega) ?_
  refine Tot.step (fun k => by rw [spec_l17Rd_pick.j0]) ?_
  have e1 : wrap64 (p + 1) = p + 1 := w64 (by omega) (by omega)
  have e2 : wrap64 (p + 1 - 1) = p := by rw [show p + 1 - 1 = p by omega]; exact w64 (by omega) (by omega)
  rw [e1, e2]
  refine Tot.ite (fun _ => Tot.ret ⟨by simp, by simp only; omega, rfl⟩) (fun hne => ?_)
  have hl : 0 < (s.length : Int) := by
    rcases s with _ | ⟨a, s⟩
    · simp at hne
    · simp
  have hr := fun i => hs.bd i
  refine Tot.ite (fun h => Tot.pos h0 (Tot.neg (by omega) (Tot.ret ?_))) (fun h => ?_)
  · have := hr p
    rw [w64 (by omega) (by omega)]
    have := tmod_bd (a := rd s p) (n := n) (by omega) (by omega)
    exact ⟨this.1, this.2, rfl⟩
  · have hL := hs.1
    have b1 := tmod_bd (a := p) (n := s.length) h0 hl
    rw [w64 (x := p * 7) (by omega) (by omega), w64 (x := p * 7 + 3) (by omega) (by omega), w64 (x := p * 29) (by omega) (by omega)]
    have b2 := tmod_bd (a := p * 7 + 3) (n := s.length) (by omega) hl
    have b3 := tdiv_bd (a := p) (n := s.length) h0 hl
    have r1 := hr (Int.tmod p s.length)
    have r2 := hr (Int.tmod (p * 7 + 3) s.length)
    generalize Int.tmod p s.length = i at b1 r1 ⊢
    generalize Int.tmod (p * 7 + 3) s.length = j at b2 r2 ⊢
    generalize Int.tdiv p s.length = q at b3 ⊢
    refine Tot.neg (by omega) (Tot.pos b1.1 (Tot.pos b1.2 (Tot.pos b2.1 (Tot.pos b2.2 (Tot.neg (by omega) (Tot.ret ?_))))))
    generalize rd s i = u at r1 ⊢
    generalize rd s j = v at r2 ⊢
    rw [w64 (x := u) (by omega) (by omega), w64 (x := v) (by omega) (by omega), w64 (x := q) (by omega) (by omega), w64 (x := u * 131) (by omega) (by omega), w64 (x := v * 1117) (by omega) (by omega), w64 (x := q * 53) (by omega) (by omega),
      w64 (x := u * 131 + v * 1117) (by omega) (by omega), w64 (x := u * 131 + v * 1117 + p * 29) (by omega) (by omega), w64 (x := u * 131 + v * 1117 + p * 29 + q * 53) (by omega) (by omega)]
    have hx : 0 ≤ u * 131 + v * 1117 + p * 29 + q * 53 := by omega
    have hx2 : u * 131 + v * 1117 + p * 29 + q * 53 < 1000000000000 := by omega
    generalize u * 131 + v * 1117 + p * 29 + q * 53 = x at hx hx2 ⊢
    have b4 := tdiv_bd (a := x) (n := 64) hx (by omega)
    rw [w64 (x := Int.tdiv x 64) (by omega) (by omega)]
    have := tmod_bd (n := n) (xor_nonneg (a := x) (b := Int.tdiv x 64) hx (by omega) b4.1 (by omega)) (by omega)
    exact ⟨this.1, this.2, rfl⟩
theorem spec_l17Rd_of.tot {s : List Int} (hs : RdB s) {p : Int} (h0 : 0 ≤ p) (h1 : p < 1000000000) (l : List ByteArray) (hl : 1 ≤ l.length) : Tot (fun k => spec_l17Rd_of.f k s p l) (fun r => r.1 ∈ l ∧ r.2 = p + 1) := by
  unfold spec_l17Rd_of.f
  refine Tot.bind (spec_l17Rd_pick.tot hs h0 h1 (by omega)) fun r hr => ?_
  refine Tot.pos hr.1 (Tot.pos hr.2.1 (Tot.ret ⟨?_, hr.2.2⟩))
  unfold rdOf
  rw [List.getD_eq_getElem?_getD, List.getElem?_eq_getElem (by omega)]
  exact List.getElem_mem _
theorem spec_l17Rd_num.tot {s : List Int} (hs : RdB s) {p : Int} (h0 : 0 ≤ p) (h1 : p < 1000000000) (l : List Int) (hl : 1 ≤ l.length) : Tot (fun k => spec_l17Rd_num.f k s p l) (fun r => r.1 ∈ l ∧ r.2 = p + 1) := by
  unfold spec_l17Rd_num.f
  refine Tot.bind (spec_l17Rd_pick.tot hs h0 h1 (by omega)) fun r hr => ?_
  refine Tot.pos hr.1 (Tot.pos hr.2.1 (Tot.ret ⟨?_, hr.2.2⟩))
  unfold rd
  rw [List.getD_eq_getElem?_getD, List.getElem?_eq_getElem (by omega)]
  exact List.getElem_mem _
theorem spec_l1Signed.tot {s : List Int} (hs : RdB s) {p n : Int} (h0 : 0 ≤ p) (h1 : p < 100000000) (hn0 : 0 ≤ n) (hn : n ≤ 1000) :
    Tot (fun k => spec_l1Signed.f k s p n) (fun r => (r.1.size : Int) = n ∧ r.1.data.toList.all isSignB = true ∧ r.2 = p + n) := by
  have key : ∀ (d : Nat) (i q : Int) (t : ByteArray), i + d = n → 0 ≤ i → q = p + i → (t.size : Int) = i → t.data.toList.all isSignB = true →
      Tot (fun k => spec_l1Signed.l0 k n t i s q) (fun r => (r.1.size : Int) = n ∧ r.1.data.toList.all isSignB = true ∧ r.2 = p + n) := by
    intro d
    induction d with
    | zero =>
      intro i q t hi hi0 hq ht ha
      exact Tot.step (fun k => rfl) (Tot.neg (by omega) (Tot.ret ⟨by simp only; omega, ha, by simp only; omega⟩))
    | succ d ih =>
      intro i q t hi hi0 hq ht ha
      refine Tot.step (fun k => rfl) (Tot.pos (by omega) (Tot.bind (spec_l17Rd_of.tot hs (by omega) (by omega) _ (by decide)) fun r hr => ?_))
      have hz : r.1.size = 1 ∧ r.1.data.toList.all isSignB = true := by
        have := hr.1
        simp only [List.mem_cons, List.not_mem_nil, or_false] at this
        rcases this with h | h | h | h | h | h | h | h | h <;> rw [h] <;> decide
      refine Tot.pos (by omega) ?_
      rw [w64 (by omega) (by omega), hr.2]
      refine ih (i + 1) (q + 1) (t ++ r.1) (by omega) (by omega) (by omega) (by rw [ByteArray.size_append]; omega) ?_
      rw [ByteArray.data_append, Array.toList_append, List.all_append, ha, hz.2]; rfl
  exact key n.toNat 0 p ⟨#[]⟩ (by omega) (by omega) (by omega) rfl rfl
def Fine (x : RuleS) : Prop := oneBig x.f0 = true ∧ (x.f1.size : Int) ≤ 4 ∧ x.f1.data.toList.all isSignB = true
instance instFineDec : DecidablePred Fine := fun x => by unfold Fine; infer_instance
def FineG (g : ByteArray × List RuleS) : Prop := g.1 = ⟨#[65]⟩ ∧ g.2.length ≤ 8 ∧ (∀ x ∈ g.2, Fine x) ∧ g.2.Nodup
theorem spec_l1Base.tot (n : Int) : ∃ g, spec_l1Base.f n = some g ∧ FineG g := by
  unfold spec_l1Base.f
  repeat' split
  all_goals exact ⟨_, rfl, rfl, by decide, by decide, by decide⟩
theorem spec_l1Gram.tot {s : List Int} (hs : RdB s) {p : Int} (h0 : 0 ≤ p) (h1 : p < 10000000) :
    Tot (fun k => spec_l1Gram.f k s p) (fun r => FineG (r.1, r.2.1) ∧ p ≤ r.2.2 ∧ r.2.2 ≤ p + 100) := by
  have key : ∀ (d : Nat) (i q : Int) (l : List RuleS), i = d → d ≤ 5 → 0 ≤ q → q + 10 * d < 10001000 → l.length + d ≤ 5 → (∀ x ∈ l, Fine x) → l.Nodup →
      Tot (fun k => spec_l1Gram.l0 k i s q ⟨#[65]⟩ l) (fun r => FineG (r.1, r.2.1) ∧ q ≤ r.2.2 ∧ r.2.2 ≤ q + 10 * d) := by
    intro d
    induction d with
    | zero =>
      intro i q l hi hd hq0 hq hl hf hn
      exact Tot.step (fun k => rfl) (Tot.neg (by omega) (Tot.ret ⟨⟨rfl, by simp only; omega, hf, hn⟩, by simp only; omega, by simp only; omega⟩))
    | succ d ih =>
      intro i q l hi hd hq0 hq hl hf hn
      refine Tot.step (fun k => rfl) (Tot.pos (by omega) (Tot.bind (spec_l17Rd_of.tot hs (by omega) (by omega) _ (by decide)) fun a ha => ?_))
      refine Tot.bind (spec_l17Rd_num.tot hs (by omega) (by omega) _ (by decide)) fun b hb => ?_
      have hb2 : 0 ≤ b.1 ∧ b.1 ≤ 3 := by
        have := hb.1
        simp only [List.mem_cons, List.not_mem_nil, or_false] at this
        omega
      refine Tot.bind (spec_l1Signed.tot hs (by omega) (by omega) (by omega) (by omega)) fun c hc => ?_
      refine Tot.bind (spec_l1Place.tot l _ _ (by omega)) fun t ht => ?_
      have hx : Fine ⟨a.1, c.1⟩ := by
        refine ⟨?_, by simp only; omega, hc.2.1⟩
        have := ha.1
        simp only [List.mem_cons, List.not_mem_nil, or_false] at this
        simp only
        rcases this with h | h | h | h <;> rw [h] <;> decide
      rw [w64 (by omega) (by omega)]
      refine Tot.ite (fun h => Tot.pos (by omega) ?_) (fun h => ?_)
      · refine (ih (i - 1) c.2 _ (by omega) (by omega) (by omega) (by omega) (by simp; omega) ?_ ?_).mono fun r hr => ⟨hr.1, by omega, by omega⟩
        · intro x hm
          rcases List.mem_append.1 hm with hm | hm
          · exact hf x hm
          · rw [List.mem_singleton.1 hm]; exact hx
        · have hni : (⟨a.1, c.1⟩ : RuleS) ∉ l := fun hm => by have := ht.1.2 hm; omega
          rw [List.nodup_append]
          exact ⟨hn, by simp, fun x hx y hy => by rw [List.mem_singleton.1 hy]; rintro rfl; exact hni hx⟩
      · exact (ih (i - 1) c.2 l (by omega) (by omega) (by omega) (by omega) (by omega) hf hn).mono fun r hr => ⟨hr.1, by omega, by omega⟩
  unfold spec_l1Gram.f
  refine Tot.bind (spec_l17Rd_pick.tot hs h0 (by omega) (by omega)) fun a ha => ?_
  refine Tot.ite (fun h => ?_) (fun h => ?_)
  · refine Tot.bind (spec_l17Rd_num.tot hs (by omega) (by omega) _ (by decide)) fun b hb => ?_
    obtain ⟨g, hg, hfine⟩ := spec_l1Base.tot b.1
    rw [hg]
    exact Tot.ret ⟨hfine, by simp only; omega, by simp only; omega⟩
  · refine Tot.bind (spec_l17Rd_num.tot hs (by omega) (by omega) _ (by decide)) fun b hb => ?_
    have hb2 : 0 ≤ b.1 ∧ b.1 ≤ 5 := by
      have := hb.1
      simp only [List.mem_cons, List.not_mem_nil, or_false] at this
      omega
    refine (key b.1.toNat b.1 b.2 [] (by omega) (by omega) (by omega) (by omega) (by simp; omega) (by simp) (by simp)).mono fun r hr => ⟨hr.1, by omega, by omega⟩
def Meek (l : List RuleS) : Prop := l.length ≤ 9 ∧ ∀ x ∈ l, x.f0.size ≤ 5 ∧ x.f1.size ≤ 5
theorem FineG.meek {g : ByteArray × List RuleS} (h : FineG g) : Meek g.2 := by
  refine ⟨by have := h.2.1; omega, fun x hx => ?_⟩
  have hf := h.2.2.1 x hx
  refine ⟨?_, by have := hf.2.1; omega⟩
  rcases one_cases x.f0 with ⟨e, _⟩ | ⟨_, e⟩
  · omega
  · have := hf.1
    unfold oneBig at this
    split at this
    · exact absurd ‹_› (e _)
    · cases this
theorem Meek.small {l : List RuleS} (h : Meek l) : SmallG l := ⟨by have := h.1; omega, fun x hx => by have := h.2 x hx; omega⟩
theorem spec_l1Bent.tot {s : List Int} (hs : RdB s) {p : Int} (h0 : 0 ≤ p) (h1 : p < 10000000) (a : ByteArray) (ha : a.size ≤ 5) (l : List RuleS) (hl : Meek l) (hl8 : l.length ≤ 8) :
    Tot (fun k => spec_l1Bent.f k s p a l) (fun r => r.1.size ≤ 5 ∧ Meek r.2.1 ∧ p ≤ r.2.2 ∧ r.2.2 ≤ p + 100) := by
  have key : ∀ (d : Nat) (q : Int) (l : List RuleS), l.length + d = 9 → 0 ≤ q → q + 10 * d < 10001000 → Meek l →
      Tot (fun k => spec_l1Bent.l0 k s q a l) (fun r => r.1.size ≤ 5 ∧ Meek r.2.1 ∧ q ≤ r.2.2 ∧ r.2.2 ≤ q + 10 * d) := by
    intro d
    induction d with
    | zero =>
      intro q l hd hq0 hq hm
      exact Tot.step (fun k => rfl) (Tot.neg (by omega) (Tot.ret ⟨ha, hm, by simp only; omega, by simp only; omega⟩))
    | succ d ih =>
      intro q l hd hq0 hq hm
      refine Tot.step (fun k => rfl) (Tot.pos (by omega) (Tot.bind (spec_l1Signed.tot hs (by omega) (by omega) (by omega) (by omega)) fun c hc => Tot.pos (by omega) ?_))
      refine (ih c.2 _ (by simp; omega) (by omega) (by omega) ⟨by simp; omega, fun x hx => ?_⟩).mono fun r hr => ⟨hr.1, hr.2.1, by omega, by omega⟩
      rcases List.mem_append.1 hx with hx | hx
      · exact hm.2 x hx
      · rw [List.mem_singleton.1 hx]; simp only; exact ⟨by decide, by omega⟩
  unfold spec_l1Bent.f
  simp only [Option.bind_some, List.nil_append, List.length_nil, Nat.zero_add]
  have hlen := hl.1
  refine Tot.pos (by omega) (Tot.bind (spec_l17Rd_pick.tot hs h0 (by omega) (by omega)) fun b hb => ?_)
  have body : Tot (fun k => spec_l1Bent.j0 k (l.length : Int) ((l.length : Int) == 0) s b.2 a l) (fun r => r.1.size ≤ 5 ∧ Meek r.2.1 ∧ p ≤ r.2.2 ∧ r.2.2 ≤ p + 100) := by
    refine Tot.step (fun k => rfl) (Tot.ite (fun h => Tot.ret ⟨ha, hl, by simp only; omega, by simp only; omega⟩) (fun h => ?_))
    have hpos : 1 ≤ (l.length : Int) := by
      have : ¬ (l.length : Int) = 0 := by simpa using h
      omega
    refine Tot.bind (spec_l17Rd_pick.tot hs (by omega) (by omega) hpos) fun c hc => ?_
    refine Tot.bind (spec_l17Rd_pick.tot hs (by omega) (by omega) (by omega)) fun d hd => ?_
    have hmem : rd_T46 l c.1 ∈ l := by
      have := mem_rd l c.1.toNat (by omega)
      rwa [show ((c.1.toNat : Nat) : Int) = c.1 by omega] at this
    have hsz := hl.2 _ hmem
    refine Tot.ite (fun _ => ?_) (fun _ => Tot.ite (fun _ => ?_) (fun _ => Tot.ite (fun _ => ?_) (fun _ => Tot.ite (fun _ => ?_) (fun _ => ?_))))
    · refine Tot.bind (spec_l17Rd_of.tot hs (by omega) (by omega) _ (by decide)) fun e he => Tot.ret ⟨?_, hl, by simp only; omega, by simp only; omega⟩
      have := he.1
      simp only [List.mem_cons, List.not_mem_nil, or_false] at this
      simp only
      rcases this with h | h | h | h | h <;> rw [h] <;> decide
    · refine Tot.bind (spec_l17Rd_of.tot hs (by omega) (by omega) _ (by decide)) fun e he => Tot.pos hc.1 (Tot.pos hc.2.1 (Tot.ret ⟨ha, ⟨by simpa using hl.1, fun x hx => ?_⟩, by simp only; omega, by simp only; omega⟩))
      rcases List.mem_or_eq_of_mem_set hx with hx | hx
      · exact hl.2 x hx
      · have := he.1
        simp only [List.mem_cons, List.not_mem_nil, or_false] at this
        rw [hx]
        refine ⟨?_, hsz.2⟩
        simp only
        rcases this with h | h | h | h <;> rw [h] <;> decide
    · refine Tot.bind (spec_l17Rd_of.tot hs (by omega) (by omega) _ (by decide)) fun e he => Tot.pos hc.1 (Tot.pos hc.2.1 (Tot.ret ⟨ha, ⟨by simpa using hl.1, fun x hx => ?_⟩, by simp only; omega, by simp only; omega⟩))
      rcases List.mem_or_eq_of_mem_set hx with hx | hx
      · exact hl.2 x hx
      · have := he.1
        simp only [List.mem_cons, List.not_mem_nil, or_false] at this
        rw [hx]
        refine ⟨hsz.1, ?_⟩
        simp only
        rcases this with h | h | h | h | h <;> rw [h] <;> decide
    · refine Tot.pos hc.1 (Tot.pos hc.2.1 (Tot.pos (by omega) (Tot.ret ⟨ha, ⟨by simp; omega, fun x hx => ?_⟩, by simp only; omega, by simp only; omega⟩)))
      rcases List.mem_append.1 hx with hx | hx
      · exact hl.2 x hx
      · rw [List.mem_singleton.1 hx]; exact hsz
    · refine (key (9 - l.length) d.2 l (by omega) (by omega) (by omega) hl).mono fun r hr => ⟨hr.1, hr.2.1, by omega, by omega⟩
  refine Tot.ite (fun h => Tot.step (h := fun _ => some (a, l, b.2)) (fun k => rfl) (Tot.ret ⟨ha, hl, by simp only; omega, by simp only; omega⟩)) (fun h => body)
theorem spec_l17Open.tot (l : List Int) (h : ∀ x ∈ l, (Lit.int .u8 x).wf = true) : ∃ s, spec_l17Open.f l = some (s, 0) ∧ RdB s := by
  have hb : ∀ x ∈ l, 0 ≤ x ∧ x ≤ 255 := fun x hx => by
    have := h x hx
    simp [Lit.wf, IntKind.min, IntKind.max, IntKind.signed, IntKind.bits] at this
    omega
  unfold spec_l17Open.f
  by_cases hl : (l.length : Int) > 2000
  · rw [if_pos hl, if_pos (by omega)]
    exact ⟨_, rfl, by simp; omega, fun x hx => hb x (List.mem_of_mem_take hx)⟩
  · rw [if_neg hl]
    exact ⟨_, rfl, by omega, hb⟩
end Go.Proofs.YtiibnkibckklgaaDoor.P
namespace Go.Proofs.YtiibnkibckklgaaDoor.P
set_option linter.unusedVariables false
set_option linter.unusedSimpArgs false
open Go.RowKit Go.Proofs.YtiibnkibckklgaaDoorW.PrintWords
def Asc (s : ByteArray) : Prop := s.data.toList.Pairwise (· < ·)
theorem ins_asc {L : List UInt8} (h : L.Pairwise (· < ·)) (i : Nat) (c : UInt8) (h1 : ∀ x ∈ L.take i, x < c) (h2 : ∀ x ∈ L.drop i, c < x) :
    (L.take i ++ [c] ++ L.drop i).Pairwise (· < ·) ∧ ∀ e, e ∈ L.take i ++ [c] ++ L.drop i ↔ e ∈ L ∨ e = c := by
  constructor
  · rw [List.append_assoc, List.pairwise_append]
    refine ⟨h.sublist (List.take_sublist _ _), ?_, ?_⟩
    · rw [List.singleton_append, List.pairwise_cons]
      exact ⟨h2, h.sublist (List.drop_sublist _ _)⟩
    · intro a ha b hb
      rcases List.mem_append.1 hb with hb | hb
      · rw [List.mem_singleton.1 hb]; exact h1 a ha
      · exact UInt8.lt_trans (h1 a ha) (h2 b hb)
  · intro e
    conv => rhs; rw [← List.take_append_drop i L]
    simp only [List.mem_append, List.mem_singleton]
    constructor
    · rintro ((h | h) | h)
      · exact Or.inl (Or.inl h)
      · exact Or.inr h
      · exact Or.inl (Or.inr h)
    · rintro ((h | h) | h)
      · exact Or.inl (Or.inl h)
      · exact Or.inr h
      · exact Or.inl (Or.inr h)
theorem bt_lt (s : ByteArray) (i j : Nat) (hi : i < s.size) (c : UInt8) : bt s (i : Int) < (c.toNat : Int) ↔ s.data.toList[i]'(by simpa using hi) < c := by
  rw [bt_get s i hi, UInt8.lt_iff_toNat_lt]; omega
theorem spec_l1Add.tot (s : ByteArray) (c : UInt8) (hs : s.size ≤ 1000000000000) (ha : Asc s) : Tot (fun k => spec_l1Add.f k s (c.toNat : Int)) (fun r => Asc r ∧ (∀ e, e ∈ r.data.toList ↔ e ∈ s.data.toList ∨ e = c) ∧ r.size ≤ s.size + 1) := by
  have hstr : strOfNums [(c.toNat : Int)] = ⟨#[c]⟩ := by simp [strOfNums]
  have put : ∀ i : Nat, i ≤ s.size → (∀ x ∈ s.data.toList.take i, x < c) → (∀ x ∈ s.data.toList.drop i, c < x) →
      Asc ((s.extract 0 i ++ ⟨#[c]⟩) ++ s.extract i s.size) ∧ (∀ e, e ∈ ((s.extract 0 i ++ ⟨#[c]⟩) ++ s.extract i s.size).data.toList ↔ e ∈ s.data.toList ∨ e = c) ∧ ((s.extract 0 i ++ ⟨#[c]⟩) ++ s.extract i s.size).size ≤ s.size + 1 := by
    intro i hi h1 h2
    have e : ((s.extract 0 i ++ ⟨#[c]⟩) ++ s.extract i s.size).data.toList = s.data.toList.take i ++ [c] ++ s.data.toList.drop i := by
      have hz : s.size = s.data.toList.length := size_toList s
      simp only [ByteArray.data_append, ByteArray.data_extract, Array.toList_append, Array.toList_extract, List.extract_eq_take_drop, List.drop_zero, Nat.sub_zero]
      congr 1
      rw [hz, List.take_of_length_le (by simp)]
    have := ins_asc ha i c h1 h2
    refine ⟨by unfold Asc; rw [e]; exact this.1, by rw [e]; exact this.2, ?_⟩
    simp only [ByteArray.size_append, ByteArray.size_extract]
    have : (ByteArray.mk #[c]).size = 1 := rfl
    omega
  have sorted : ∀ i (hi : i < s.size), ∀ x ∈ s.data.toList.drop i, s.data.toList[i]'(by simpa using hi) ≤ x := by
    intro i hi x hx
    rw [List.drop_eq_getElem_cons (by simpa using hi)] at hx
    rcases List.mem_cons.1 hx with rfl | hx
    · exact UInt8.le_refl _
    · have := (List.pairwise_append.1 (by rw [List.take_append_drop]; exact ha : (s.data.toList.take (i + 1) ++ s.data.toList.drop (i + 1)).Pairwise (· < ·))).2.2 (s.data.toList[i]'(by simpa using hi)) (by
        rw [List.take_succ_eq_append_getElem (by simpa using hi)]; simp) x hx
      exact UInt8.le_of_lt this
  have key : ∀ (d i : Nat), i + d = s.size → (∀ x ∈ s.data.toList.take i, x < c) → Tot (fun k => spec_l1Add.l0 k s (c.toNat : Int) (i : Int)) (fun r => Asc r ∧ (∀ e, e ∈ r.data.toList ↔ e ∈ s.data.toList ∨ e = c) ∧ r.size ≤ s.size + 1) := by
    intro d
    induction d with
    | zero =>
      intro i hi h1
      have hz : s.data.toList.drop i = [] := List.drop_eq_nil_of_le (by rw [← size_toList]; omega)
      refine Tot.step (fun k => by rw [spec_l1Add.l0]) (Tot.neg (by omega) (Tot.pos (by omega) (Tot.pos (by omega) ?_)))
      simp only [Option.bind_some, hstr]
      refine Tot.pos ?_ (Tot.pos ?_ (Tot.ret ?_))
      · rw [ByteArray.size_extract]; have : (ByteArray.mk #[c]).size = 1 := rfl; omega
      · rw [ByteArray.size_append, ByteArray.size_extract, ByteArray.size_extract]; have : (ByteArray.mk #[c]).size = 1 := rfl; omega
      · exact put i (by omega) h1 (by rw [hz]; simp)
    | succ d ih =>
      intro i hi h1
      have hb := bt_lt s i i (by omega) c
      have hg := bt_get s i (by omega)
      refine Tot.step (fun k => by rw [spec_l1Add.l0]) (Tot.pos (by omega) (Tot.pos (by omega) (Tot.ite (fun hlt => ?_) (fun hge => Tot.ite (fun heq => ?_) (fun hne => Tot.pos (by omega) ?_)))))
      · rw [w64 (by omega) (by omega)]
        refine ih (i + 1) (by omega) fun x hx => ?_
        rw [List.take_succ_eq_append_getElem (by rw [← size_toList]; omega)] at hx
        rcases List.mem_append.1 hx with hx | hx
        · exact h1 x hx
        · rw [List.mem_singleton.1 hx]; exact hb.1 hlt
      · refine Tot.ret ⟨ha, fun e => ⟨Or.inl, ?_⟩, by omega⟩
        rintro (h | rfl)
        · exact h
        · rw [hg] at heq
          have : s.data.toList[i]'(by rw [← size_toList]; omega) = e := UInt8.toNat_inj.1 (by omega)
          rw [← this]; exact List.getElem_mem _
      · simp only [Option.bind_some, hstr]
        refine Tot.pos ?_ (Tot.pos ?_ (Tot.ret ?_))
        · rw [ByteArray.size_extract]; have : (ByteArray.mk #[c]).size = 1 := rfl; omega
        · rw [ByteArray.size_append, ByteArray.size_extract, ByteArray.size_extract]; have : (ByteArray.mk #[c]).size = 1 := rfl; omega
        · refine put i (by omega) h1 fun x hx => ?_
          have h2 := sorted i (by omega) x hx
          rw [hg] at hge hne
          rw [UInt8.le_iff_toNat_le] at h2
          rw [UInt8.lt_iff_toNat_lt]
          omega
  exact key s.size 0 (by omega) (by simp)
theorem mem_ascB (q : UInt8 → Bool) (e : UInt8) : e ∈ (ascB q).data.toList ↔ q e = true := by
  unfold ascB
  simp only [List.mem_filter, List.mem_map, List.mem_range]
  constructor
  · exact fun h => h.2
  · exact fun h => ⟨⟨e.toNat, e.toNat_lt, UInt8.ofNat_toNat⟩, h⟩
theorem ascB_asc (q : UInt8 → Bool) : Asc (ascB q) := by
  unfold Asc ascB
  refine List.Pairwise.filter _ ?_
  rw [List.pairwise_map]
  refine (List.pairwise_lt_range (n := 256)).imp_of_mem fun {a b} ha hb h => ?_
  have ha := List.mem_range.1 ha
  have hb := List.mem_range.1 hb
  rw [UInt8.lt_iff_toNat_lt, UInt8.toNat_ofNat', UInt8.toNat_ofNat', Nat.mod_eq_of_lt ha, Nat.mod_eq_of_lt hb]
  exact h
theorem asc_ext {a b : ByteArray} (ha : Asc a) (hb : Asc b) (h : ∀ e, e ∈ a.data.toList ↔ e ∈ b.data.toList) : a = b := by
  apply bytes_ext
  have key := asc_eq (l := bytesI a) (m := bytesI b)
    (by unfold bytesI; rw [List.pairwise_map]; exact ha.imp fun h => by rw [UInt8.lt_iff_toNat_lt] at h; omega)
    (by unfold bytesI; rw [List.pairwise_map]; exact hb.imp fun h => by rw [UInt8.lt_iff_toNat_lt] at h; omega)
    (fun x => by
      constructor
      · intro hx
        obtain ⟨c, hc, rfl⟩ := List.mem_map.1 hx
        exact (mem_bytesI b c).2 ((h c).1 hc)
      · intro hx
        obtain ⟨c, hc, rfl⟩ := List.mem_map.1 hx
        exact (mem_bytesI a c).2 ((h c).2 hc))
  unfold bytesI at key
  refine List.map_inj_right (f := fun b : UInt8 => (b.toNat : Int)) (fun x y e => UInt8.toNat_inj.1 (Int.ofNat.inj e)) |>.1 key
end Go.Proofs.YtiibnkibckklgaaDoor.P
namespace Go.Proofs.YtiibnkibckklgaaDoor.P
set_option linter.unusedVariables false
set_option linter.unusedSimpArgs false
open Go.RowKit Go.Proofs.YtiibnkibckklgaaDoorW.PrintWords
theorem append_assoc_b (a b c : ByteArray) : (a ++ b) ++ c = a ++ (b ++ c) := ByteArray.append_assoc
theorem spec_l1Signs.tot (s : ByteArray) (l : List RuleS) (h : TinyG s l) (b : Bool) : Tot (fun k => spec_l1Signs.f k s l b) (fun r => r = setB (fun c => isBigB c == b) (everyB s l)) := by
  obtain ⟨h1, h2, h3⟩ := h
  have hbig := everyB_size s l 1000000 h1 h3
  -- the signs, one by one
  have walk : ∀ (t : ByteArray), t.size ≤ 10000000000 → ∀ (d i : Nat) (x : ByteArray), i + d = t.size → x.size ≤ i → Asc x → (∀ e, e ∈ x.data.toList ↔ e ∈ t.data.toList.take i ∧ (isBigB e == b) = true) →
      Tot (fun k => spec_l1Signs.l1 k b x t (i : Int)) (fun r => r = setB (fun c => isBigB c == b) t) := by
    intro t ht d
    induction d with
    | zero =>
      intro i x hi hx ha hm
      refine Tot.step (fun k => by rw [spec_l1Signs.l1]) (Tot.neg (by omega) (Tot.ret ?_))
      refine asc_ext ha (ascB_asc _) fun e => ?_
      rw [hm, List.take_of_length_le (by rw [← size_toList]; omega)]
      unfold setB
      rw [mem_ascB, Bool.and_eq_true, List.contains_iff_mem]
      exact And.comm
    | succ d ih =>
      intro i x hi hx ha hm
      have hil : i < t.data.toList.length := by rw [← size_toList]; omega
      have hg := bt_get t i (by omega)
      generalize hc : t.data.toList[i]'hil = c at hg
      have htake : t.data.toList.take (i + 1) = t.data.toList.take i ++ [c] := by rw [List.take_succ_eq_append_getElem hil, hc]
      refine Tot.step (fun k => by rw [spec_l1Signs.l1]) (Tot.pos (by omega) (Tot.pos (by omega) ?_))
      rw [hg, spec_l1Big.is, w64 (by omega) (by omega)]
      simp only [Option.bind_some]
      refine Tot.ite (fun hp => Tot.bind (spec_l1Add.tot x c (by omega) ha) fun y hy => ?_) (fun hp => ?_)
      · refine ih (i + 1) y (by omega) (by omega) hy.1 fun e => ?_
        rw [hy.2.1, hm, htake, List.mem_append, List.mem_singleton]
        constructor
        · rintro (⟨h, h'⟩ | rfl)
          · exact ⟨Or.inl h, h'⟩
          · exact ⟨Or.inr rfl, hp⟩
        · rintro ⟨h | h, h'⟩
          · exact Or.inl ⟨h, h'⟩
          · exact Or.inr h
      · refine ih (i + 1) x (by omega) (by omega) ha fun e => ?_
        rw [hm, htake, List.mem_append, List.mem_singleton]
        constructor
        · rintro ⟨h, h'⟩
          exact ⟨Or.inl h, h'⟩
        · rintro ⟨h | rfl, h'⟩
          · exact ⟨h, h'⟩
          · exact absurd h' hp
  have key : ∀ (d i : Nat) (t : ByteArray), i + d = l.length → t.size ≤ 1000000 + 2000000 * i → everyB t (l.drop i) = everyB s l →
      Tot (fun k => spec_l1Signs.l0 k b ⟨#[]⟩ t (i : Int) s l) (fun r => r = setB (fun c => isBigB c == b) (everyB s l)) := by
    intro d
    induction d with
    | zero =>
      intro i t hi ht he
      rw [List.drop_eq_nil_of_le (by omega)] at he
      have he : t = everyB s l := he
      refine Tot.step (fun k => by rw [spec_l1Signs.l0]) (Tot.neg (by omega) ?_)
      rw [← he]
      exact walk t (by omega) t.size 0 ⟨#[]⟩ (by omega) (Nat.le_refl _) List.Pairwise.nil (by intro e; simp)
    | succ d ih =>
      intro i t hi ht he
      have hx := h3 _ (mem_rd l i (by omega))
      have hd : l.drop i = rd_T46 l (i : Int) :: l.drop (i + 1) := by
        rw [List.drop_eq_getElem_cons (by omega)]
        simp [rd_T46, List.getD_eq_getElem?_getD, show i < l.length by omega]
      rw [hd] at he
      have he : everyB (t ++ ((rd_T46 l (i : Int)).f0 ++ (rd_T46 l (i : Int)).f1)) (l.drop (i + 1)) = everyB s l := he
      refine Tot.step (fun k => by rw [spec_l1Signs.l0]) (Tot.pos (by omega) (Tot.pos (by omega) (Tot.pos (by omega) (Tot.pos (by rw [ByteArray.size_append]; omega) ?_))))
      rw [w64 (by omega) (by omega), append_assoc_b]
      exact ih (i + 1) _ (by omega) (by rw [ByteArray.size_append, ByteArray.size_append]; omega) he
  exact key l.length 0 s (by omega) (by omega) rfl
end Go.Proofs.YtiibnkibckklgaaDoor.P
namespace Go.Proofs.YtiibnkibckklgaaDoor.P
set_option linter.unusedVariables false
set_option linter.unusedSimpArgs false
open Go.RowKit Go.Proofs.YtiibnkibckklgaaDoorW.PrintWords
abbrev Prods := List (UInt8 × List UInt8)
inductive Gen (R : Prods) : List UInt8 → List UInt8 → Prop
  | nil : Gen R [] []
  | small {c : UInt8} {r w : List UInt8} : isSmallB c = true → Gen R r w → Gen R (c :: r) (c :: w)
  | big {c : UInt8} {x r u v : List UInt8} : (c, x) ∈ R → isBigB c = true → Gen R x u → Gen R r v → Gen R (c :: r) (u ++ v)
theorem small_not_big {c : UInt8} (h : isSmallB c = true) : isBigB c = false := by
  rw [isSmallB_iff] at h
  rw [Bool.eq_false_iff]
  intro h2
  rw [isBigB_iff] at h2
  omega
theorem Gen.append {R : Prods} {s w s' w' : List UInt8} (h : Gen R s w) (h' : Gen R s' w') : Gen R (s ++ s') (w ++ w') := by
  induction h with
  | nil => exact h'
  | small hc _ ih => exact Gen.small hc ih
  | big hm hb hx _ _ ih => rw [List.append_assoc]; exact Gen.big hm hb hx ih
theorem Gen.split {R : Prods} {s s' w : List UInt8} (h : Gen R (s ++ s') w) : ∃ u v, w = u ++ v ∧ Gen R s u ∧ Gen R s' v := by
  induction s generalizing w with
  | nil => exact ⟨[], w, rfl, Gen.nil, h⟩
  | cons c s ih =>
    rw [List.cons_append] at h
    cases h with
    | small hc hr =>
      obtain ⟨u, v, rfl, h1, h2⟩ := ih hr
      exact ⟨c :: u, v, rfl, Gen.small hc h1, h2⟩
    | big hm hb hx hr =>
      obtain ⟨u, v, rfl, h1, h2⟩ := ih hr
      exact ⟨_ ++ u, v, by rw [List.append_assoc], Gen.big hm hb hx h1, h2⟩
theorem Gen.rule {R : Prods} {c : UInt8} {x u : List UInt8} (hm : (c, x) ∈ R) (hb : isBigB c = true) (h : Gen R x u) : Gen R [c] u := by
  have := Gen.big hm hb h Gen.nil
  simpa using this
theorem Gen.among {R : Prods} {s w : List UInt8} (h : Gen R s w) : ∀ c ∈ w, c ∈ s ∨ ∃ p ∈ R, c ∈ p.2 := by
  induction h with
  | nil => simp
  | small hc _ ih =>
    intro d hd
    rcases List.mem_cons.1 hd with rfl | hd
    · exact Or.inl List.mem_cons_self
    · exact (ih d hd).imp (List.mem_cons_of_mem _) id
  | big hm _ _ _ ih1 ih2 =>
    intro d hd
    rcases List.mem_append.1 hd with hd | hd
    · rcases ih1 d hd with h | h
      · exact Or.inr ⟨_, hm, h⟩
      · exact Or.inr h
    · exact (ih2 d hd).imp (List.mem_cons_of_mem _) id
theorem Gen.mono {R R' : Prods} (hR : ∀ p ∈ R, p ∈ R') {s w : List UInt8} (h : Gen R s w) : Gen R' s w := by
  induction h with
  | nil => exact Gen.nil
  | small hc _ ih => exact Gen.small hc ih
  | big hm hb _ _ ih1 ih2 => exact Gen.big (hR _ hm) hb ih1 ih2
/-! ### parts of a text -/
def part (t : List UInt8) (i j : Nat) : List UInt8 := (t.drop i).take (j - i)
theorem part_one (t : List UInt8) {i : Nat} (h : i < t.length) : part t i (i + 1) = [t[i]] := by
  unfold part
  rw [List.drop_eq_getElem_cons h, show i + 1 - i = 1 by omega]
  rfl
/-! ### texts as lists -/
theorem ex_list (s : ByteArray) (a b : Nat) : (s.extract a b).data.toList = part s.data.toList a b := by
  unfold part
  simp only [ByteArray.data_extract, Array.toList_extract, List.extract_eq_take_drop]
/-! ### charts -/
def DerP (f : UInt8 → Nat → Nat → Prop) (t : List UInt8) (c : UInt8) (i j : Nat) : Prop := if isSmallB c = true then j = i + 1 ∧ t[i]? = some c else f c i j
def SplitP (f : UInt8 → Nat → Nat → Prop) (t : List UInt8) : List UInt8 → Nat → Nat → Prop
  | [], i, j => i = j
  | c :: r, i, j => ∃ m, i ≤ m ∧ m ≤ j ∧ DerP f t c i m ∧ SplitP f t r m j
theorem SplitP.le {f : UInt8 → Nat → Nat → Prop} {t s : List UInt8} {i j : Nat} (h : SplitP f t s i j) : i ≤ j := by
  induction s generalizing i with
  | nil => exact Nat.le_of_eq h
  | cons c s ih =>
    obtain ⟨m, h1, h2, _, h3⟩ := h
    omega
theorem SplitP.mono {f g : UInt8 → Nat → Nat → Prop} {t : List UInt8} (hf : ∀ c i j, f c i j → g c i j) : ∀ {s : List UInt8} {i j : Nat}, SplitP f t s i j → SplitP g t s i j
  | [], _, _, h => h
  | c :: s, i, j, h => by
    obtain ⟨m, h1, h2, h3, h4⟩ := h
    refine ⟨m, h1, h2, ?_, SplitP.mono hf h4⟩
    unfold DerP at h3 ⊢
    split
    · rename_i hc; rw [if_pos hc] at h3; exact h3
    · rename_i hc; rw [if_neg hc] at h3; exact hf _ _ _ h3
end Go.Proofs.YtiibnkibckklgaaDoor.P
namespace Go.Proofs.YtiibnkibckklgaaDoor.P
set_option linter.unusedVariables false
set_option linter.unusedSimpArgs false
open Go.RowKit Go.Proofs.YtiibnkibckklgaaDoorW.PrintWords
theorem oneBig_iff (s : ByteArray) : oneBig s = true ↔ ∃ c, s.data.toList = [c] ∧ isBigB c = true := by
  unfold oneBig
  constructor
  · intro h
    split at h
    · exact ⟨_, ‹_›, h⟩
    · cases h
  · rintro ⟨c, e, h⟩
    rw [e]; exact h
theorem rulesOkB_mem {l : List RuleS} : ∀ {r : List RuleS} {i : Nat}, rulesOkB l i r = true → ∀ x ∈ r, oneBig x.f0 = true ∧ x.f1.size ≤ 4 ∧ x.f1.data.toList.all isSignB = true
  | [], _, _, x, hx => by cases hx
  | a :: r, i, h, x, hx => by
    rw [rulesOkB, Bool.and_eq_true, ruleOkB, Bool.and_eq_true, Bool.and_eq_true, Bool.and_eq_true] at h
    rcases List.mem_cons.1 hx with rfl | hx
    · exact ⟨h.1.1.1, by have := of_decide_eq_true h.1.1.2.1; omega, h.1.1.2.2⟩
    · exact rulesOkB_mem h.2 x hx
structure GoodG (s : ByteArray) (l : List RuleS) : Prop where
  start : ∃ c, s.data.toList = [c] ∧ isBigB c = true
  few : l.length ≤ 8
  rule : ∀ x ∈ l, (∃ c, x.f0.data.toList = [c] ∧ isBigB c = true) ∧ x.f1.size ≤ 4 ∧ x.f1.data.toList.all isSignB = true
theorem gramOkB_good {s : ByteArray} {l : List RuleS} (h : gramOkB s l = true) : GoodG s l := by
  rw [gramOkB, Bool.and_eq_true, Bool.and_eq_true] at h
  refine ⟨(oneBig_iff s).1 h.1.1, of_decide_eq_true h.1.2, fun x hx => ?_⟩
  have := rulesOkB_mem h.2 x hx
  exact ⟨(oneBig_iff _).1 this.1, this.2⟩
theorem GoodG.tiny {s : ByteArray} {l : List RuleS} (h : GoodG s l) : s.size ≤ 1 ∧ ∀ x ∈ l, x.f0.size ≤ 1 ∧ x.f1.size ≤ 4 := by
  obtain ⟨c, e, _⟩ := h.start
  refine ⟨by rw [size_toList, e]; exact Nat.le_refl _, fun x hx => ?_⟩
  obtain ⟨⟨d, e2, _⟩, h2, _⟩ := h.rule x hx
  exact ⟨by rw [size_toList, e2]; exact Nat.le_refl _, h2⟩
end Go.Proofs.YtiibnkibckklgaaDoor.P
namespace Go.Proofs.YtiibnkibckklgaaDoor.P
set_option linter.unusedVariables false
set_option linter.unusedSimpArgs false
open Go.RowKit Go.Proofs.YtiibnkibckklgaaDoorW.PrintWords
theorem spec_l1Draw.tot (code : List Int) (h : ∀ x ∈ code, (Lit.int .u8 x).wf = true) : Tot (fun k => spec_l1Draw.f k code) (fun r => r.1.size ≤ 5 ∧ Meek r.2) := by
  obtain ⟨s, e, hs⟩ := spec_l17Open.tot code h
  unfold spec_l1Draw.f
  rw [e]
  simp only [Option.bind_some]
  refine Tot.bind (spec_l1Gram.tot hs (by omega) (by omega)) fun g hg => ?_
  exact Tot.bind (spec_l1Bent.tot hs (by omega) (by omega) g.1 (by have := hg.1.1; simp only at this; rw [this]; decide) g.2.1 hg.1.meek hg.1.2.1) fun b hb => Tot.ret ⟨hb.1, hb.2.1⟩
theorem Meek.tiny {s : ByteArray} {l : List RuleS} (hs : s.size ≤ 5) (h : Meek l) : TinyG s l := ⟨by omega, by have := h.1; omega, fun x hx => by have := h.2 x hx; omega⟩
theorem spec_GramBigs.tot (s : ByteArray) (l : List RuleS) (h : TinyG s l) : Tot (fun k => spec_GramBigs.f k s l) (fun r => r = if gramOkB s l = true then setB isBigB (everyB s l) else ⟨#[]⟩) := by
  unfold spec_GramBigs.f
  refine Tot.bind (spec_GramOk.tot s l h.small) ?_
  rintro _ rfl
  refine Tot.ite (fun e => ?_) (fun e => Tot.ret (by rw [if_neg e]))
  refine Tot.bind (spec_l1Signs.tot s l h true) ?_
  rintro _ rfl
  refine Tot.ret ?_
  rw [if_pos e]
  congr 1
  funext c
  simp
theorem wpHas.tot (s : ByteArray) (c : UInt8) (hs : s.size ≤ 1000000000000) (h : c ∈ s.data.toList) : Tot (fun k => laws_wpHas.f k s (c.toNat : Int)) (fun r => r = true) := by
  have key : ∀ d i : Nat, i + d = s.size → c ∈ s.data.toList.drop i → Tot (fun k => laws_wpHas.l0 k s (c.toNat : Int) (i : Int)) (fun r => r = true) := by
    intro d
    induction d with
    | zero =>
      intro i hi hc
      rw [List.drop_eq_nil_of_le (by rw [← size_toList]; omega)] at hc
      cases hc
    | succ d ih =>
      intro i hi hc
      have hil : i < s.data.toList.length := by rw [← size_toList]; omega
      have hg := bt_get s i (by omega)
      refine Tot.step (fun k => by rw [laws_wpHas.l0]) (Tot.pos (by omega) (Tot.pos (by omega) (Tot.ite (fun _ => Tot.ret rfl) (fun hne => ?_))))
      rw [w64 (by omega) (by omega)]
      refine ih (i + 1) (by omega) ?_
      rw [List.drop_eq_getElem_cons hil] at hc
      rcases List.mem_cons.1 hc with e | e
      · exact absurd (by rw [hg, e]) hne
      · exact e
  exact key s.size 0 (by omega) (by simpa using h)
theorem spec_GramSmalls.tot (s : ByteArray) (l : List RuleS) (h : TinyG s l) : Tot (fun k => spec_GramSmalls.f k s l) (fun r => r = if gramOkB s l = true then setB (fun c => isBigB c == false) (everyB s l) else ⟨#[]⟩) := by
  unfold spec_GramSmalls.f
  refine Tot.bind (spec_GramOk.tot s l h.small) ?_
  rintro _ rfl
  refine Tot.ite (fun e => ?_) (fun e => Tot.ret (by rw [if_neg e]))
  refine Tot.bind (spec_l1Signs.tot s l h false) ?_
  rintro _ rfl
  refine Tot.ret ?_
  rw [if_pos e]
theorem mem_everyB (s : ByteArray) (l : List RuleS) (c : UInt8) : c ∈ (everyB s l).data.toList ↔ c ∈ s.data.toList ∨ ∃ x ∈ l, c ∈ x.f0.data.toList ∨ c ∈ x.f1.data.toList := by
  unfold everyB
  induction l generalizing s with
  | nil => simp
  | cons a l ih =>
    rw [List.foldl_cons, ih]
    simp only [ByteArray.data_append, Array.toList_append, List.mem_append, or_assoc]
    have e : (∃ x, x ∈ a :: l ∧ (c ∈ x.f0.data.toList ∨ c ∈ x.f1.data.toList)) ↔ (c ∈ a.f0.data.toList ∨ c ∈ a.f1.data.toList) ∨ ∃ x, x ∈ l ∧ (c ∈ x.f0.data.toList ∨ c ∈ x.f1.data.toList) := by
      constructor
      · rintro ⟨x, hx, h⟩
        rcases List.mem_cons.1 hx with rfl | hx
        · exact Or.inl h
        · exact Or.inr ⟨x, hx, h⟩
      · rintro (h | ⟨x, hx, h⟩)
        · exact ⟨a, List.mem_cons_self, h⟩
        · exact ⟨x, List.mem_cons_of_mem _ hx, h⟩
    rw [e, or_assoc]
theorem mem_setB (p : UInt8 → Bool) (s : ByteArray) (c : UInt8) : c ∈ (setB p s).data.toList ↔ p c = true ∧ c ∈ s.data.toList := by
  unfold setB
  rw [mem_ascB, Bool.and_eq_true, List.contains_iff_mem]
theorem every_sign {s : ByteArray} {l : List RuleS} (hg : GoodG s l) {c : UInt8} (h : c ∈ (everyB s l).data.toList) : (isBigB c || isSmallB c) = true := by
  rw [← isSignB_eq]
  rcases (mem_everyB s l c).1 h with h | ⟨x, hx, h | h⟩
  · obtain ⟨d, e, hd⟩ := hg.start
    rw [e, List.mem_singleton] at h
    subst h
    rw [isSignB_eq, hd]; rfl
  · obtain ⟨⟨d, e, hd⟩, _⟩ := hg.rule x hx
    rw [e, List.mem_singleton] at h
    subst h
    rw [isSignB_eq, hd]; rfl
  · exact List.all_eq_true.1 (hg.rule x hx).2.2 c h
theorem smalls_are {s : ByteArray} {l : List RuleS} (hg : GoodG s l) : setB (fun c => isBigB c == false) (everyB s l) = setB isSmallB (everyB s l) := by
  refine asc_ext (ascB_asc _) (ascB_asc _) fun e => ?_
  rw [mem_setB, mem_setB]
  constructor
  · rintro ⟨h1, h2⟩
    refine ⟨?_, h2⟩
    have := every_sign hg h2
    have h1 : isBigB e = false := by simpa using h1
    rw [h1] at this
    simpa using this
  · rintro ⟨h1, h2⟩
    exact ⟨by rw [small_not_big h1]; rfl, h2⟩
theorem asc_size (q : UInt8 → Bool) : (ascB q).size ≤ 256 := by
  unfold ascB
  rw [size_toList]
  refine Nat.le_trans (List.length_filter_le _ _) ?_
  simp
end Go.Proofs.YtiibnkibckklgaaDoor.P
namespace Go.Proofs.YtiibnkibckklgaaDoor.P
set_option linter.unusedVariables false
set_option linter.unusedSimpArgs false
open Go.RowKit Go.Proofs.YtiibnkibckklgaaDoorW.PrintWords
theorem FnGramSigns : laws_FnGramSigns.Pure := by
  intro code _ _ hwf
  obtain ⟨k, r, h, rfl⟩ : ∃ k r, laws_FnGramSigns.f k code = some r ∧ r = true := by
    refine Tot.get (P := fun r => r = true) ?_
    unfold laws_FnGramSigns.f
    refine Tot.ite (fun _ => Tot.ret rfl) (fun _ => ?_)
    have hd : Tot (fun k => spec_DrawGramBigs.f k code) (fun r => r.1.size ≤ 5 ∧ Meek r.2) := by
      unfold spec_DrawGramBigs.f
      exact Tot.bind (spec_l1Draw.tot code hwf) fun r hr => Tot.ret hr
    refine Tot.bind hd ?_
    rintro ⟨s, l⟩ ⟨hs, hl⟩
    have ht : TinyG s l := Meek.tiny hs hl
    have hbig : impl_GramBigs.f s l = some (if gramOkB s l = true then setB isBigB (everyB s l) else ⟨#[]⟩) := by unfold impl_GramBigs.f; rw [if_pos ht]
    have hsmall : impl_GramSmalls.f s l = some (if gramOkB s l = true then setB isSmallB (everyB s l) else ⟨#[]⟩) := by unfold impl_GramSmalls.f; rw [if_pos ht]
    simp only [hbig, hsmall, Option.bind_some]
    refine Tot.bind (spec_GramBigs.tot s l ht) ?_
    rintro _ rfl
    refine Tot.pos rfl (Tot.bind (spec_GramSmalls.tot s l ht) ?_)
    rintro _ rfl
    by_cases hg : gramOkB s l = true
    case neg =>
      simp only [if_neg hg]
      refine Tot.step (fun k => by rw [laws_FnGramSigns.j0]) (Tot.neg (by simp) (Tot.bind (spec_GramOk.tot s l ht.small) ?_))
      rintro _ rfl
      exact Tot.neg hg (Tot.pos (by rw [bytes_toList]) (Tot.ret (by simp [bytes_toList])))
    have hG := gramOkB_good hg
    have hll := hG.few
    simp only [if_pos hg, smalls_are hG]
    have hA : Asc (setB isBigB (everyB s l)) := ascB_asc _
    have hB : Asc (setB isSmallB (everyB s l)) := ascB_asc _
    have hAs : (setB isBigB (everyB s l)).size ≤ 256 := asc_size _
    have hBs : (setB isSmallB (everyB s l)).size ≤ 256 := asc_size _
    have hAm := fun c => mem_setB isBigB (everyB s l) c
    have hBm := fun c => mem_setB isSmallB (everyB s l) c
    generalize setB isBigB (everyB s l) = A at hA hAs hAm
    generalize setB isSmallB (everyB s l) = B at hB hBs hBm
    refine Tot.step (fun k => by rw [laws_FnGramSigns.j0]) (Tot.neg (by simp) (Tot.bind (spec_GramOk.tot s l ht.small) ?_))
    rintro _ rfl
    refine Tot.pos hg ?_
    have ascBt : ∀ (T : ByteArray), Asc T → ∀ i : Nat, i + 1 < T.size → ¬ bt T (i : Int) ≥ bt T ((i + 1 : Nat) : Int) := by
      intro T hT i hi
      rw [bt_get T i (by omega), bt_get T (i + 1) hi]
      have := List.pairwise_iff_getElem.1 hT i (i + 1) (by rw [← size_toList]; omega) (by rw [← size_toList]; omega) (by omega)
      rw [UInt8.lt_iff_toNat_lt] at this
      omega
    have cut : ∀ (T : ByteArray) (i : Nat) (hi : i < T.size), T.extract ((i : Int)).toNat ((i : Int) + 1).toNat = ⟨#[T.data.toList[i]'(by rw [← size_toList]; exact hi)]⟩ := by
      intro T i hi
      apply bytes_ext
      rw [ex_list, show ((i : Int)).toNat = i by omega, show ((i : Int) + 1).toNat = i + 1 by omega, part_one _ (by rw [← size_toList]; exact hi)]
    -- the last loops: each sign of a rule is among them
    have right : ∀ (d i : Nat), i + d = l.length → Tot (fun k => laws_FnGramSigns.l2 k A B (i : Int) s l) (fun r => r = true) := by
      intro d
      induction d with
      | zero =>
        intro i hi
        obtain ⟨c, e, hc⟩ := hG.start
        have hsz : s.size = 1 := by rw [size_toList, e]; rfl
        refine Tot.step (fun k => by rw [laws_FnGramSigns.l2]) (Tot.neg (by omega) (Tot.pos (by omega) ?_))
        have hb := bt_get s 0 (by omega)
        have h0 : s.data.toList[0]'(by rw [e]; exact Nat.one_pos) = c := by simp [e]
        rw [h0] at hb
        have hb : bt s 0 = (c.toNat : Int) := hb
        rw [hb]
        refine Tot.bind (wpHas.tot A c (by omega) ((hAm c).2 ⟨hc, (mem_everyB s l c).2 (Or.inl (by rw [e]; exact List.mem_singleton_self _))⟩)) ?_
        rintro _ rfl
        exact Tot.ret rfl
      | succ d ih =>
        intro i hi
        have hx := mem_rd l i (by omega)
        have hr := hG.rule _ hx
        refine Tot.step (fun k => by rw [laws_FnGramSigns.l2]) (Tot.pos (by omega) ?_)
        have inner : ∀ (e j : Nat), j + e = (rd_T46 l (i : Int)).f1.size → Tot (fun k => laws_FnGramSigns.l3 k A B (i : Int) (j : Int) s l) (fun r => r = true) := by
          intro e
          induction e with
          | zero =>
            intro j hj
            refine Tot.step (fun k => by rw [laws_FnGramSigns.l3]) (Tot.pos (by omega) (Tot.pos (by omega) (Tot.neg (by omega) ?_)))
            rw [w64 (by omega) (by omega)]
            exact ih (i + 1) (by omega)
          | succ e ihe =>
            intro j hj
            have hjl : j < (rd_T46 l (i : Int)).f1.size := by omega
            have hg := bt_get _ j hjl
            refine Tot.step (fun k => by rw [laws_FnGramSigns.l3]) (Tot.pos (by omega) (Tot.pos (by omega) (Tot.pos (by omega) (Tot.pos (by omega) (Tot.pos (by omega) ?_)))))
            generalize hc : ((rd_T46 l (i : Int)).f1.data.toList[j]'(by rw [← size_toList]; exact hjl)) = c at hg
            have hcm : c ∈ (rd_T46 l (i : Int)).f1.data.toList := by rw [← hc]; exact List.getElem_mem _
            have hce : c ∈ (everyB s l).data.toList := (mem_everyB s l c).2 (Or.inr ⟨_, hx, Or.inr hcm⟩)
            have hsg := every_sign hG hce
            have hin : c ∈ (A ++ B).data.toList := by
              rw [ByteArray.data_append, Array.toList_append, List.mem_append]
              rw [Bool.or_eq_true] at hsg
              exact hsg.imp (fun h => (hAm c).2 ⟨h, hce⟩) (fun h => (hBm c).2 ⟨h, hce⟩)
            rw [hg, w64 (by omega) (by omega)]
            refine Tot.bind (wpHas.tot (A ++ B) c (by rw [ByteArray.size_append]; omega) hin) ?_
            rintro _ rfl
            exact Tot.pos rfl (ihe (j + 1) (by omega))
        exact inner (rd_T46 l (i : Int)).f1.size 0 (by omega)
    have small : ∀ (d i : Nat), i + d = B.size → Tot (fun k => laws_FnGramSigns.l1 k A B (i : Int) s l) (fun r => r = true) := by
      intro d
      induction d with
      | zero =>
        intro i hi
        refine Tot.step (fun k => by rw [laws_FnGramSigns.l1]) (Tot.neg (by omega) ?_)
        exact right l.length 0 (by omega)
      | succ d ih =>
        intro i hi
        refine Tot.step (fun k => by rw [laws_FnGramSigns.l1]) (Tot.pos (by omega) (Tot.pos (by omega) ?_))
        rw [w64 (x := (i : Int) + 1) (by omega) (by omega), cut B i (by omega)]
        refine Tot.pos (by omega) (Tot.pos (by omega) ?_)
        rw [impl_SignSmall.is]
        simp only [Option.bind_some]
        have hone : oneSmall ⟨#[B.data.toList[i]'(by rw [← size_toList]; omega)]⟩ = true := ((hBm _).1 (List.getElem_mem (by rw [← size_toList]; omega))).1
        refine Tot.pos hone (Tot.ite (fun hi0 => ?_) (fun _ => ih (i + 1) (by omega)))
        rw [w64 (by omega) (by omega)]
        refine Tot.pos (by omega) (Tot.pos (by omega) (Tot.neg ?_ (ih (i + 1) (by omega))))
        have := ascBt B hB (i - 1) (by omega)
        rw [show i - 1 + 1 = i by omega] at this
        rw [show (i : Int) - 1 = ((i - 1 : Nat) : Int) by omega]
        exact this
    have big : ∀ (d i : Nat), i + d = A.size → Tot (fun k => laws_FnGramSigns.l0 k A B (i : Int) s l) (fun r => r = true) := by
      intro d
      induction d with
      | zero =>
        intro i hi
        refine Tot.step (fun k => by rw [laws_FnGramSigns.l0]) (Tot.neg (by omega) ?_)
        exact small B.size 0 (by omega)
      | succ d ih =>
        intro i hi
        refine Tot.step (fun k => by rw [laws_FnGramSigns.l0]) (Tot.pos (by omega) (Tot.pos (by omega) ?_))
        rw [w64 (x := (i : Int) + 1) (by omega) (by omega), cut A i (by omega)]
        refine Tot.pos (by omega) (Tot.pos (by omega) ?_)
        rw [impl_SignBig.is]
        simp only [Option.bind_some]
        have hone : oneBig ⟨#[A.data.toList[i]'(by rw [← size_toList]; omega)]⟩ = true := ((hAm _).1 (List.getElem_mem (by rw [← size_toList]; omega))).1
        refine Tot.pos hone (Tot.ite (fun hi0 => ?_) (fun _ => ih (i + 1) (by omega)))
        rw [w64 (by omega) (by omega)]
        refine Tot.pos (by omega) (Tot.pos (by omega) (Tot.neg ?_ (ih (i + 1) (by omega))))
        have := ascBt A hA (i - 1) (by omega)
        rw [show i - 1 + 1 = i by omega] at this
        rw [show (i : Int) - 1 = ((i - 1 : Nat) : Int) by omega]
        exact this
    exact big A.size 0 (by omega)
  exact ⟨k, h⟩
end Go.Proofs.YtiibnkibckklgaaDoor.P
