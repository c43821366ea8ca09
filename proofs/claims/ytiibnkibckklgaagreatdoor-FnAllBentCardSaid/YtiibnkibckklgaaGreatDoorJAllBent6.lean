-- Joined texts of a claim (wip/tools/bundle.py).
import Derived.Test.YtiibnkibckklgaaGreatDoorJAllBent5
namespace Go.Proofs.YtiibnkibckklgaaGreatDoor.P
open Go.RowKit Go.Proofs.YtiibnkibckklgaaGreatDoorW.PrintWords Go.Proofs.YtiibnkibckklgaaGreatDoorW.PrintLast Go.Proofs.YtiibnkibckklgaaGreatDoorW.PrintMore
attribute [local go_sem] max2_int min2_int max_two min_two max_three min_three max_four min_four   -- for this text's walks alone
set_option linter.unusedVariables false
set_option linter.unusedSimpArgs false
attribute [local go_sem high] eqA32
/-! ### impl_Rule_183: function 183 -/
def impl_Rule_183.l0 : Nat → List (S32) → Int → Int → ByteArray → ByteArray → Option (Int)
 | 0, _, _, _, _, _ => none
 | k + 1, x0, x7, x8, x102000, x102001 => if x8 < x7 then (if 0 ≤ x8 then (if x8 < (x0.length : Int) then (if (x102000.toList == (((rd_T32 x0 x8).f0).toList) && (x102001.toList == (((rd_T32 x0 x8).f1).toList))) = true then (some x8) else (impl_Rule_183.l0 k x0 x7 (wrap64 (x8 + 1)) x102000 x102001)) else (none)) else (none)) else (some (-1))
def impl_Rule_183.f (k : Nat) (l0 : List (S32)) (a1_0 : ByteArray) (a1_1 : ByteArray) : Option (Int) := impl_Rule_183.l0 k l0 (l0.length : Int) 0 a1_0 a1_1
theorem impl_Rule_183.mono_l : ∀ k, (∀ y0 y1 y2 y3 y4, LeO (impl_Rule_183.l0 k y0 y1 y2 y3 y4) (impl_Rule_183.l0 (k + 1) y0 y1 y2 y3 y4))
 | 0 => fun _ _ _ _ _ r h => by simp [impl_Rule_183.l0] at h
 | k + 1 => by
  have ih0 := impl_Rule_183.mono_l k
  ·intro y0 y1 y2 y3 y4
   unfold impl_Rule_183.l0
   repeat' first
   | (with_reducible exact ih0 _ _ _ _ _)
   | (with_reducible exact LeO.refl _)
   | (with_reducible exact LeO.none _)
   | (with_reducible refine LeO.ite ?_ ?_)
   | (with_reducible refine LeO.bind ?_ (fun _ => ?_))
   | exact ih0 _ _ _ _ _
   | exact LeO.none _
   | refine LeO.ite ?_ ?_
   | refine LeO.bind ?_ (fun _ => ?_)
theorem impl_Rule_183.mono : ∀ a0 a1 a2 k, LeO (impl_Rule_183.f k a0 a1 a2) (impl_Rule_183.f (k + 1) a0 a1 a2) := by
 intro a0 a1 a2 k
 have ih0 := impl_Rule_183.mono_l k
 unfold impl_Rule_183.f
 repeat' first
   | (with_reducible exact ih0 _ _ _ _ _)
   | (with_reducible exact LeO.refl _)
   | (with_reducible exact LeO.none _)
   | (with_reducible refine LeO.ite ?_ ?_)
   | (with_reducible refine LeO.bind ?_ (fun _ => ?_))
   | exact ih0 _ _ _ _ _
   | exact LeO.none _
   | refine LeO.ite ?_ ?_
   | refine LeO.bind ?_ (fun _ => ?_)
set_option maxHeartbeats 8000000 in
set_option maxRecDepth 100000 in
theorem impl_Rule_183.calls (k : Nat) (A0 : Option Addr) (c0 : Nat) (l0 : List (S32)) (a1_0 : ByteArray) (a1_1 : ByteArray) (r : Int) (w : World) (hr0 : Kd.C k32 w A0 l0.length l0) (hc0 : l0.length ≤ c0) (h : impl_Rule_183.f k l0 a1_0 a1_1 = some r) :
  Calls Tryz.prog 183 #[.slice A0 l0.length c0, .agg #[.string a1_0, .string a1_1]] w fun e w' => e = .returned (.int .i64 r) ∧ Below w.heap.size w w' := by
 have hu32 := Tryz.underlying32
 have HR0 := Aside0.mk hr0
 have HC0 := Aside0.mk hc0
 clear hr0 hc0
 have HB := Aside0.mk (Below.refl w.heap.size w)
 have H : (impl_Rule_183.l0 k l0 (l0.length : Int) 0 a1_0 a1_1) = some r := h
 clear h
 have H' := Aside0.mk H
 clear H
 go_enter Tryz.func183, Tryz.ntmps183
 go_wp2_with (first | ((with_reducible refine gate_dst (N := 3) rfl ?_); refine box_event ?hg (N := 3) ?hd (cs := #[.string a1_0, .string a1_1]) (t := 32) ?hr ?_; (case hd => rfl); (case hg => rfl); (case hr => first | (go_simp; done) | (go_simp; rfl)); intro gb101 hg w3 hbox hb; have n0_ := Aside0.mk (below_step (by repeat (first | (with_reducible first | exact HB.out | apply below_alloc | apply pw_below_drewN | apply below_drew1) | exact HB.out)) hb); have n1_ := Aside0.mk (hbox); have n2_ := Aside0.mk ((by rw [hg]; exact (below_size (by repeat (first | (with_reducible first | exact HB.out | apply below_alloc | apply pw_below_drewN | apply below_drew1) | exact HB.out))) : w.heap.size ≤ gb101)); have n3_ := Aside0.mk ((by rw [hg]; exact (below_size (by repeat (first | (with_reducible first | exact HB.out | apply below_alloc | apply pw_below_drewN | apply below_drew1) | exact HB.out))) : w.heap.size ≤ gb101)); clear HB; have HB := n0_; have BK101 := n1_; have GW101 := n2_; have GE101 := n3_; clear n0_ n1_ n2_ n3_; clear hb hbox hg))
 repeat (go_quiet (first | ((with_reducible refine gate_dst (N := 3) rfl ?_); refine box_event ?hg (N := 3) ?hd (cs := #[.string a1_0, .string a1_1]) (t := 32) ?hr ?_; (case hd => rfl); (case hg => rfl); (case hr => first | (go_simp; done) | (go_simp; rfl)); intro gb101 hg w3 hbox hb; have n0_ := Aside0.mk (below_step (by repeat (first | (with_reducible first | exact HB.out | apply below_alloc | apply pw_below_drewN | apply below_drew1) | exact HB.out)) hb); have n1_ := Aside0.mk (hbox); have n2_ := Aside0.mk ((by rw [hg]; exact (below_size (by repeat (first | (with_reducible first | exact HB.out | apply below_alloc | apply pw_below_drewN | apply below_drew1) | exact HB.out))) : w.heap.size ≤ gb101)); have n3_ := Aside0.mk ((by rw [hg]; exact (below_size (by repeat (first | (with_reducible first | exact HB.out | apply below_alloc | apply pw_below_drewN | apply below_drew1) | exact HB.out))) : w.heap.size ≤ gb101)); clear HB; have HB := n0_; have BK101 := n1_; have GW101 := n2_; have GE101 := n3_; clear n0_ n1_ n2_ n3_; clear hb hbox hg)); try go_wp2_with (first | ((with_reducible refine gate_dst (N := 3) rfl ?_); refine box_event ?hg (N := 3) ?hd (cs := #[.string a1_0, .string a1_1]) (t := 32) ?hr ?_; (case hd => rfl); (case hg => rfl); (case hr => first | (go_simp; done) | (go_simp; rfl)); intro gb101 hg w3 hbox hb; have n0_ := Aside0.mk (below_step (by repeat (first | (with_reducible first | exact HB.out | apply below_alloc | apply pw_below_drewN | apply below_drew1) | exact HB.out)) hb); have n1_ := Aside0.mk (hbox); have n2_ := Aside0.mk ((by rw [hg]; exact (below_size (by repeat (first | (with_reducible first | exact HB.out | apply below_alloc | apply pw_below_drewN | apply below_drew1) | exact HB.out))) : w.heap.size ≤ gb101)); have n3_ := Aside0.mk ((by rw [hg]; exact (below_size (by repeat (first | (with_reducible first | exact HB.out | apply below_alloc | apply pw_below_drewN | apply below_drew1) | exact HB.out))) : w.heap.size ≤ gb101)); clear HB; have HB := n0_; have BK101 := n1_; have GW101 := n2_; have GE101 := n3_; clear n0_ n1_ n2_ n3_; clear hb hbox hg)))
 go_loopg [8] k (fun kq v8 w' => ∃ (x8_1 : Int), v8 = .int .i64 x8_1 ∧ Aside0 (impl_Rule_183.l0 kq l0 (l0.length : Int) x8_1 a1_0 a1_1 = some r) ∧ Aside0 (kq ≤ k) ∧ Aside0 (w'.heap[gb101]? = some (.cells #[.string a1_0, .string a1_1] 32 (0, 0))) ∧ Aside0 (Below w.heap.size w w'))
 case atStart => exact ⟨(0), (by first | rfl | (simp; done) | (simp [*]; done)), H', ⟨Nat.le_refl _⟩, ⟨by (with_reducible repeat (first | refine blk_drewN ?_ _ | refine blk_drew ?_ | refine blk_alloc ?_ _)); exact BK101.out⟩, ⟨by repeat (first | (with_reducible first | exact HB.out | apply below_alloc | apply pw_below_drewN | apply below_drew1 | refine below_set ?_ GE101.out) | exact HB.out)⟩⟩
 case round =>
  clear H'
  try clear c1
  try clear p2
  obtain ⟨x8_1, rfl, HA, HK1, BK101, HB⟩ := hrel
  cases gk with
  | zero => exact absurd HA.out (by simp [impl_Rule_183.l0])
  | succ k1 =>
   have H := HA.out
   clear HA
   simp only [impl_Rule_183.l0] at H
   by_cases c4 : x8_1 < (l0.length : Int)
   ·rw [if_pos c4] at H
    have c4b0 : decide (x8_1 < (l0.length : Int)) = true := decide_eq_true c4
    clear c4
    by_cases c5 : 0 ≤ x8_1
    ·rw [if_pos c5] at H
     have c5b0 : decide (0 ≤ x8_1) = true := decide_eq_true c5
     clear c5
     by_cases c6 : x8_1 < (l0.length : Int)
     ·rw [if_pos c6] at H
      have c6b0 : decide (x8_1 < (l0.length : Int)) = true := decide_eq_true c6
      clear c6
      by_cases c7 : (a1_0.toList == (((rd_T32 l0 x8_1).f0).toList) && (a1_1.toList == (((rd_T32 l0 x8_1).f1).toList))) = true
      ·rw [if_pos c7] at H
       have c7b0 : (a1_0.toList == (((rd_T32 l0 x8_1).f0).toList) && (a1_1.toList == (((rd_T32 l0 x8_1).f1).toList))) = true := c7
       (try (have c7b1 : decide (a1_0.toList = (((rd_T32 l0 x8_1).f0).toList) && (a1_1.toList == (((rd_T32 l0 x8_1).f1).toList))) = true := by simpa using c7))
       (try (have c7b2 : (a1_0.toList == (((rd_T32 l0 x8_1).f0).toList) && (a1_1.toList == (((rd_T32 l0 x8_1).f1).toList))) = true := by simpa using c7))
       clear c7
       obtain rfl := Option.some.inj H
       have hcz8_0 : wr.cell? ⟨gb101, 0, none⟩ = some (.string a1_0) := (blk_cell BK101.out 0).trans rfl
       have hcz8_1 : wr.cell? ⟨gb101, 1, none⟩ = some (.string a1_1) := (blk_cell BK101.out 1).trans rfl
       have hfz8_0 := blk_frozen BK101.out 0
       have hfz8_1 := blk_frozen BK101.out 1
       have p102 : 0 ≤ (x8_1 : Int) := of_decide_eq_true (by first | (with_reducible assumption) | assumption)
       have q102 : x8_1 < (l0.length : Int) := of_decide_eq_true (by first | (with_reducible assumption) | assumption)
       obtain ⟨ad102, e102, hx102_0, hx102_1⟩ := at_T32 HR0.out x8_1 p102 q102
       cases e102
       replace hx102_0 := (HB.out.cell (World.block_lt_of_cell? w _ hx102_0)).trans hx102_0
       replace hx102_1 := (HB.out.cell (World.block_lt_of_cell? w _ hx102_1)).trans hx102_1
       replace p102 := eq_true p102
       replace q102 := eq_true q102
       go_wp2
       repeat (go_quiet (fail); try go_wp2)
       go_ret
       exact ⟨by first | rfl | (simp [errW_none, errW_some] <;> rfl) | (simp [*, errW_none, errW_some] <;> rfl), by repeat (first | (with_reducible first | exact HB.out | apply below_alloc | apply pw_below_drewN | apply below_drew1 | refine below_set ?_ GE101.out) | exact HB.out)⟩
      ·rw [if_neg c7] at H
       have c7b0 : (a1_0.toList == (((rd_T32 l0 x8_1).f0).toList) && (a1_1.toList == (((rd_T32 l0 x8_1).f1).toList))) = false := by simpa using c7
       (try (have c7b1 : decide (a1_0.toList = (((rd_T32 l0 x8_1).f0).toList) && (a1_1.toList == (((rd_T32 l0 x8_1).f1).toList))) = false := by simpa using c7))
       (try (have c7b2 : (a1_0.toList == (((rd_T32 l0 x8_1).f0).toList) && (a1_1.toList == (((rd_T32 l0 x8_1).f1).toList))) = false := by simpa using c7))
       (try (have c7b3 : ¬ (a1_0.toList = (((rd_T32 l0 x8_1).f0).toList) && (a1_1.toList == (((rd_T32 l0 x8_1).f1).toList))) := by simpa using c7))
       clear c7
       have H' := Aside0.mk H
       clear H
       have hcz9_0 : wr.cell? ⟨gb101, 0, none⟩ = some (.string a1_0) := (blk_cell BK101.out 0).trans rfl
       have hcz9_1 : wr.cell? ⟨gb101, 1, none⟩ = some (.string a1_1) := (blk_cell BK101.out 1).trans rfl
       have hfz9_0 := blk_frozen BK101.out 0
       have hfz9_1 := blk_frozen BK101.out 1
       have p102 : 0 ≤ (x8_1 : Int) := of_decide_eq_true (by first | (with_reducible assumption) | assumption)
       have q102 : x8_1 < (l0.length : Int) := of_decide_eq_true (by first | (with_reducible assumption) | assumption)
       obtain ⟨ad102, e102, hx102_0, hx102_1⟩ := at_T32 HR0.out x8_1 p102 q102
       cases e102
       replace hx102_0 := (HB.out.cell (World.block_lt_of_cell? w _ hx102_0)).trans hx102_0
       replace hx102_1 := (HB.out.cell (World.block_lt_of_cell? w _ hx102_1)).trans hx102_1
       replace p102 := eq_true p102
       replace q102 := eq_true q102
       go_wp2
       repeat (go_quiet (fail); try go_wp2)
       go_roundg k1
       case measure => have := HK1.out; omega
       case rel => exact ⟨(wrap64 (x8_1 + 1)), (by first | rfl | (simp; done) | (simp [*]; done)), H', ⟨by have := HK1.out; omega⟩, ⟨by (with_reducible repeat (first | refine blk_drewN ?_ _ | refine blk_drew ?_ | refine blk_alloc ?_ _)); exact BK101.out⟩, ⟨by repeat (first | (with_reducible first | exact HB.out | apply below_alloc | apply pw_below_drewN | apply below_drew1 | refine below_set ?_ GE101.out) | exact HB.out)⟩⟩
     ·rw [if_neg c6] at H
      exact absurd H (by simp)
    ·rw [if_neg c5] at H
     exact absurd H (by simp)
   ·rw [if_neg c4] at H
    have c4b0 : decide (x8_1 < (l0.length : Int)) = false := decide_eq_false c4
    clear c4
    obtain rfl := Option.some.inj H
    go_wp2
    repeat (go_quiet (fail); try go_wp2)
    go_ret
    exact ⟨by first | rfl | (simp [errW_none, errW_some] <;> rfl) | (simp [*, errW_none, errW_some] <;> rfl), by repeat (first | (with_reducible first | exact HB.out | apply below_alloc | apply pw_below_drewN | apply below_drew1 | refine below_set ?_ GE101.out) | exact HB.out)⟩
end Go.Proofs.YtiibnkibckklgaaGreatDoor.P
namespace Go.Proofs.YtiibnkibckklgaaGreatDoor.P
open Go.RowKit Go.Proofs.YtiibnkibckklgaaGreatDoorW.PrintWords Go.Proofs.YtiibnkibckklgaaGreatDoorW.PrintLast Go.Proofs.YtiibnkibckklgaaGreatDoorW.PrintMore
attribute [local go_sem] max2_int min2_int max_two min_two max_three min_three max_four min_four   -- for this text's walks alone
set_option linter.unusedVariables false
set_option linter.unusedSimpArgs false
/-! ### impl_Rule_136: function 136 -/
def impl_Rule_136.f (k : Nat) (l0 : List (S32)) (a1_0 : ByteArray) (a1_1 : ByteArray) : Option (Bool) := (impl_Rule_183.f k l0 a1_0 a1_1).bind fun t102 => (some (decide (t102 ≥ 0)))
theorem impl_Rule_136.mono : ∀ a0 a1 a2 k, LeO (impl_Rule_136.f k a0 a1 a2) (impl_Rule_136.f (k + 1) a0 a1 a2) := by
 intro a0 a1 a2 k
 unfold impl_Rule_136.f
 repeat' first
   | (with_reducible exact impl_Rule_183.mono _ _ _ _)
   | (with_reducible exact LeO.refl _)
   | (with_reducible exact LeO.none _)
   | (with_reducible refine LeO.ite ?_ ?_)
   | (with_reducible refine LeO.bind ?_ (fun _ => ?_))
   | exact impl_Rule_183.mono _ _ _ _
   | exact LeO.none _
   | refine LeO.ite ?_ ?_
   | refine LeO.bind ?_ (fun _ => ?_)
set_option maxHeartbeats 8000000 in
set_option maxRecDepth 100000 in
theorem impl_Rule_136.calls (k : Nat) (A0 : Option Addr) (c0 : Nat) (l0 : List (S32)) (a1_0 : ByteArray) (a1_1 : ByteArray) (r : Bool) (w : World) (hr0 : Kd.C k32 w A0 l0.length l0) (hc0 : l0.length ≤ c0) (h : impl_Rule_136.f k l0 a1_0 a1_1 = some r) :
  Calls Tryz.prog 136 #[.slice A0 l0.length c0, .agg #[.string a1_0, .string a1_1]] w fun e w' => e = .returned (.bool r) ∧ Below w.heap.size w w' := by
 have hu32 := Tryz.underlying32
 have HR0 := Aside0.mk hr0
 have HC0 := Aside0.mk hc0
 clear hr0 hc0
 have HB := Aside0.mk (Below.refl w.heap.size w)
 have H : ((impl_Rule_183.f k l0 a1_0 a1_1).bind fun t102 => (some (decide (t102 ≥ 0)))) = some r := h
 clear h
 replace H := Option.bind_eq_some_iff.mp H
 obtain ⟨t102, A30, H⟩ := H
 replace H : (some (decide (t102 ≥ 0))) = some r := H
 have A3 := Aside0.mk A30
 clear A30
 obtain rfl := Option.some.inj H
 go_enter Tryz.func136, Tryz.ntmps136
 go_wp2_with (first | ((with_reducible refine gate_dst (N := 3) rfl ?_); refine box_event ?hg (N := 3) ?hd (cs := #[.string a1_0, .string a1_1]) (t := 32) ?hr ?_; (case hd => rfl); (case hg => rfl); (case hr => first | (go_simp; done) | (go_simp; rfl)); intro gb101 hg w4 hbox hb; have n0_ := Aside0.mk (below_step (by repeat (first | (with_reducible first | exact HB.out | apply below_alloc | apply pw_below_drewN | apply below_drew1) | exact HB.out)) hb); have n1_ := Aside0.mk (hbox); have n2_ := Aside0.mk ((by rw [hg]; exact (below_size (by repeat (first | (with_reducible first | exact HB.out | apply below_alloc | apply pw_below_drewN | apply below_drew1) | exact HB.out))) : w.heap.size ≤ gb101)); have n3_ := Aside0.mk ((by rw [hg]; exact (below_size (by repeat (first | (with_reducible first | exact HB.out | apply below_alloc | apply pw_below_drewN | apply below_drew1) | exact HB.out))) : w.heap.size ≤ gb101)); clear HB; have HB := n0_; have BK101 := n1_; have GW101 := n2_; have GE101 := n3_; clear n0_ n1_ n2_ n3_; clear hb hbox hg; have hcz5_0 : w4.cell? ⟨gb101, 0, none⟩ = some (.string a1_0) := (blk_cell BK101.out 0).trans rfl; have hcz5_1 : w4.cell? ⟨gb101, 1, none⟩ = some (.string a1_1) := (blk_cell BK101.out 1).trans rfl; have hfz5_0 := blk_frozen BK101.out 0; have hfz5_1 := blk_frozen BK101.out 1) | ((with_reducible refine gate_callee (f := 183) rfl ?_); refine goesL_ (some 7) rfl rfl Tryz.func183 (by kernel_rfl) rfl #[.slice A0 l0.length c0, .agg #[.string a1_0, .string a1_1]] rfl (by (try simp only [List.map_toArray, List.map_cons, List.map_nil]); first | done | rfl | (simp only [List.length_drop, List.length_take]; rfl)) ?_; (with_reducible refine (impl_Rule_183.calls k _ _ l0 a1_0 a1_1 t102 _ ?side1 ?side2 A3.out).mono ?_); (case side1 => repeat (first | exact (Kd.C_below HR0.out HB.out) | (with_reducible refine Kd.C_alloc ?_ _) | (with_reducible refine Kd.C_drewN ?_ _) | (with_reducible refine Kd.C_drew ?_))); (case side2 => exact HC0.out); rintro e w6 ⟨rfl, hb⟩; refine ⟨_, rfl, ?_⟩; have n0_ := Aside0.mk (blk_below (g := gb101) (o := .cells #[.string a1_0, .string a1_1] 32 (0, 0)) (by (with_reducible repeat (first | refine blk_drewN ?_ _ | refine blk_drew ?_ | refine blk_alloc ?_ _)); exact BK101.out) hb); have n1_ := Aside0.mk (below_step (by repeat (first | (with_reducible first | exact HB.out | apply below_alloc | apply pw_below_drewN | apply below_drew1 | refine below_set ?_ GE101.out) | exact HB.out)) hb); clear BK101; clear HB; have BK101 := n0_; have HB := n1_; clear n0_ n1_; (try clear hb); (try clear hb2); (try clear hk); (try clear hi)))
 go_ret
 exact ⟨by first | rfl | (simp [errW_none, errW_some] <;> rfl) | (simp [*, errW_none, errW_some] <;> rfl), by repeat (first | (with_reducible first | exact HB.out | apply below_alloc | apply pw_below_drewN | apply below_drew1 | refine below_set ?_ GE101.out) | exact HB.out)⟩
end Go.Proofs.YtiibnkibckklgaaGreatDoor.P
namespace Go.Proofs.YtiibnkibckklgaaGreatDoor.P
open Go.RowKit Go.Proofs.YtiibnkibckklgaaGreatDoorW.PrintWords Go.Proofs.YtiibnkibckklgaaGreatDoorW.PrintLast Go.Proofs.YtiibnkibckklgaaGreatDoorW.PrintMore
attribute [local go_sem] max2_int min2_int max_two min_two max_three min_three max_four min_four   -- for this text's walks alone
set_option linter.unusedVariables false
set_option linter.unusedSimpArgs false
/-! ### impl_GramOk: function 64 -/
mutual
def impl_GramOk.j0 : Nat → Bool → ByteArray → List (S32) → Option (Bool)
 | 0, _, _, _ => none
 | k + 1, x14, x102000, x102001 => if x14 = true then (some false) else (impl_GramOk.l0 k x102001 (x102001.length : Int) 0 x102000 x102001)
def impl_GramOk.l0 : Nat → List (S32) → Int → Int → ByteArray → List (S32) → Option (Bool)
 | 0, _, _, _, _, _ => none
 | k + 1, x16, x17, x18, x102000, x102001 => if x18 < x17 then (if 0 ≤ x18 then (if x18 < (x16.length : Int) then ((impl_SignBig.f ((rd_T32 x16 x18).f0)).bind fun t105 => (if t105 = true then ((impl_areSigns.f ((rd_T32 x16 x18).f1) 4).bind fun t106 => (if t106 = true then (if x18 ≤ (x102001.length : Int) then ((impl_Rule_136.f k (x102001.take (x18 : Int).toNat) ((rd_T32 x16 x18).f0) ((rd_T32 x16 x18).f1)).bind fun t111 => (if t111 = true then (some false) else (impl_GramOk.l0 k x16 x17 (wrap64 (x18 + 1)) x102000 x102001))) else (none)) else (some false))) else (some false))) else (none)) else (none)) else (some true)
end
def impl_GramOk.f (k : Nat) (a0_0 : ByteArray) (l0_1 : List (S32)) : Option (Bool) := (impl_SignBig.f a0_0).bind fun t102 => (if t102 = true then (impl_GramOk.j0 k (decide ((l0_1.length : Int) > 8)) a0_0 l0_1) else (impl_GramOk.j0 k true a0_0 l0_1))
theorem impl_GramOk.mono_l : ∀ k, (∀ y0 y1 y2, LeO (impl_GramOk.j0 k y0 y1 y2) (impl_GramOk.j0 (k + 1) y0 y1 y2)) ∧ (∀ y0 y1 y2 y3 y4, LeO (impl_GramOk.l0 k y0 y1 y2 y3 y4) (impl_GramOk.l0 (k + 1) y0 y1 y2 y3 y4))
 | 0 => ⟨fun _ _ _ r h => by simp [impl_GramOk.j0] at h, fun _ _ _ _ _ r h => by simp [impl_GramOk.l0] at h⟩
 | k + 1 => by
  obtain ⟨ih0, ih1⟩ := impl_GramOk.mono_l k
  refine ⟨?_, ?_⟩
  ·intro y0 y1 y2
   unfold impl_GramOk.j0
   repeat' first
   | (with_reducible exact ih0 _ _ _)
   | (with_reducible exact ih1 _ _ _ _ _)
   | (with_reducible exact impl_Rule_136.mono _ _ _ _)
   | (with_reducible exact LeO.refl _)
   | (with_reducible exact LeO.none _)
   | (with_reducible refine LeO.ite ?_ ?_)
   | (with_reducible refine LeO.bind ?_ (fun _ => ?_))
   | exact ih0 _ _ _
   | exact ih1 _ _ _ _ _
   | exact impl_Rule_136.mono _ _ _ _
   | exact LeO.none _
   | refine LeO.ite ?_ ?_
   | refine LeO.bind ?_ (fun _ => ?_)
  ·intro y0 y1 y2 y3 y4
   unfold impl_GramOk.l0
   repeat' first
   | (with_reducible exact ih0 _ _ _)
   | (with_reducible exact ih1 _ _ _ _ _)
   | (with_reducible exact impl_Rule_136.mono _ _ _ _)
   | (with_reducible exact LeO.refl _)
   | (with_reducible exact LeO.none _)
   | (with_reducible refine LeO.ite ?_ ?_)
   | (with_reducible refine LeO.bind ?_ (fun _ => ?_))
   | exact ih0 _ _ _
   | exact ih1 _ _ _ _ _
   | exact impl_Rule_136.mono _ _ _ _
   | exact LeO.none _
   | refine LeO.ite ?_ ?_
   | refine LeO.bind ?_ (fun _ => ?_)
theorem impl_GramOk.mono : ∀ a0 a1 k, LeO (impl_GramOk.f k a0 a1) (impl_GramOk.f (k + 1) a0 a1) := by
 intro a0 a1 k
 obtain ⟨ih0, ih1⟩ := impl_GramOk.mono_l k
 unfold impl_GramOk.f
 repeat' first
   | (with_reducible exact ih0 _ _ _)
   | (with_reducible exact ih1 _ _ _ _ _)
   | (with_reducible exact impl_Rule_136.mono _ _ _ _)
   | (with_reducible exact LeO.refl _)
   | (with_reducible exact LeO.none _)
   | (with_reducible refine LeO.ite ?_ ?_)
   | (with_reducible refine LeO.bind ?_ (fun _ => ?_))
   | exact ih0 _ _ _
   | exact ih1 _ _ _ _ _
   | exact impl_Rule_136.mono _ _ _ _
   | exact LeO.none _
   | refine LeO.ite ?_ ?_
   | refine LeO.bind ?_ (fun _ => ?_)
def impl_GramOk.T6 : Bool × List (List Nat × List Nat) := (true, [([], []), ([0], [0]), ([1], [1]), ([2], [2]), ([3, 2], [3]), ([4], [4]), ([5, 4], [4, 5]), ([6, 4, 4], [4, 6]), ([7, 4], [4, 7]), ([4, 8], [4, 8]), ([9, 7], [9]), ([10], [10]), ([11, 10], [10, 11]), ([10], [10]), ([12, 13, 10], [10, 12, 13]), ([10], [10]), ([14, 15, 10, 10], [10, 14, 15]), ([10, 16], [10, 16])])
def impl_GramOk.B6 : List Nat := [0, 1, 3, 7, 15, 31, 63, 127, 255, 511, 1023, 2047, 4095, 2047, 16383, 2047, 65535, 131071]
theorem impl_GramOk.tab6 : rtab .any (opsOf Tryz.f64 6) = impl_GramOk.T6 := by kernel_rfl
theorem impl_GramOk.bits6 : waitsOk impl_GramOk.T6.2 impl_GramOk.B6 = true := by kernel_rfl
set_option maxHeartbeats 8000000 in
set_option maxRecDepth 100000 in
theorem impl_GramOk.calls (k : Nat) (a0_0 : ByteArray) (A0_1 : Option Addr) (c0_1 : Nat) (l0_1 : List (S32)) (r : Bool) (w : World) (hr0_1 : Kd.C k32 w A0_1 l0_1.length l0_1) (hc0_1 : l0_1.length ≤ c0_1) (h : impl_GramOk.f k a0_0 l0_1 = some r) :
  Calls Tryz.prog 64 #[.agg #[.string a0_0, .slice A0_1 l0_1.length c0_1]] w fun e w' => e = .returned (.bool r) ∧ Below w.heap.size w w' := by
 have hu25 := Tryz.underlying25
 have hu32 := Tryz.underlying32
 have HR0_1 := Aside0.mk hr0_1
 have HC0_1 := Aside0.mk hc0_1
 clear hr0_1 hc0_1
 have HB := Aside0.mk (Below.refl w.heap.size w)
 have H : ((impl_SignBig.f a0_0).bind fun t102 => (if t102 = true then (impl_GramOk.j0 k (decide ((l0_1.length : Int) > 8)) a0_0 l0_1) else (impl_GramOk.j0 k true a0_0 l0_1))) = some r := h
 clear h
 have HC2 := Aside0.mk H
 clear H
 go_enter Tryz.func64, Tryz.ntmps64
 go_upto_region 1 with (first | ((with_reducible refine gate_dst (N := 1) rfl ?_); (try (refine gate_guard (by rfl) ?_; dsimp only)); refine box_event ?hg (N := 1) ?hd (cs := #[.string a0_0, .slice A0_1 l0_1.length c0_1]) (t := 25) ?hr ?_; (case hd => rfl); (case hg => rfl); (case hr => first | (go_simp; done) | (go_simp; rfl)); intro gb101 hg w3 hbox hb; have n0_ := Aside0.mk (below_step (by repeat (first | (with_reducible first | exact HB.out | apply below_alloc | apply pw_below_drewN | apply below_drew1) | exact HB.out)) hb); have n1_ := Aside0.mk (hbox); have n2_ := Aside0.mk ((by rw [hg]; exact (below_size (by repeat (first | (with_reducible first | exact HB.out | apply below_alloc | apply pw_below_drewN | apply below_drew1) | exact HB.out))) : w.heap.size ≤ gb101)); have n3_ := Aside0.mk ((by rw [hg]; exact (below_size (by repeat (first | (with_reducible first | exact HB.out | apply below_alloc | apply pw_below_drewN | apply below_drew1) | exact HB.out))) : w.heap.size ≤ gb101)); clear HB; have HB := n0_; have BK101 := n1_; have GW101 := n2_; have GE101 := n3_; clear n0_ n1_ n2_ n3_; clear hb hbox hg))
 (try simp only [Act.put, List.setIfInBounds_toArray, List.set_cons_zero, List.set_cons_succ])
 go_cut [14] (fun v14 wc => ∃ (kq : Nat) (x14_1 : Bool), v14 = .bool x14_1 ∧ Aside0 (impl_GramOk.j0 kq x14_1 a0_0 l0_1 = some r) ∧ Aside0 (kq ≤ k) ∧ Aside0 (wc.heap[gb101]? = some (.cells #[.string a0_0, (.slice A0_1 l0_1.length c0_1)] 25 (0, 0))) ∧ Aside0 (Below w.heap.size w wc))
 case first =>
  have H := HC2.out
  clear HC2
  replace H := Option.bind_eq_some_iff.mp H
  obtain ⟨t102, A40, H⟩ := H
  replace H : (if t102 = true then (impl_GramOk.j0 k (decide ((l0_1.length : Int) > 8)) a0_0 l0_1) else (impl_GramOk.j0 k true a0_0 l0_1)) = some r := H
  have A4 := Aside0.mk A40
  clear A40
  by_cases c5 : t102 = true
  ·subst c5
   have H1 : (impl_GramOk.j0 k (decide ((l0_1.length : Int) > 8)) a0_0 l0_1) = some r := by rw [if_pos rfl] at H; exact H
   clear H
   have H := H1
   clear H1
   have H' := Aside0.mk H
   clear H
   have hcz6_0 : w3.cell? ⟨gb101, 0, none⟩ = some (.string a0_0) := (blk_cell BK101.out 0).trans rfl
   have hcz6_1 : w3.cell? ⟨gb101, 1, none⟩ = some (.slice A0_1 l0_1.length c0_1) := (blk_cell BK101.out 1).trans rfl
   have hfz6_0 := blk_frozen BK101.out 0
   have hfz6_1 := blk_frozen BK101.out 1
   go_wp2_with (first | ((with_reducible refine gate_callee (f := 21) rfl ?_); refine goesL_ (some 7) rfl rfl Tryz.func21 (by kernel_rfl) rfl #[.string a0_0] rfl (by (try simp only [List.map_toArray, List.map_cons, List.map_nil]); first | done | rfl | (simp only [List.length_drop, List.length_take]; rfl)) ?_; (with_reducible refine (impl_SignBig.calls a0_0 true _ A4.out).mono ?_); rintro e w' ⟨rfl, ⟨nd, rfl⟩⟩; refine ⟨_, rfl, ?_⟩))
   go_meet
   case rel => exact ⟨_, (decide ((l0_1.length : Int) > 8)), (by first | rfl | (simp; done) | (simp [*]; done)), H', ⟨by first | omega | exact Nat.le_refl _⟩, ⟨by (with_reducible repeat (first | refine blk_drewN ?_ _ | refine blk_drew ?_ | refine blk_alloc ?_ _)); exact BK101.out⟩, ⟨by repeat (first | (with_reducible first | exact HB.out | apply below_alloc | apply pw_below_drewN | apply below_drew1 | refine below_set ?_ GE101.out) | exact HB.out)⟩⟩
  ·replace c5 := Bool.eq_false_iff.mpr c5
   subst c5
   have H1 : (impl_GramOk.j0 k true a0_0 l0_1) = some r := by rw [if_neg (show ¬ (false = true) by decide)] at H; exact H
   clear H
   have H := H1
   clear H1
   have H' := Aside0.mk H
   clear H
   have hcz7_0 : w3.cell? ⟨gb101, 0, none⟩ = some (.string a0_0) := (blk_cell BK101.out 0).trans rfl
   have hcz7_1 : w3.cell? ⟨gb101, 1, none⟩ = some (.slice A0_1 l0_1.length c0_1) := (blk_cell BK101.out 1).trans rfl
   have hfz7_0 := blk_frozen BK101.out 0
   have hfz7_1 := blk_frozen BK101.out 1
   go_wp2_with (first | ((with_reducible refine gate_callee (f := 21) rfl ?_); refine goesL_ (some 7) rfl rfl Tryz.func21 (by kernel_rfl) rfl #[.string a0_0] rfl (by (try simp only [List.map_toArray, List.map_cons, List.map_nil]); first | done | rfl | (simp only [List.length_drop, List.length_take]; rfl)) ?_; (with_reducible refine (impl_SignBig.calls a0_0 false _ A4.out).mono ?_); rintro e w' ⟨rfl, ⟨nd, rfl⟩⟩; refine ⟨_, rfl, ?_⟩))
   go_meet
   case rel => exact ⟨_, (true), (by first | rfl | (simp; done) | (simp [*]; done)), H', ⟨by first | omega | exact Nat.le_refl _⟩, ⟨by (with_reducible repeat (first | refine blk_drewN ?_ _ | refine blk_drew ?_ | refine blk_alloc ?_ _)); exact BK101.out⟩, ⟨by repeat (first | (with_reducible first | exact HB.out | apply below_alloc | apply pw_below_drewN | apply below_drew1 | refine below_set ?_ GE101.out) | exact HB.out)⟩⟩
 case rest =>
  clear HC2
  try clear c2
  try clear p2
  try clear c5
  try clear c6
  try clear hcz6_0
  try clear hcz6_1
  try clear hcz7_0
  try clear hcz7_1
  try clear hfz6_0
  try clear hfz6_1
  try clear hfz7_0
  try clear hfz7_1
  obtain ⟨kq, x14_1, rfl, HA, HJ1, BK101, HB⟩ := hcut
  cases kq with
  | zero => exact absurd HA.out (by simp [impl_GramOk.j0])
  | succ kj1 =>
   have H := HA.out
   clear HA
   simp only [impl_GramOk.j0] at H
   by_cases c8 : x14_1 = true
   ·subst c8
    have H1 : (some false) = some r := by rw [if_pos rfl] at H; exact H
    clear H
    have H := H1
    clear H1
    obtain rfl := Option.some.inj H
    go_wp2
    go_ret
    exact ⟨by first | rfl | (simp [errW_none, errW_some] <;> rfl) | (simp [*, errW_none, errW_some] <;> rfl), by repeat (first | (with_reducible first | exact HB.out | apply below_alloc | apply pw_below_drewN | apply below_drew1 | refine below_set ?_ GE101.out) | exact HB.out)⟩
   ·replace c8 := Bool.eq_false_iff.mpr c8
    subst c8
    have H1 : (impl_GramOk.l0 kj1 l0_1 (l0_1.length : Int) 0 a0_0 l0_1) = some r := by rw [if_neg (show ¬ (false = true) by decide)] at H; exact H
    clear H
    have H := H1
    clear H1
    have H' := Aside0.mk H
    clear H
    have hcz9_0 : wc.cell? ⟨gb101, 0, none⟩ = some (.string a0_0) := (blk_cell BK101.out 0).trans rfl
    have hcz9_1 : wc.cell? ⟨gb101, 1, none⟩ = some (.slice A0_1 l0_1.length c0_1) := (blk_cell BK101.out 1).trans rfl
    have hfz9_0 := blk_frozen BK101.out 0
    have hfz9_1 := blk_frozen BK101.out 1
    go_wp2
    go_loopg [18] kj1 (fun kq v18 w' => ∃ (x18_2 : Int), v18 = .int .i64 x18_2 ∧ Aside0 (impl_GramOk.l0 kq l0_1 (l0_1.length : Int) x18_2 a0_0 l0_1 = some r) ∧ Aside0 (kq ≤ kj1) ∧ Aside0 (w'.heap[gb101]? = some (.cells #[.string a0_0, (.slice A0_1 l0_1.length c0_1)] 25 (0, 0))) ∧ Aside0 (Below w.heap.size w w'))
    case atStart => exact ⟨(0), (by first | rfl | (simp; done) | (simp [*]; done)), H', ⟨Nat.le_refl _⟩, ⟨by (with_reducible repeat (first | refine blk_drewN ?_ _ | refine blk_drew ?_ | refine blk_alloc ?_ _)); exact BK101.out⟩, ⟨by repeat (first | (with_reducible first | exact HB.out | apply below_alloc | apply pw_below_drewN | apply below_drew1 | refine below_set ?_ GE101.out) | exact HB.out)⟩⟩
    case round =>
     clear H'
     try clear c2
     try clear p2
     try clear c5
     try clear c6
     try clear c8
     try clear hcz6_0
     try clear hcz6_1
     try clear hcz7_0
     try clear hcz7_1
     try clear hcz9_0
     try clear hcz9_1
     try clear hfz6_0
     try clear hfz6_1
     try clear hfz7_0
     try clear hfz7_1
     try clear hfz9_0
     try clear hfz9_1
     try clear p2
     obtain ⟨x18_2, rfl, HA, HK2, BK101, HB⟩ := hrel
     cases gk with
     | zero => exact absurd HA.out (by simp [impl_GramOk.l0])
     | succ k2 =>
      have H := HA.out
      clear HA
      simp only [impl_GramOk.l0] at H
      by_cases c10 : x18_2 < (l0_1.length : Int)
      ·rw [if_pos c10] at H
       have c10b0 : decide (x18_2 < (l0_1.length : Int)) = true := decide_eq_true c10
       clear c10
       by_cases c11 : 0 ≤ x18_2
       ·rw [if_pos c11] at H
        have c11b0 : decide (0 ≤ x18_2) = true := decide_eq_true c11
        clear c11
        by_cases c12 : x18_2 < (l0_1.length : Int)
        ·rw [if_pos c12] at H
         have c12b0 : decide (x18_2 < (l0_1.length : Int)) = true := decide_eq_true c12
         clear c12
         replace H := Option.bind_eq_some_iff.mp H
         obtain ⟨t105, A130, H⟩ := H
         replace H : (if t105 = true then ((impl_areSigns.f ((rd_T32 l0_1 x18_2).f1) 4).bind fun t106 => (if t106 = true then (if x18_2 ≤ (l0_1.length : Int) then ((impl_Rule_136.f k2 (l0_1.take (x18_2 : Int).toNat) ((rd_T32 l0_1 x18_2).f0) ((rd_T32 l0_1 x18_2).f1)).bind fun t111 => (if t111 = true then (some false) else (impl_GramOk.l0 k2 l0_1 (l0_1.length : Int) (wrap64 (x18_2 + 1)) a0_0 l0_1))) else (none)) else (some false))) else (some false)) = some r := H
         have A13 := Aside0.mk A130
         clear A130
         by_cases c14 : t105 = true
         ·subst c14
          have H1 : ((impl_areSigns.f ((rd_T32 l0_1 x18_2).f1) 4).bind fun t106 => (if t106 = true then (if x18_2 ≤ (l0_1.length : Int) then ((impl_Rule_136.f k2 (l0_1.take (x18_2 : Int).toNat) ((rd_T32 l0_1 x18_2).f0) ((rd_T32 l0_1 x18_2).f1)).bind fun t111 => (if t111 = true then (some false) else (impl_GramOk.l0 k2 l0_1 (l0_1.length : Int) (wrap64 (x18_2 + 1)) a0_0 l0_1))) else (none)) else (some false))) = some r := by rw [if_pos rfl] at H; exact H
          clear H
          have H := H1
          clear H1
          replace H := Option.bind_eq_some_iff.mp H
          obtain ⟨t106, A150, H⟩ := H
          replace H : (if t106 = true then (if x18_2 ≤ (l0_1.length : Int) then ((impl_Rule_136.f k2 (l0_1.take (x18_2 : Int).toNat) ((rd_T32 l0_1 x18_2).f0) ((rd_T32 l0_1 x18_2).f1)).bind fun t111 => (if t111 = true then (some false) else (impl_GramOk.l0 k2 l0_1 (l0_1.length : Int) (wrap64 (x18_2 + 1)) a0_0 l0_1))) else (none)) else (some false)) = some r := H
          have A15 := Aside0.mk A150
          clear A150
          by_cases c16 : t106 = true
          ·subst c16
           have H1 : (if x18_2 ≤ (l0_1.length : Int) then ((impl_Rule_136.f k2 (l0_1.take (x18_2 : Int).toNat) ((rd_T32 l0_1 x18_2).f0) ((rd_T32 l0_1 x18_2).f1)).bind fun t111 => (if t111 = true then (some false) else (impl_GramOk.l0 k2 l0_1 (l0_1.length : Int) (wrap64 (x18_2 + 1)) a0_0 l0_1))) else (none)) = some r := by rw [if_pos rfl] at H; exact H
           clear H
           have H := H1
           clear H1
           have c17b0 := eq_true (of_decide_eq_true (by first | (with_reducible assumption) | assumption) : 0 ≤ x18_2)
           by_cases c18 : x18_2 ≤ (l0_1.length : Int)
           ·rw [if_pos c18] at H
            have c18b0 := eq_true c18
            have c18b1 : decide (x18_2 ≤ (l0_1.length : Int)) = true := decide_eq_true c18
            clear c18
            obtain ⟨y107, hy107⟩ : ∃ y_ : List (S32), y_ = (l0_1.take (x18_2 : Int).toNat) := ⟨_, rfl⟩
            replace H : ((impl_Rule_136.f k2 y107 ((rd_T32 l0_1 x18_2).f0) ((rd_T32 l0_1 x18_2).f1)).bind fun t111 => (if t111 = true then (some false) else (impl_GramOk.l0 k2 l0_1 (l0_1.length : Int) (wrap64 (x18_2 + 1)) a0_0 l0_1))) = some r := by first | (rw [hy107]; with_reducible exact H) | (have H2_ := (Option.bind_some _ _).symm.trans H; rw [hy107]; with_reducible exact H2_) | (have H2_ := (Option.bind_some _ _).symm.trans H; with_reducible exact H2_) | with_reducible exact H | (rw [hy107]; exact H) | exact H
            have Ny107 := Aside0.mk hy107
            clear hy107
            replace H := Option.bind_eq_some_iff.mp H
            obtain ⟨t111, A190, H⟩ := H
            replace H : (if t111 = true then (some false) else (impl_GramOk.l0 k2 l0_1 (l0_1.length : Int) (wrap64 (x18_2 + 1)) a0_0 l0_1)) = some r := H
            have A19 := Aside0.mk A190
            clear A190
            by_cases c20 : t111 = true
            ·subst c20
             have H1 : (some false) = some r := by rw [if_pos rfl] at H; exact H
             clear H
             have H := H1
             clear H1
             obtain rfl := Option.some.inj H
             have p103 : 0 ≤ (x18_2 : Int) := of_decide_eq_true (by first | (with_reducible assumption) | assumption)
             have q103 : x18_2 < (l0_1.length : Int) := of_decide_eq_true (by first | (with_reducible assumption) | assumption)
             obtain ⟨ad103, e103, hx103_0, hx103_1⟩ := at_T32 HR0_1.out x18_2 p103 q103
             cases e103
             replace hx103_0 := (HB.out.cell (World.block_lt_of_cell? w _ hx103_0)).trans hx103_0
             replace hx103_1 := (HB.out.cell (World.block_lt_of_cell? w _ hx103_1)).trans hx103_1
             replace p103 := eq_true p103
             replace q103 := eq_true q103
             try go_wp2_with (first | ((with_reducible refine gate_dst (N := 4) rfl ?_); (try (refine gate_guard (by rfl) ?_; dsimp only)); refine box_event ?hg (N := 4) ?hd (cs := #[.string (⟨#[]⟩ : ByteArray), .string (⟨#[]⟩ : ByteArray)]) (t := 32) ?hr ?_; (case hd => rfl); (case hg => rfl); (case hr => first | (go_simp; done) | (go_simp; rfl)); intro gb104 hg w21 hbox hb; have n0_ := Aside0.mk (blk_below (g := gb101) (o := .cells #[.string a0_0, .slice (some ad103) l0_1.length c0_1] 25 (0, 0)) (by (with_reducible repeat (first | refine blk_drewN ?_ _ | refine blk_drew ?_ | refine blk_alloc ?_ _)); exact BK101.out) hb); have n1_ := Aside0.mk (below_step (by repeat (first | (with_reducible first | exact HB.out | apply below_alloc | apply pw_below_drewN | apply below_drew1 | refine below_set ?_ GE101.out) | exact HB.out)) hb); have n2_ := Aside0.mk (hbox); have n3_ := Aside0.mk ((by rw [hg]; exact (below_size (by repeat (first | (with_reducible first | exact HB.out | apply below_alloc | apply pw_below_drewN | apply below_drew1 | refine below_set ?_ GE101.out) | exact HB.out))) : w.heap.size ≤ gb104)); have n4_ := Aside0.mk ((by rw [hg]; exact (below_size (by repeat (first | (with_reducible first | exact HB.out | apply below_alloc | apply pw_below_drewN | apply below_drew1 | refine below_set ?_ GE101.out) | exact HB.out))) : w.heap.size ≤ gb104)); have n5_ := Aside0.mk ((by rw [hg]; exact Nat.ne_of_lt (blk_lt (g := gb101) (o := .cells #[.string a0_0, .slice (some ad103) l0_1.length c0_1] 25 (0, 0)) (by (with_reducible repeat (first | refine blk_drewN ?_ _ | refine blk_drew ?_ | refine blk_alloc ?_ _)); exact BK101.out)) : gb101 ≠ gb104)); have n6_ := Aside0.mk ((by rw [hg]; exact Nat.ne_of_gt (blk_lt (g := gb101) (o := .cells #[.string a0_0, .slice (some ad103) l0_1.length c0_1] 25 (0, 0)) (by (with_reducible repeat (first | refine blk_drewN ?_ _ | refine blk_drew ?_ | refine blk_alloc ?_ _)); exact BK101.out)) : gb104 ≠ gb101)); clear BK101; clear HB; have BK101 := n0_; have HB := n1_; have BK104 := n2_; have GW104 := n3_; have GE104 := n4_; have NB101_104 := n5_; have NB104_101 := n6_; clear n0_ n1_ n2_ n3_ n4_ n5_ n6_; clear hb hbox hg; have hnb22 := NB104_101.out; have hnc22 := NB101_104.out; have hcz23_0 : w21.cell? ⟨gb104, 0, none⟩ = some (.string (⟨#[]⟩ : ByteArray)) := (blk_cell BK104.out 0).trans rfl; have hcz23_1 : w21.cell? ⟨gb104, 1, none⟩ = some (.string (⟨#[]⟩ : ByteArray)) := (blk_cell BK104.out 1).trans rfl; have hfz23_0 := blk_frozen BK104.out 0; have hfz23_1 := blk_frozen BK104.out 1))
             have n0_ : Aside0 (((w21.setCell ⟨gb104, 0, none⟩ (.string ((rd_T32 l0_1 x18_2).f0))).setCell ⟨gb104, 1, none⟩ (.string ((rd_T32 l0_1 x18_2).f1))).heap[gb101]? = some (.cells #[.string a0_0, .slice (some ad103) l0_1.length c0_1] 25 (0, 0))) := ⟨by (with_reducible repeat (first | refine blk_drewN ?_ _ | refine blk_drew ?_ | refine blk_alloc ?_ _)); refine blk_far ?_ NB101_104.out _; (with_reducible repeat (first | refine blk_drewN ?_ _ | refine blk_drew ?_ | refine blk_alloc ?_ _)); refine blk_far ?_ NB101_104.out _; (with_reducible repeat (first | refine blk_drewN ?_ _ | refine blk_drew ?_ | refine blk_alloc ?_ _)); exact BK101.out⟩
             have n1_ : Aside0 (((w21.setCell ⟨gb104, 0, none⟩ (.string ((rd_T32 l0_1 x18_2).f0))).setCell ⟨gb104, 1, none⟩ (.string ((rd_T32 l0_1 x18_2).f1))).heap[gb104]? = some (.cells #[.string ((rd_T32 l0_1 x18_2).f0), .string ((rd_T32 l0_1 x18_2).f1)] 32 (0, 0))) := ⟨by (with_reducible repeat (first | refine blk_drewN ?_ _ | refine blk_drew ?_ | refine blk_alloc ?_ _)); refine blk_put (cs := #[.string ((rd_T32 l0_1 x18_2).f0), .string (⟨#[]⟩ : ByteArray)]) ?_ 1 _ rfl; (with_reducible repeat (first | refine blk_drewN ?_ _ | refine blk_drew ?_ | refine blk_alloc ?_ _)); refine blk_put (cs := #[.string (⟨#[]⟩ : ByteArray), .string (⟨#[]⟩ : ByteArray)]) ?_ 0 _ rfl; (with_reducible repeat (first | refine blk_drewN ?_ _ | refine blk_drew ?_ | refine blk_alloc ?_ _)); exact BK104.out⟩
             have n2_ : Aside0 (Below w.heap.size w ((w21.setCell ⟨gb104, 0, none⟩ (.string ((rd_T32 l0_1 x18_2).f0))).setCell ⟨gb104, 1, none⟩ (.string ((rd_T32 l0_1 x18_2).f1)))) := ⟨by repeat (first | (with_reducible first | exact HB.out | apply below_alloc | apply pw_below_drewN | apply below_drew1 | refine below_set ?_ GE101.out | refine below_set ?_ GE104.out) | exact HB.out)⟩
             (try clear BK101)
             (try clear BK104)
             (try clear HB)
             generalize ((w21.setCell ⟨gb104, 0, none⟩ (.string ((rd_T32 l0_1 x18_2).f0))).setCell ⟨gb104, 1, none⟩ (.string ((rd_T32 l0_1 x18_2).f1))) = w24 at n0_ n1_ n2_ ⊢
             have BK101 := n0_
             have BK104 := n1_
             have HB := n2_
             clear n0_ n1_ n2_
             have n0_ := Aside0.mk (blk_drew BK101.out)
             have n1_ := Aside0.mk (blk_drew BK104.out)
             have n2_ := Aside0.mk (below_drew1 HB.out)
             clear BK101
             clear BK104
             clear HB
             have BK101 := n0_
             have BK104 := n1_
             have HB := n2_
             clear n0_ n1_ n2_
             refine start_ (n := 18) (S := fun w' => w'.cell? ⟨gb104, 0, none⟩ = some (.string ((rd_T32 l0_1 x18_2).f0)) ∧ w'.cell? ⟨gb104, 1, none⟩ = some (.string ((rd_T32 l0_1 x18_2).f1)) ∧ w'.cell? ⟨gb101, 0, none⟩ = some (.string a0_0) ∧ w'.cell? ⟨gb101, 1, none⟩ = some (.slice (some ad103) l0_1.length c0_1)) (ds := []) #[false, false, false, false, false, false, false, false, false, false, false, false, false, false, false, false, false, false] (by kernel_rfl) rfl rfl ⟨(blk_cell BK104.out 0).trans rfl, (blk_cell BK104.out 1).trans rfl, (blk_cell BK101.out 0).trans rfl, (blk_cell BK101.out 1).trans rfl⟩ (fun hHeld => ?_); refine with_tabW impl_GramOk.tab6 impl_GramOk.bits6 (fun HT_ HW_ => ?_)
             generalize w24.drew = w25 at BK101 BK104 HB hHeld ⊢
             refine pure_ (i := 0) (N := some 23) (v := ?_) (a' := ?_) #[true, false, false, false, false, false, false, false, false, false, false, false, false, false, false, false, false, false] rfl rfl (any_of HT_.out (by kernel_rfl)) (fun _ _ _ h => h) (Or.inl ⟨by rfl, ?_⟩) ?_ ?_
             rotate_left
             ·intro w'
              go_simp
              with_reducible rfl
             rotate_left
             ·simp only [Act.put, List.setIfInBounds_toArray, List.set_cons_zero, List.set_cons_succ, i64_w, i32_w]
              rfl
             refine take_ (i := 1) (N := some 24) (v := ?_) (a' := ?_) #[true, true, false, false, false, false, false, false, false, false, false, false, false, false, false, false, false, false] rfl rfl (take_ofW HT_.out HW_.out (by kernel_rfl)) (fun _ _ _ h => h) (Or.inl ⟨by rfl, ?_⟩) hHeld ?_ ?_
             rotate_left
             ·rintro w' ⟨s0, s1, s2, s3⟩
              go_simp
              with_reducible rfl
             rotate_left
             ·simp only [Act.put, List.setIfInBounds_toArray, List.set_cons_zero, List.set_cons_succ, i64_w, i32_w]
              rfl
             refine one_ (i := 2) (N := some 25) #[true, true, true, false, false, false, false, false, false, false, false, false, false, false, false, false, false, false] rfl rfl (one_of HT_.out (by kernel_rfl)) (by decide) (fun K hK => ?_)
             refine goes_ Tryz.func21 (by kernel_rfl) rfl #[.string ((rd_T32 l0_1 x18_2).f0)] (by rfl) rfl rfl (by (try simp only [List.map_toArray, List.map_cons, List.map_nil]); first | done | rfl | (simp only [List.length_drop, List.length_take]; rfl)) ?_
             with_reducible refine (impl_SignBig.calls ((rd_T32 l0_1 x18_2).f0) true _ A13.out).mono ?_
             rintro e w' ⟨rfl, ⟨nd, rfl⟩⟩
             refine ⟨_, rfl, ?_⟩
             refine hK.out _ _ ⟨(blk_cell BK104.out 0).trans rfl, (blk_cell BK104.out 1).trans rfl, (blk_cell BK101.out 0).trans rfl, (blk_cell BK101.out 1).trans rfl⟩ (fun hHeld => ?_)
             clear hK K
             refine norm_ (a' := ?_) ?_ ?_
             rotate_left
             ·show Act.put _ (some 25) _ = _
              simp only [Act.put, List.setIfInBounds_toArray, List.set_cons_zero, List.set_cons_succ, i64_w, i32_w]
              rfl
             refine pure_ (i := 3) (N := some 26) (v := ?_) (a' := ?_) #[true, true, true, true, false, false, false, false, false, false, false, false, false, false, false, false, false, false] rfl rfl (any_of HT_.out (by kernel_rfl)) (fun _ _ _ h => h) (Or.inl ⟨by rfl, ?_⟩) ?_ ?_
             rotate_left
             ·intro w'
              go_simp
              with_reducible rfl
             rotate_left
             ·simp only [Act.put, List.setIfInBounds_toArray, List.set_cons_zero, List.set_cons_succ, i64_w, i32_w]
              rfl
             refine pure_ (i := 4) (N := some 27) (v := ?_) (a' := ?_) #[true, true, true, true, true, false, false, false, false, false, false, false, false, false, false, false, false, false] rfl rfl (any_of HT_.out (by kernel_rfl)) (fun _ _ _ h => h) (Or.inl ⟨by rfl, ?_⟩) ?_ ?_
             rotate_left
             ·intro w'
              go_simp
              with_reducible rfl
             rotate_left
             ·simp only [Act.put, List.setIfInBounds_toArray, List.set_cons_zero, List.set_cons_succ, i64_w, i32_w]
              rfl
             refine pure_ (i := 5) (N := some 28) (v := ?_) (a' := ?_) #[true, true, true, true, true, true, false, false, false, false, false, false, false, false, false, false, false, false] rfl rfl (any_of HT_.out (by kernel_rfl)) (fun _ _ _ h => h) (Or.inl ⟨by rfl, ?_⟩) ?_ ?_
             rotate_left
             ·intro w'
              go_simp
              with_reducible rfl
             rotate_left
             ·simp only [Act.put, List.setIfInBounds_toArray, List.set_cons_zero, List.set_cons_succ, i64_w, i32_w]
              rfl
             refine take_ (i := 6) (N := some 29) (v := ?_) (a' := ?_) #[true, true, true, true, true, true, true, false, false, false, false, false, false, false, false, false, false, false] rfl rfl (take_ofW HT_.out HW_.out (by kernel_rfl)) (fun _ _ _ h => h) (Or.inl ⟨by rfl, ?_⟩) hHeld ?_ ?_
             rotate_left
             ·rintro w' ⟨s0, s1, s2, s3⟩
              go_simp
              with_reducible rfl
             rotate_left
             ·simp only [Act.put, List.setIfInBounds_toArray, List.set_cons_zero, List.set_cons_succ, i64_w, i32_w]
              rfl
             refine one_ (i := 7) (N := some 30) #[true, true, true, true, true, true, true, true, false, false, false, false, false, false, false, false, false, false] rfl rfl (one_of HT_.out (by kernel_rfl)) (by decide) (fun K hK => ?_)
             refine goes_ Tryz.func135 (by kernel_rfl) rfl #[.string ((rd_T32 l0_1 x18_2).f1), .int .i64 4] (by rfl) rfl rfl (by (try simp only [List.map_toArray, List.map_cons, List.map_nil]); first | done | rfl | (simp only [List.length_drop, List.length_take]; rfl)) ?_
             with_reducible refine (impl_areSigns.calls ((rd_T32 l0_1 x18_2).f1) 4 true _ A15.out).mono ?_
             rintro e w26 ⟨rfl, hb⟩
             refine ⟨_, rfl, ?_⟩
             have n0_ := Aside0.mk (blk_below (g := gb101) (o := .cells #[.string a0_0, .slice (some ad103) l0_1.length c0_1] 25 (0, 0)) (by (with_reducible repeat (first | refine blk_drewN ?_ _ | refine blk_drew ?_ | refine blk_alloc ?_ _)); exact BK101.out) hb)
             have n1_ := Aside0.mk (blk_below (g := gb104) (o := .cells #[.string ((rd_T32 l0_1 x18_2).f0), .string ((rd_T32 l0_1 x18_2).f1)] 32 (0, 0)) (by (with_reducible repeat (first | refine blk_drewN ?_ _ | refine blk_drew ?_ | refine blk_alloc ?_ _)); exact BK104.out) hb)
             have n2_ := Aside0.mk (below_step (by repeat (first | (with_reducible first | exact HB.out | apply below_alloc | apply pw_below_drewN | apply below_drew1 | refine below_set ?_ GE101.out | refine below_set ?_ GE104.out) | exact HB.out)) hb)
             clear BK101
             clear BK104
             clear HB
             have BK101 := n0_
             have BK104 := n1_
             have HB := n2_
             clear n0_ n1_ n2_
             (try clear hb)
             (try clear hb2)
             (try clear hk)
             (try clear hi)
             have q27 : (x18_2 : Int) ≤ ((l0_1.length : Int) : Int) := of_decide_eq_true (by first | (with_reducible assumption) | assumption)
             obtain ⟨i027, hi027, _, hsz27, _⟩ := info_parts info32
             have hroom27 : l0_1.length ≤ c0_1 := HC0_1.out
             have hC27 : Kd.C k32 _ (some ad103) l0_1.length l0_1 := HR0_1.out
             have hcut27 := cut_to (P := Tryz.prog) 23 32 .i64 Tryz.underlying23 hi027 (some ad103) l0_1.length c0_1 x18_2 (of_decide_eq_true (by first | (with_reducible assumption) | assumption)) q27 hroom27
             have hr27 := Kd.C_take (m := (x18_2 : Int).toNat) hC27 (by omega)
             have hy27 : y107.length = (x18_2 : Int).toNat := (by rw [Ny107.out, List.length_take]; omega)
             rw [← Ny107.out] at hr27
             rw [← hy27] at hcut27
             have HR110 := Aside0.mk hr27
             have HC110 := Aside0.mk (show y107.length ≤ c0_1 from by omega)
             clear hr27 hC27 hroom27 hi027 hsz27
             have KY27 := Aside0.mk hy27
             clear hy27
             replace q27 := eq_true q27
             refine hK.out _ _ ⟨(blk_cell BK104.out 0).trans rfl, (blk_cell BK104.out 1).trans rfl, (blk_cell BK101.out 0).trans rfl, (blk_cell BK101.out 1).trans rfl⟩ (fun hHeld => ?_)
             clear hK K
             refine norm_ (a' := ?_) ?_ ?_
             rotate_left
             ·show Act.put _ (some 30) _ = _
              simp only [Act.put, List.setIfInBounds_toArray, List.set_cons_zero, List.set_cons_succ, i64_w, i32_w]
              rfl
             refine pure_ (i := 8) (N := some 31) (v := ?_) (a' := ?_) #[true, true, true, true, true, true, true, true, true, false, false, false, false, false, false, false, false, false] rfl rfl (any_of HT_.out (by kernel_rfl)) (fun _ _ _ h => h) (Or.inl ⟨by rfl, ?_⟩) ?_ ?_
             rotate_left
             ·intro w'
              go_simp
              with_reducible rfl
             rotate_left
             ·simp only [Act.put, List.setIfInBounds_toArray, List.set_cons_zero, List.set_cons_succ, i64_w, i32_w]
              rfl
             refine pure_ (i := 9) (N := some 32) (v := ?_) (a' := ?_) #[true, true, true, true, true, true, true, true, true, true, false, false, false, false, false, false, false, false] rfl rfl (any_of HT_.out (by kernel_rfl)) (fun _ _ _ h => h) (Or.inl ⟨by rfl, ?_⟩) ?_ ?_
             rotate_left
             ·intro w'
              go_simp
              with_reducible rfl
             rotate_left
             ·simp only [Act.put, List.setIfInBounds_toArray, List.set_cons_zero, List.set_cons_succ, i64_w, i32_w]
              rfl
             refine pure_ (i := 10) (N := some 33) (v := ?_) (a' := ?_) #[true, true, true, true, true, true, true, true, true, true, true, false, false, false, false, false, false, false] rfl rfl (any_of HT_.out (by kernel_rfl)) (fun _ _ _ h => h) (Or.inl ⟨by rfl, ?_⟩) ?_ ?_
             rotate_left
             ·intro w'
              go_simp
              with_reducible rfl
             rotate_left
             ·simp only [Act.put, List.setIfInBounds_toArray, List.set_cons_zero, List.set_cons_succ, i64_w, i32_w]
              rfl
             refine pure_ (i := 11) (N := some 34) (v := ?_) (a' := ?_) #[true, true, true, true, true, true, true, true, true, true, true, true, false, false, false, false, false, false] rfl rfl (any_of HT_.out (by kernel_rfl)) (fun _ _ _ h => h) (Or.inl ⟨by rfl, ?_⟩) ?_ ?_
             rotate_left
             ·intro w'
              go_simp
              with_reducible rfl
             rotate_left
             ·simp only [Act.put, List.setIfInBounds_toArray, List.set_cons_zero, List.set_cons_succ, i64_w, i32_w]
              rfl
             refine pure_ (i := 13) (N := some 36) (v := ?_) (a' := ?_) #[true, true, true, true, true, true, true, true, true, true, true, true, false, true, false, false, false, false] rfl rfl (any_of HT_.out (by kernel_rfl)) (fun _ _ _ h => h) (Or.inl ⟨by rfl, ?_⟩) ?_ ?_
             rotate_left
             ·intro w'
              go_simp
              with_reducible rfl
             rotate_left
             ·simp only [Act.put, List.setIfInBounds_toArray, List.set_cons_zero, List.set_cons_succ, i64_w, i32_w]
              rfl
             refine take_ (i := 12) (N := some 35) (v := ?_) (a' := ?_) #[true, true, true, true, true, true, true, true, true, true, true, true, true, true, false, false, false, false] rfl rfl (take_ofW HT_.out HW_.out (by kernel_rfl)) (fun _ _ _ h => h) (Or.inl ⟨by rfl, ?_⟩) hHeld ?_ ?_
             rotate_left
             ·rintro w' ⟨s0, s1, s2, s3⟩
              go_simp
              with_reducible rfl
             rotate_left
             ·simp only [Act.put, List.setIfInBounds_toArray, List.set_cons_zero, List.set_cons_succ, i64_w, i32_w]
              rfl
             refine pure_ (i := 14) (N := some 37) (v := ?_) (a' := ?_) #[true, true, true, true, true, true, true, true, true, true, true, true, true, true, true, false, false, false] rfl rfl (any_of HT_.out (by kernel_rfl)) (fun _ _ _ h => h) (Or.inl ⟨by rfl, ?_⟩) ?_ ?_
             rotate_left
             ·intro w'
              go_simp
              with_reducible rfl
             rotate_left
             ·simp only [Act.put, List.setIfInBounds_toArray, List.set_cons_zero, List.set_cons_succ, i64_w, i32_w]
              rfl
             refine take_ (i := 15) (N := some 38) (v := ?_) (a' := ?_) #[true, true, true, true, true, true, true, true, true, true, true, true, true, true, true, true, false, false] rfl rfl (take_ofW HT_.out HW_.out (by kernel_rfl)) (fun _ _ _ h => h) (Or.inl ⟨by rfl, ?_⟩) hHeld ?_ ?_
             rotate_left
             ·rintro w' ⟨s0, s1, s2, s3⟩
              go_simp
              with_reducible rfl
             rotate_left
             ·simp only [Act.put, List.setIfInBounds_toArray, List.set_cons_zero, List.set_cons_succ, i64_w, i32_w]
              rfl
             refine one_ (i := 16) (N := some 39) #[true, true, true, true, true, true, true, true, true, true, true, true, true, true, true, true, true, false] rfl rfl (one_of HT_.out (by kernel_rfl)) (by decide) (fun K hK => ?_)
             refine goes_ Tryz.func136 (by kernel_rfl) rfl #[.slice (some ad103) y107.length c0_1, .agg #[.string ((rd_T32 l0_1 x18_2).f0), .string ((rd_T32 l0_1 x18_2).f1)]] (by rfl) rfl rfl (by (try simp only [List.map_toArray, List.map_cons, List.map_nil]); first | done | rfl | (simp only [List.length_drop, List.length_take]; rfl)) ?_
             with_reducible refine (impl_Rule_136.calls k2 _ _ y107 ((rd_T32 l0_1 x18_2).f0) ((rd_T32 l0_1 x18_2).f1) true _ ?side1 ?side2 A19.out).mono ?_
             (case side1 => repeat (first | exact (Kd.C_below HR110.out HB.out) | (with_reducible refine Kd.C_alloc ?_ _) | (with_reducible refine Kd.C_drewN ?_ _) | (with_reducible refine Kd.C_drew ?_)))
             (case side2 => exact HC110.out)
             rintro e w28 ⟨rfl, hb⟩
             refine ⟨_, rfl, ?_⟩
             have n0_ := Aside0.mk (blk_below (g := gb101) (o := .cells #[.string a0_0, .slice (some ad103) l0_1.length c0_1] 25 (0, 0)) (by (with_reducible repeat (first | refine blk_drewN ?_ _ | refine blk_drew ?_ | refine blk_alloc ?_ _)); exact BK101.out) hb)
             have n1_ := Aside0.mk (blk_below (g := gb104) (o := .cells #[.string ((rd_T32 l0_1 x18_2).f0), .string ((rd_T32 l0_1 x18_2).f1)] 32 (0, 0)) (by (with_reducible repeat (first | refine blk_drewN ?_ _ | refine blk_drew ?_ | refine blk_alloc ?_ _)); exact BK104.out) hb)
             have n2_ := Aside0.mk (below_step (by repeat (first | (with_reducible first | exact HB.out | apply below_alloc | apply pw_below_drewN | apply below_drew1 | refine below_set ?_ GE101.out | refine below_set ?_ GE104.out) | exact HB.out)) hb)
             clear BK101
             clear BK104
             clear HB
             have BK101 := n0_
             have BK104 := n1_
             have HB := n2_
             clear n0_ n1_ n2_
             (try clear hb)
             (try clear hb2)
             (try clear hk)
             (try clear hi)
             refine hK.out _ _ ⟨(blk_cell BK104.out 0).trans rfl, (blk_cell BK104.out 1).trans rfl, (blk_cell BK101.out 0).trans rfl, (blk_cell BK101.out 1).trans rfl⟩ (fun hHeld => ?_)
             clear hK K
             refine norm_ (a' := ?_) ?_ ?_
             rotate_left
             ·show Act.put _ (some 39) _ = _
              simp only [Act.put, List.setIfInBounds_toArray, List.set_cons_zero, List.set_cons_succ, i64_w, i32_w]
              rfl
             refine pure_ (i := 17) (N := some 40) (v := ?_) (a' := ?_) #[true, true, true, true, true, true, true, true, true, true, true, true, true, true, true, true, true, true] rfl rfl (any_of HT_.out (by kernel_rfl)) (fun _ _ _ h => h) (Or.inl ⟨by rfl, ?_⟩) ?_ ?_
             rotate_left
             ·intro w'
              go_simp
              with_reducible rfl
             rotate_left
             ·simp only [Act.put, List.setIfInBounds_toArray, List.set_cons_zero, List.set_cons_succ, i64_w, i32_w]
              rfl
             refine done_ (done_of HT_.out (by kernel_rfl)) ?_
             try go_wp2
             go_ret
             exact ⟨by first | rfl | (simp [errW_none, errW_some] <;> rfl) | (simp [*, errW_none, errW_some] <;> rfl), by repeat (first | (with_reducible first | exact HB.out | apply below_alloc | apply pw_below_drewN | apply below_drew1 | refine below_set ?_ GE101.out | refine below_set ?_ GE104.out) | exact HB.out)⟩
            ·replace c20 := Bool.eq_false_iff.mpr c20
             subst c20
             have H1 : (impl_GramOk.l0 k2 l0_1 (l0_1.length : Int) (wrap64 (x18_2 + 1)) a0_0 l0_1) = some r := by rw [if_neg (show ¬ (false = true) by decide)] at H; exact H
             clear H
             have H := H1
             clear H1
             have H' := Aside0.mk H
             clear H
             have p103 : 0 ≤ (x18_2 : Int) := of_decide_eq_true (by first | (with_reducible assumption) | assumption)
             have q103 : x18_2 < (l0_1.length : Int) := of_decide_eq_true (by first | (with_reducible assumption) | assumption)
             obtain ⟨ad103, e103, hx103_0, hx103_1⟩ := at_T32 HR0_1.out x18_2 p103 q103
             cases e103
             replace hx103_0 := (HB.out.cell (World.block_lt_of_cell? w _ hx103_0)).trans hx103_0
             replace hx103_1 := (HB.out.cell (World.block_lt_of_cell? w _ hx103_1)).trans hx103_1
             replace p103 := eq_true p103
             replace q103 := eq_true q103
             try go_wp2_with (first | ((with_reducible refine gate_dst (N := 4) rfl ?_); (try (refine gate_guard (by rfl) ?_; dsimp only)); refine box_event ?hg (N := 4) ?hd (cs := #[.string (⟨#[]⟩ : ByteArray), .string (⟨#[]⟩ : ByteArray)]) (t := 32) ?hr ?_; (case hd => rfl); (case hg => rfl); (case hr => first | (go_simp; done) | (go_simp; rfl)); intro gb104 hg w29 hbox hb; have n0_ := Aside0.mk (blk_below (g := gb101) (o := .cells #[.string a0_0, .slice (some ad103) l0_1.length c0_1] 25 (0, 0)) (by (with_reducible repeat (first | refine blk_drewN ?_ _ | refine blk_drew ?_ | refine blk_alloc ?_ _)); exact BK101.out) hb); have n1_ := Aside0.mk (below_step (by repeat (first | (with_reducible first | exact HB.out | apply below_alloc | apply pw_below_drewN | apply below_drew1 | refine below_set ?_ GE101.out) | exact HB.out)) hb); have n2_ := Aside0.mk (hbox); have n3_ := Aside0.mk ((by rw [hg]; exact (below_size (by repeat (first | (with_reducible first | exact HB.out | apply below_alloc | apply pw_below_drewN | apply below_drew1 | refine below_set ?_ GE101.out) | exact HB.out))) : w.heap.size ≤ gb104)); have n4_ := Aside0.mk ((by rw [hg]; exact (below_size (by repeat (first | (with_reducible first | exact HB.out | apply below_alloc | apply pw_below_drewN | apply below_drew1 | refine below_set ?_ GE101.out) | exact HB.out))) : w.heap.size ≤ gb104)); have n5_ := Aside0.mk ((by rw [hg]; exact Nat.ne_of_lt (blk_lt (g := gb101) (o := .cells #[.string a0_0, .slice (some ad103) l0_1.length c0_1] 25 (0, 0)) (by (with_reducible repeat (first | refine blk_drewN ?_ _ | refine blk_drew ?_ | refine blk_alloc ?_ _)); exact BK101.out)) : gb101 ≠ gb104)); have n6_ := Aside0.mk ((by rw [hg]; exact Nat.ne_of_gt (blk_lt (g := gb101) (o := .cells #[.string a0_0, .slice (some ad103) l0_1.length c0_1] 25 (0, 0)) (by (with_reducible repeat (first | refine blk_drewN ?_ _ | refine blk_drew ?_ | refine blk_alloc ?_ _)); exact BK101.out)) : gb104 ≠ gb101)); clear BK101; clear HB; have BK101 := n0_; have HB := n1_; have BK104 := n2_; have GW104 := n3_; have GE104 := n4_; have NB101_104 := n5_; have NB104_101 := n6_; clear n0_ n1_ n2_ n3_ n4_ n5_ n6_; clear hb hbox hg; have hnb30 := NB104_101.out; have hnc30 := NB101_104.out; have hcz31_0 : w29.cell? ⟨gb104, 0, none⟩ = some (.string (⟨#[]⟩ : ByteArray)) := (blk_cell BK104.out 0).trans rfl; have hcz31_1 : w29.cell? ⟨gb104, 1, none⟩ = some (.string (⟨#[]⟩ : ByteArray)) := (blk_cell BK104.out 1).trans rfl; have hfz31_0 := blk_frozen BK104.out 0; have hfz31_1 := blk_frozen BK104.out 1))
             have n0_ : Aside0 (((w29.setCell ⟨gb104, 0, none⟩ (.string ((rd_T32 l0_1 x18_2).f0))).setCell ⟨gb104, 1, none⟩ (.string ((rd_T32 l0_1 x18_2).f1))).heap[gb101]? = some (.cells #[.string a0_0, .slice (some ad103) l0_1.length c0_1] 25 (0, 0))) := ⟨by (with_reducible repeat (first | refine blk_drewN ?_ _ | refine blk_drew ?_ | refine blk_alloc ?_ _)); refine blk_far ?_ NB101_104.out _; (with_reducible repeat (first | refine blk_drewN ?_ _ | refine blk_drew ?_ | refine blk_alloc ?_ _)); refine blk_far ?_ NB101_104.out _; (with_reducible repeat (first | refine blk_drewN ?_ _ | refine blk_drew ?_ | refine blk_alloc ?_ _)); exact BK101.out⟩
             have n1_ : Aside0 (((w29.setCell ⟨gb104, 0, none⟩ (.string ((rd_T32 l0_1 x18_2).f0))).setCell ⟨gb104, 1, none⟩ (.string ((rd_T32 l0_1 x18_2).f1))).heap[gb104]? = some (.cells #[.string ((rd_T32 l0_1 x18_2).f0), .string ((rd_T32 l0_1 x18_2).f1)] 32 (0, 0))) := ⟨by (with_reducible repeat (first | refine blk_drewN ?_ _ | refine blk_drew ?_ | refine blk_alloc ?_ _)); refine blk_put (cs := #[.string ((rd_T32 l0_1 x18_2).f0), .string (⟨#[]⟩ : ByteArray)]) ?_ 1 _ rfl; (with_reducible repeat (first | refine blk_drewN ?_ _ | refine blk_drew ?_ | refine blk_alloc ?_ _)); refine blk_put (cs := #[.string (⟨#[]⟩ : ByteArray), .string (⟨#[]⟩ : ByteArray)]) ?_ 0 _ rfl; (with_reducible repeat (first | refine blk_drewN ?_ _ | refine blk_drew ?_ | refine blk_alloc ?_ _)); exact BK104.out⟩
             have n2_ : Aside0 (Below w.heap.size w ((w29.setCell ⟨gb104, 0, none⟩ (.string ((rd_T32 l0_1 x18_2).f0))).setCell ⟨gb104, 1, none⟩ (.string ((rd_T32 l0_1 x18_2).f1)))) := ⟨by repeat (first | (with_reducible first | exact HB.out | apply below_alloc | apply pw_below_drewN | apply below_drew1 | refine below_set ?_ GE101.out | refine below_set ?_ GE104.out) | exact HB.out)⟩
             (try clear BK101)
             (try clear BK104)
             (try clear HB)
             generalize ((w29.setCell ⟨gb104, 0, none⟩ (.string ((rd_T32 l0_1 x18_2).f0))).setCell ⟨gb104, 1, none⟩ (.string ((rd_T32 l0_1 x18_2).f1))) = w32 at n0_ n1_ n2_ ⊢
             have BK101 := n0_
             have BK104 := n1_
             have HB := n2_
             clear n0_ n1_ n2_
             have n0_ := Aside0.mk (blk_drew BK101.out)
             have n1_ := Aside0.mk (blk_drew BK104.out)
             have n2_ := Aside0.mk (below_drew1 HB.out)
             clear BK101
             clear BK104
             clear HB
             have BK101 := n0_
             have BK104 := n1_
             have HB := n2_
             clear n0_ n1_ n2_
             refine start_ (n := 18) (S := fun w' => w'.cell? ⟨gb104, 0, none⟩ = some (.string ((rd_T32 l0_1 x18_2).f0)) ∧ w'.cell? ⟨gb104, 1, none⟩ = some (.string ((rd_T32 l0_1 x18_2).f1)) ∧ w'.cell? ⟨gb101, 0, none⟩ = some (.string a0_0) ∧ w'.cell? ⟨gb101, 1, none⟩ = some (.slice (some ad103) l0_1.length c0_1)) (ds := []) #[false, false, false, false, false, false, false, false, false, false, false, false, false, false, false, false, false, false] (by kernel_rfl) rfl rfl ⟨(blk_cell BK104.out 0).trans rfl, (blk_cell BK104.out 1).trans rfl, (blk_cell BK101.out 0).trans rfl, (blk_cell BK101.out 1).trans rfl⟩ (fun hHeld => ?_); refine with_tabW impl_GramOk.tab6 impl_GramOk.bits6 (fun HT_ HW_ => ?_)
             generalize w32.drew = w33 at BK101 BK104 HB hHeld ⊢
             refine pure_ (i := 0) (N := some 23) (v := ?_) (a' := ?_) #[true, false, false, false, false, false, false, false, false, false, false, false, false, false, false, false, false, false] rfl rfl (any_of HT_.out (by kernel_rfl)) (fun _ _ _ h => h) (Or.inl ⟨by rfl, ?_⟩) ?_ ?_
             rotate_left
             ·intro w'
              go_simp
              with_reducible rfl
             rotate_left
             ·simp only [Act.put, List.setIfInBounds_toArray, List.set_cons_zero, List.set_cons_succ, i64_w, i32_w]
              rfl
             refine take_ (i := 1) (N := some 24) (v := ?_) (a' := ?_) #[true, true, false, false, false, false, false, false, false, false, false, false, false, false, false, false, false, false] rfl rfl (take_ofW HT_.out HW_.out (by kernel_rfl)) (fun _ _ _ h => h) (Or.inl ⟨by rfl, ?_⟩) hHeld ?_ ?_
             rotate_left
             ·rintro w' ⟨s0, s1, s2, s3⟩
              go_simp
              with_reducible rfl
             rotate_left
             ·simp only [Act.put, List.setIfInBounds_toArray, List.set_cons_zero, List.set_cons_succ, i64_w, i32_w]
              rfl
             refine one_ (i := 2) (N := some 25) #[true, true, true, false, false, false, false, false, false, false, false, false, false, false, false, false, false, false] rfl rfl (one_of HT_.out (by kernel_rfl)) (by decide) (fun K hK => ?_)
             refine goes_ Tryz.func21 (by kernel_rfl) rfl #[.string ((rd_T32 l0_1 x18_2).f0)] (by rfl) rfl rfl (by (try simp only [List.map_toArray, List.map_cons, List.map_nil]); first | done | rfl | (simp only [List.length_drop, List.length_take]; rfl)) ?_
             with_reducible refine (impl_SignBig.calls ((rd_T32 l0_1 x18_2).f0) true _ A13.out).mono ?_
             rintro e w' ⟨rfl, ⟨nd, rfl⟩⟩
             refine ⟨_, rfl, ?_⟩
             refine hK.out _ _ ⟨(blk_cell BK104.out 0).trans rfl, (blk_cell BK104.out 1).trans rfl, (blk_cell BK101.out 0).trans rfl, (blk_cell BK101.out 1).trans rfl⟩ (fun hHeld => ?_)
             clear hK K
             refine norm_ (a' := ?_) ?_ ?_
             rotate_left
             ·show Act.put _ (some 25) _ = _
              simp only [Act.put, List.setIfInBounds_toArray, List.set_cons_zero, List.set_cons_succ, i64_w, i32_w]
              rfl
             refine pure_ (i := 3) (N := some 26) (v := ?_) (a' := ?_) #[true, true, true, true, false, false, false, false, false, false, false, false, false, false, false, false, false, false] rfl rfl (any_of HT_.out (by kernel_rfl)) (fun _ _ _ h => h) (Or.inl ⟨by rfl, ?_⟩) ?_ ?_
             rotate_left
             ·intro w'
              go_simp
              with_reducible rfl
             rotate_left
             ·simp only [Act.put, List.setIfInBounds_toArray, List.set_cons_zero, List.set_cons_succ, i64_w, i32_w]
              rfl
             refine pure_ (i := 4) (N := some 27) (v := ?_) (a' := ?_) #[true, true, true, true, true, false, false, false, false, false, false, false, false, false, false, false, false, false] rfl rfl (any_of HT_.out (by kernel_rfl)) (fun _ _ _ h => h) (Or.inl ⟨by rfl, ?_⟩) ?_ ?_
             rotate_left
             ·intro w'
              go_simp
              with_reducible rfl
             rotate_left
             ·simp only [Act.put, List.setIfInBounds_toArray, List.set_cons_zero, List.set_cons_succ, i64_w, i32_w]
              rfl
             refine pure_ (i := 5) (N := some 28) (v := ?_) (a' := ?_) #[true, true, true, true, true, true, false, false, false, false, false, false, false, false, false, false, false, false] rfl rfl (any_of HT_.out (by kernel_rfl)) (fun _ _ _ h => h) (Or.inl ⟨by rfl, ?_⟩) ?_ ?_
             rotate_left
             ·intro w'
              go_simp
              with_reducible rfl
             rotate_left
             ·simp only [Act.put, List.setIfInBounds_toArray, List.set_cons_zero, List.set_cons_succ, i64_w, i32_w]
              rfl
             refine take_ (i := 6) (N := some 29) (v := ?_) (a' := ?_) #[true, true, true, true, true, true, true, false, false, false, false, false, false, false, false, false, false, false] rfl rfl (take_ofW HT_.out HW_.out (by kernel_rfl)) (fun _ _ _ h => h) (Or.inl ⟨by rfl, ?_⟩) hHeld ?_ ?_
             rotate_left
             ·rintro w' ⟨s0, s1, s2, s3⟩
              go_simp
              with_reducible rfl
             rotate_left
             ·simp only [Act.put, List.setIfInBounds_toArray, List.set_cons_zero, List.set_cons_succ, i64_w, i32_w]
              rfl
             refine one_ (i := 7) (N := some 30) #[true, true, true, true, true, true, true, true, false, false, false, false, false, false, false, false, false, false] rfl rfl (one_of HT_.out (by kernel_rfl)) (by decide) (fun K hK => ?_)
             refine goes_ Tryz.func135 (by kernel_rfl) rfl #[.string ((rd_T32 l0_1 x18_2).f1), .int .i64 4] (by rfl) rfl rfl (by (try simp only [List.map_toArray, List.map_cons, List.map_nil]); first | done | rfl | (simp only [List.length_drop, List.length_take]; rfl)) ?_
             with_reducible refine (impl_areSigns.calls ((rd_T32 l0_1 x18_2).f1) 4 true _ A15.out).mono ?_
             rintro e w34 ⟨rfl, hb⟩
             refine ⟨_, rfl, ?_⟩
             have n0_ := Aside0.mk (blk_below (g := gb101) (o := .cells #[.string a0_0, .slice (some ad103) l0_1.length c0_1] 25 (0, 0)) (by (with_reducible repeat (first | refine blk_drewN ?_ _ | refine blk_drew ?_ | refine blk_alloc ?_ _)); exact BK101.out) hb)
             have n1_ := Aside0.mk (blk_below (g := gb104) (o := .cells #[.string ((rd_T32 l0_1 x18_2).f0), .string ((rd_T32 l0_1 x18_2).f1)] 32 (0, 0)) (by (with_reducible repeat (first | refine blk_drewN ?_ _ | refine blk_drew ?_ | refine blk_alloc ?_ _)); exact BK104.out) hb)
             have n2_ := Aside0.mk (below_step (by repeat (first | (with_reducible first | exact HB.out | apply below_alloc | apply pw_below_drewN | apply below_drew1 | refine below_set ?_ GE101.out | refine below_set ?_ GE104.out) | exact HB.out)) hb)
             clear BK101
             clear BK104
             clear HB
             have BK101 := n0_
             have BK104 := n1_
             have HB := n2_
             clear n0_ n1_ n2_
             (try clear hb)
             (try clear hb2)
             (try clear hk)
             (try clear hi)
             have q35 : (x18_2 : Int) ≤ ((l0_1.length : Int) : Int) := of_decide_eq_true (by first | (with_reducible assumption) | assumption)
             obtain ⟨i035, hi035, _, hsz35, _⟩ := info_parts info32
             have hroom35 : l0_1.length ≤ c0_1 := HC0_1.out
             have hC35 : Kd.C k32 _ (some ad103) l0_1.length l0_1 := HR0_1.out
             have hcut35 := cut_to (P := Tryz.prog) 23 32 .i64 Tryz.underlying23 hi035 (some ad103) l0_1.length c0_1 x18_2 (of_decide_eq_true (by first | (with_reducible assumption) | assumption)) q35 hroom35
             have hr35 := Kd.C_take (m := (x18_2 : Int).toNat) hC35 (by omega)
             have hy35 : y107.length = (x18_2 : Int).toNat := (by rw [Ny107.out, List.length_take]; omega)
             rw [← Ny107.out] at hr35
             rw [← hy35] at hcut35
             have HR110 := Aside0.mk hr35
             have HC110 := Aside0.mk (show y107.length ≤ c0_1 from by omega)
             clear hr35 hC35 hroom35 hi035 hsz35
             have KY35 := Aside0.mk hy35
             clear hy35
             replace q35 := eq_true q35
             refine hK.out _ _ ⟨(blk_cell BK104.out 0).trans rfl, (blk_cell BK104.out 1).trans rfl, (blk_cell BK101.out 0).trans rfl, (blk_cell BK101.out 1).trans rfl⟩ (fun hHeld => ?_)
             clear hK K
             refine norm_ (a' := ?_) ?_ ?_
             rotate_left
             ·show Act.put _ (some 30) _ = _
              simp only [Act.put, List.setIfInBounds_toArray, List.set_cons_zero, List.set_cons_succ, i64_w, i32_w]
              rfl
             refine pure_ (i := 8) (N := some 31) (v := ?_) (a' := ?_) #[true, true, true, true, true, true, true, true, true, false, false, false, false, false, false, false, false, false] rfl rfl (any_of HT_.out (by kernel_rfl)) (fun _ _ _ h => h) (Or.inl ⟨by rfl, ?_⟩) ?_ ?_
             rotate_left
             ·intro w'
              go_simp
              with_reducible rfl
             rotate_left
             ·simp only [Act.put, List.setIfInBounds_toArray, List.set_cons_zero, List.set_cons_succ, i64_w, i32_w]
              rfl
             refine pure_ (i := 9) (N := some 32) (v := ?_) (a' := ?_) #[true, true, true, true, true, true, true, true, true, true, false, false, false, false, false, false, false, false] rfl rfl (any_of HT_.out (by kernel_rfl)) (fun _ _ _ h => h) (Or.inl ⟨by rfl, ?_⟩) ?_ ?_
             rotate_left
             ·intro w'
              go_simp
              with_reducible rfl
             rotate_left
             ·simp only [Act.put, List.setIfInBounds_toArray, List.set_cons_zero, List.set_cons_succ, i64_w, i32_w]
              rfl
             refine pure_ (i := 10) (N := some 33) (v := ?_) (a' := ?_) #[true, true, true, true, true, true, true, true, true, true, true, false, false, false, false, false, false, false] rfl rfl (any_of HT_.out (by kernel_rfl)) (fun _ _ _ h => h) (Or.inl ⟨by rfl, ?_⟩) ?_ ?_
             rotate_left
             ·intro w'
              go_simp
              with_reducible rfl
             rotate_left
             ·simp only [Act.put, List.setIfInBounds_toArray, List.set_cons_zero, List.set_cons_succ, i64_w, i32_w]
              rfl
             refine pure_ (i := 11) (N := some 34) (v := ?_) (a' := ?_) #[true, true, true, true, true, true, true, true, true, true, true, true, false, false, false, false, false, false] rfl rfl (any_of HT_.out (by kernel_rfl)) (fun _ _ _ h => h) (Or.inl ⟨by rfl, ?_⟩) ?_ ?_
             rotate_left
             ·intro w'
              go_simp
              with_reducible rfl
             rotate_left
             ·simp only [Act.put, List.setIfInBounds_toArray, List.set_cons_zero, List.set_cons_succ, i64_w, i32_w]
              rfl
             refine pure_ (i := 13) (N := some 36) (v := ?_) (a' := ?_) #[true, true, true, true, true, true, true, true, true, true, true, true, false, true, false, false, false, false] rfl rfl (any_of HT_.out (by kernel_rfl)) (fun _ _ _ h => h) (Or.inl ⟨by rfl, ?_⟩) ?_ ?_
             rotate_left
             ·intro w'
              go_simp
              with_reducible rfl
             rotate_left
             ·simp only [Act.put, List.setIfInBounds_toArray, List.set_cons_zero, List.set_cons_succ, i64_w, i32_w]
              rfl
             refine take_ (i := 12) (N := some 35) (v := ?_) (a' := ?_) #[true, true, true, true, true, true, true, true, true, true, true, true, true, true, false, false, false, false] rfl rfl (take_ofW HT_.out HW_.out (by kernel_rfl)) (fun _ _ _ h => h) (Or.inl ⟨by rfl, ?_⟩) hHeld ?_ ?_
             rotate_left
             ·rintro w' ⟨s0, s1, s2, s3⟩
              go_simp
              with_reducible rfl
             rotate_left
             ·simp only [Act.put, List.setIfInBounds_toArray, List.set_cons_zero, List.set_cons_succ, i64_w, i32_w]
              rfl
             refine pure_ (i := 14) (N := some 37) (v := ?_) (a' := ?_) #[true, true, true, true, true, true, true, true, true, true, true, true, true, true, true, false, false, false] rfl rfl (any_of HT_.out (by kernel_rfl)) (fun _ _ _ h => h) (Or.inl ⟨by rfl, ?_⟩) ?_ ?_
             rotate_left
             ·intro w'
              go_simp
              with_reducible rfl
             rotate_left
             ·simp only [Act.put, List.setIfInBounds_toArray, List.set_cons_zero, List.set_cons_succ, i64_w, i32_w]
              rfl
             refine take_ (i := 15) (N := some 38) (v := ?_) (a' := ?_) #[true, true, true, true, true, true, true, true, true, true, true, true, true, true, true, true, false, false] rfl rfl (take_ofW HT_.out HW_.out (by kernel_rfl)) (fun _ _ _ h => h) (Or.inl ⟨by rfl, ?_⟩) hHeld ?_ ?_
             rotate_left
             ·rintro w' ⟨s0, s1, s2, s3⟩
              go_simp
              with_reducible rfl
             rotate_left
             ·simp only [Act.put, List.setIfInBounds_toArray, List.set_cons_zero, List.set_cons_succ, i64_w, i32_w]
              rfl
             refine one_ (i := 16) (N := some 39) #[true, true, true, true, true, true, true, true, true, true, true, true, true, true, true, true, true, false] rfl rfl (one_of HT_.out (by kernel_rfl)) (by decide) (fun K hK => ?_)
             refine goes_ Tryz.func136 (by kernel_rfl) rfl #[.slice (some ad103) y107.length c0_1, .agg #[.string ((rd_T32 l0_1 x18_2).f0), .string ((rd_T32 l0_1 x18_2).f1)]] (by rfl) rfl rfl (by (try simp only [List.map_toArray, List.map_cons, List.map_nil]); first | done | rfl | (simp only [List.length_drop, List.length_take]; rfl)) ?_
             with_reducible refine (impl_Rule_136.calls k2 _ _ y107 ((rd_T32 l0_1 x18_2).f0) ((rd_T32 l0_1 x18_2).f1) false _ ?side1 ?side2 A19.out).mono ?_
             (case side1 => repeat (first | exact (Kd.C_below HR110.out HB.out) | (with_reducible refine Kd.C_alloc ?_ _) | (with_reducible refine Kd.C_drewN ?_ _) | (with_reducible refine Kd.C_drew ?_)))
             (case side2 => exact HC110.out)
             rintro e w36 ⟨rfl, hb⟩
             refine ⟨_, rfl, ?_⟩
             have n0_ := Aside0.mk (blk_below (g := gb101) (o := .cells #[.string a0_0, .slice (some ad103) l0_1.length c0_1] 25 (0, 0)) (by (with_reducible repeat (first | refine blk_drewN ?_ _ | refine blk_drew ?_ | refine blk_alloc ?_ _)); exact BK101.out) hb)
             have n1_ := Aside0.mk (blk_below (g := gb104) (o := .cells #[.string ((rd_T32 l0_1 x18_2).f0), .string ((rd_T32 l0_1 x18_2).f1)] 32 (0, 0)) (by (with_reducible repeat (first | refine blk_drewN ?_ _ | refine blk_drew ?_ | refine blk_alloc ?_ _)); exact BK104.out) hb)
             have n2_ := Aside0.mk (below_step (by repeat (first | (with_reducible first | exact HB.out | apply below_alloc | apply pw_below_drewN | apply below_drew1 | refine below_set ?_ GE101.out | refine below_set ?_ GE104.out) | exact HB.out)) hb)
             clear BK101
             clear BK104
             clear HB
             have BK101 := n0_
             have BK104 := n1_
             have HB := n2_
             clear n0_ n1_ n2_
             (try clear hb)
             (try clear hb2)
             (try clear hk)
             (try clear hi)
             refine hK.out _ _ ⟨(blk_cell BK104.out 0).trans rfl, (blk_cell BK104.out 1).trans rfl, (blk_cell BK101.out 0).trans rfl, (blk_cell BK101.out 1).trans rfl⟩ (fun hHeld => ?_)
             clear hK K
             refine norm_ (a' := ?_) ?_ ?_
             rotate_left
             ·show Act.put _ (some 39) _ = _
              simp only [Act.put, List.setIfInBounds_toArray, List.set_cons_zero, List.set_cons_succ, i64_w, i32_w]
              rfl
             refine pure_ (i := 17) (N := some 40) (v := ?_) (a' := ?_) #[true, true, true, true, true, true, true, true, true, true, true, true, true, true, true, true, true, true] rfl rfl (any_of HT_.out (by kernel_rfl)) (fun _ _ _ h => h) (Or.inl ⟨by rfl, ?_⟩) ?_ ?_
             rotate_left
             ·intro w'
              go_simp
              with_reducible rfl
             rotate_left
             ·simp only [Act.put, List.setIfInBounds_toArray, List.set_cons_zero, List.set_cons_succ, i64_w, i32_w]
              rfl
             refine done_ (done_of HT_.out (by kernel_rfl)) ?_
             try go_wp2
             go_roundg k2
             case measure => have := HJ1.out; have := HK2.out; omega
             case rel => exact ⟨(wrap64 (x18_2 + 1)), (by first | rfl | (simp; done) | (simp [*]; done)), H', ⟨by have := HJ1.out; have := HK2.out; omega⟩, ⟨by (with_reducible repeat (first | refine blk_drewN ?_ _ | refine blk_drew ?_ | refine blk_alloc ?_ _)); exact BK101.out⟩, ⟨by repeat (first | (with_reducible first | exact HB.out | apply below_alloc | apply pw_below_drewN | apply below_drew1 | refine below_set ?_ GE101.out | refine below_set ?_ GE104.out) | exact HB.out)⟩⟩
           ·rw [if_neg c18] at H
            exact absurd H (by simp)
          ·replace c16 := Bool.eq_false_iff.mpr c16
           subst c16
           have H1 : (some false) = some r := by rw [if_neg (show ¬ (false = true) by decide)] at H; exact H
           clear H
           have H := H1
           clear H1
           obtain rfl := Option.some.inj H
           have p103 : 0 ≤ (x18_2 : Int) := of_decide_eq_true (by first | (with_reducible assumption) | assumption)
           have q103 : x18_2 < (l0_1.length : Int) := of_decide_eq_true (by first | (with_reducible assumption) | assumption)
           obtain ⟨ad103, e103, hx103_0, hx103_1⟩ := at_T32 HR0_1.out x18_2 p103 q103
           cases e103
           replace hx103_0 := (HB.out.cell (World.block_lt_of_cell? w _ hx103_0)).trans hx103_0
           replace hx103_1 := (HB.out.cell (World.block_lt_of_cell? w _ hx103_1)).trans hx103_1
           replace p103 := eq_true p103
           replace q103 := eq_true q103
           try go_wp2_with (first | ((with_reducible refine gate_dst (N := 4) rfl ?_); (try (refine gate_guard (by rfl) ?_; dsimp only)); refine box_event ?hg (N := 4) ?hd (cs := #[.string (⟨#[]⟩ : ByteArray), .string (⟨#[]⟩ : ByteArray)]) (t := 32) ?hr ?_; (case hd => rfl); (case hg => rfl); (case hr => first | (go_simp; done) | (go_simp; rfl)); intro gb104 hg w37 hbox hb; have n0_ := Aside0.mk (blk_below (g := gb101) (o := .cells #[.string a0_0, .slice (some ad103) l0_1.length c0_1] 25 (0, 0)) (by (with_reducible repeat (first | refine blk_drewN ?_ _ | refine blk_drew ?_ | refine blk_alloc ?_ _)); exact BK101.out) hb); have n1_ := Aside0.mk (below_step (by repeat (first | (with_reducible first | exact HB.out | apply below_alloc | apply pw_below_drewN | apply below_drew1 | refine below_set ?_ GE101.out) | exact HB.out)) hb); have n2_ := Aside0.mk (hbox); have n3_ := Aside0.mk ((by rw [hg]; exact (below_size (by repeat (first | (with_reducible first | exact HB.out | apply below_alloc | apply pw_below_drewN | apply below_drew1 | refine below_set ?_ GE101.out) | exact HB.out))) : w.heap.size ≤ gb104)); have n4_ := Aside0.mk ((by rw [hg]; exact (below_size (by repeat (first | (with_reducible first | exact HB.out | apply below_alloc | apply pw_below_drewN | apply below_drew1 | refine below_set ?_ GE101.out) | exact HB.out))) : w.heap.size ≤ gb104)); have n5_ := Aside0.mk ((by rw [hg]; exact Nat.ne_of_lt (blk_lt (g := gb101) (o := .cells #[.string a0_0, .slice (some ad103) l0_1.length c0_1] 25 (0, 0)) (by (with_reducible repeat (first | refine blk_drewN ?_ _ | refine blk_drew ?_ | refine blk_alloc ?_ _)); exact BK101.out)) : gb101 ≠ gb104)); have n6_ := Aside0.mk ((by rw [hg]; exact Nat.ne_of_gt (blk_lt (g := gb101) (o := .cells #[.string a0_0, .slice (some ad103) l0_1.length c0_1] 25 (0, 0)) (by (with_reducible repeat (first | refine blk_drewN ?_ _ | refine blk_drew ?_ | refine blk_alloc ?_ _)); exact BK101.out)) : gb104 ≠ gb101)); clear BK101; clear HB; have BK101 := n0_; have HB := n1_; have BK104 := n2_; have GW104 := n3_; have GE104 := n4_; have NB101_104 := n5_; have NB104_101 := n6_; clear n0_ n1_ n2_ n3_ n4_ n5_ n6_; clear hb hbox hg; have hnb38 := NB104_101.out; have hnc38 := NB101_104.out; have hcz39_0 : w37.cell? ⟨gb104, 0, none⟩ = some (.string (⟨#[]⟩ : ByteArray)) := (blk_cell BK104.out 0).trans rfl; have hcz39_1 : w37.cell? ⟨gb104, 1, none⟩ = some (.string (⟨#[]⟩ : ByteArray)) := (blk_cell BK104.out 1).trans rfl; have hfz39_0 := blk_frozen BK104.out 0; have hfz39_1 := blk_frozen BK104.out 1))
           have n0_ : Aside0 (((w37.setCell ⟨gb104, 0, none⟩ (.string ((rd_T32 l0_1 x18_2).f0))).setCell ⟨gb104, 1, none⟩ (.string ((rd_T32 l0_1 x18_2).f1))).heap[gb101]? = some (.cells #[.string a0_0, .slice (some ad103) l0_1.length c0_1] 25 (0, 0))) := ⟨by (with_reducible repeat (first | refine blk_drewN ?_ _ | refine blk_drew ?_ | refine blk_alloc ?_ _)); refine blk_far ?_ NB101_104.out _; (with_reducible repeat (first | refine blk_drewN ?_ _ | refine blk_drew ?_ | refine blk_alloc ?_ _)); refine blk_far ?_ NB101_104.out _; (with_reducible repeat (first | refine blk_drewN ?_ _ | refine blk_drew ?_ | refine blk_alloc ?_ _)); exact BK101.out⟩
           have n1_ : Aside0 (((w37.setCell ⟨gb104, 0, none⟩ (.string ((rd_T32 l0_1 x18_2).f0))).setCell ⟨gb104, 1, none⟩ (.string ((rd_T32 l0_1 x18_2).f1))).heap[gb104]? = some (.cells #[.string ((rd_T32 l0_1 x18_2).f0), .string ((rd_T32 l0_1 x18_2).f1)] 32 (0, 0))) := ⟨by (with_reducible repeat (first | refine blk_drewN ?_ _ | refine blk_drew ?_ | refine blk_alloc ?_ _)); refine blk_put (cs := #[.string ((rd_T32 l0_1 x18_2).f0), .string (⟨#[]⟩ : ByteArray)]) ?_ 1 _ rfl; (with_reducible repeat (first | refine blk_drewN ?_ _ | refine blk_drew ?_ | refine blk_alloc ?_ _)); refine blk_put (cs := #[.string (⟨#[]⟩ : ByteArray), .string (⟨#[]⟩ : ByteArray)]) ?_ 0 _ rfl; (with_reducible repeat (first | refine blk_drewN ?_ _ | refine blk_drew ?_ | refine blk_alloc ?_ _)); exact BK104.out⟩
           have n2_ : Aside0 (Below w.heap.size w ((w37.setCell ⟨gb104, 0, none⟩ (.string ((rd_T32 l0_1 x18_2).f0))).setCell ⟨gb104, 1, none⟩ (.string ((rd_T32 l0_1 x18_2).f1)))) := ⟨by repeat (first | (with_reducible first | exact HB.out | apply below_alloc | apply pw_below_drewN | apply below_drew1 | refine below_set ?_ GE101.out | refine below_set ?_ GE104.out) | exact HB.out)⟩
           (try clear BK101)
           (try clear BK104)
           (try clear HB)
           generalize ((w37.setCell ⟨gb104, 0, none⟩ (.string ((rd_T32 l0_1 x18_2).f0))).setCell ⟨gb104, 1, none⟩ (.string ((rd_T32 l0_1 x18_2).f1))) = w40 at n0_ n1_ n2_ ⊢
           have BK101 := n0_
           have BK104 := n1_
           have HB := n2_
           clear n0_ n1_ n2_
           have n0_ := Aside0.mk (blk_drew BK101.out)
           have n1_ := Aside0.mk (blk_drew BK104.out)
           have n2_ := Aside0.mk (below_drew1 HB.out)
           clear BK101
           clear BK104
           clear HB
           have BK101 := n0_
           have BK104 := n1_
           have HB := n2_
           clear n0_ n1_ n2_
           refine start_ (n := 18) (S := fun w' => w'.cell? ⟨gb104, 0, none⟩ = some (.string ((rd_T32 l0_1 x18_2).f0)) ∧ w'.cell? ⟨gb104, 1, none⟩ = some (.string ((rd_T32 l0_1 x18_2).f1))) (ds := []) #[false, false, false, false, false, false, false, false, false, false, false, false, false, false, false, false, false, false] (by kernel_rfl) rfl rfl ⟨(blk_cell BK104.out 0).trans rfl, (blk_cell BK104.out 1).trans rfl⟩ (fun hHeld => ?_); refine with_tabW impl_GramOk.tab6 impl_GramOk.bits6 (fun HT_ HW_ => ?_)
           generalize w40.drew = w41 at BK101 BK104 HB hHeld ⊢
           refine pure_ (i := 0) (N := some 23) (v := ?_) (a' := ?_) #[true, false, false, false, false, false, false, false, false, false, false, false, false, false, false, false, false, false] rfl rfl (any_of HT_.out (by kernel_rfl)) (fun _ _ _ h => h) (Or.inl ⟨by rfl, ?_⟩) ?_ ?_
           rotate_left
           ·intro w'
            go_simp
            with_reducible rfl
           rotate_left
           ·simp only [Act.put, List.setIfInBounds_toArray, List.set_cons_zero, List.set_cons_succ, i64_w, i32_w]
            rfl
           refine take_ (i := 1) (N := some 24) (v := ?_) (a' := ?_) #[true, true, false, false, false, false, false, false, false, false, false, false, false, false, false, false, false, false] rfl rfl (take_ofW HT_.out HW_.out (by kernel_rfl)) (fun _ _ _ h => h) (Or.inl ⟨by rfl, ?_⟩) hHeld ?_ ?_
           rotate_left
           ·rintro w' ⟨s0, s1⟩
            go_simp
            with_reducible rfl
           rotate_left
           ·simp only [Act.put, List.setIfInBounds_toArray, List.set_cons_zero, List.set_cons_succ, i64_w, i32_w]
            rfl
           refine one_ (i := 2) (N := some 25) #[true, true, true, false, false, false, false, false, false, false, false, false, false, false, false, false, false, false] rfl rfl (one_of HT_.out (by kernel_rfl)) (by decide) (fun K hK => ?_)
           refine goes_ Tryz.func21 (by kernel_rfl) rfl #[.string ((rd_T32 l0_1 x18_2).f0)] (by rfl) rfl rfl (by (try simp only [List.map_toArray, List.map_cons, List.map_nil]); first | done | rfl | (simp only [List.length_drop, List.length_take]; rfl)) ?_
           with_reducible refine (impl_SignBig.calls ((rd_T32 l0_1 x18_2).f0) true _ A13.out).mono ?_
           rintro e w' ⟨rfl, ⟨nd, rfl⟩⟩
           refine ⟨_, rfl, ?_⟩
           refine hK.out _ _ ⟨(blk_cell BK104.out 0).trans rfl, (blk_cell BK104.out 1).trans rfl⟩ (fun hHeld => ?_)
           clear hK K
           refine norm_ (a' := ?_) ?_ ?_
           rotate_left
           ·show Act.put _ (some 25) _ = _
            simp only [Act.put, List.setIfInBounds_toArray, List.set_cons_zero, List.set_cons_succ, i64_w, i32_w]
            rfl
           refine pure_ (i := 3) (N := some 26) (v := ?_) (a' := ?_) #[true, true, true, true, false, false, false, false, false, false, false, false, false, false, false, false, false, false] rfl rfl (any_of HT_.out (by kernel_rfl)) (fun _ _ _ h => h) (Or.inl ⟨by rfl, ?_⟩) ?_ ?_
           rotate_left
           ·intro w'
            go_simp
            with_reducible rfl
           rotate_left
           ·simp only [Act.put, List.setIfInBounds_toArray, List.set_cons_zero, List.set_cons_succ, i64_w, i32_w]
            rfl
           refine pure_ (i := 4) (N := some 27) (v := ?_) (a' := ?_) #[true, true, true, true, true, false, false, false, false, false, false, false, false, false, false, false, false, false] rfl rfl (any_of HT_.out (by kernel_rfl)) (fun _ _ _ h => h) (Or.inl ⟨by rfl, ?_⟩) ?_ ?_
           rotate_left
           ·intro w'
            go_simp
            with_reducible rfl
           rotate_left
           ·simp only [Act.put, List.setIfInBounds_toArray, List.set_cons_zero, List.set_cons_succ, i64_w, i32_w]
            rfl
           refine pure_ (i := 5) (N := some 28) (v := ?_) (a' := ?_) #[true, true, true, true, true, true, false, false, false, false, false, false, false, false, false, false, false, false] rfl rfl (any_of HT_.out (by kernel_rfl)) (fun _ _ _ h => h) (Or.inl ⟨by rfl, ?_⟩) ?_ ?_
           rotate_left
           ·intro w'
            go_simp
            with_reducible rfl
           rotate_left
           ·simp only [Act.put, List.setIfInBounds_toArray, List.set_cons_zero, List.set_cons_succ, i64_w, i32_w]
            rfl
           refine take_ (i := 6) (N := some 29) (v := ?_) (a' := ?_) #[true, true, true, true, true, true, true, false, false, false, false, false, false, false, false, false, false, false] rfl rfl (take_ofW HT_.out HW_.out (by kernel_rfl)) (fun _ _ _ h => h) (Or.inl ⟨by rfl, ?_⟩) hHeld ?_ ?_
           rotate_left
           ·rintro w' ⟨s0, s1⟩
            go_simp
            with_reducible rfl
           rotate_left
           ·simp only [Act.put, List.setIfInBounds_toArray, List.set_cons_zero, List.set_cons_succ, i64_w, i32_w]
            rfl
           refine one_ (i := 7) (N := some 30) #[true, true, true, true, true, true, true, true, false, false, false, false, false, false, false, false, false, false] rfl rfl (one_of HT_.out (by kernel_rfl)) (by decide) (fun K hK => ?_)
           refine goes_ Tryz.func135 (by kernel_rfl) rfl #[.string ((rd_T32 l0_1 x18_2).f1), .int .i64 4] (by rfl) rfl rfl (by (try simp only [List.map_toArray, List.map_cons, List.map_nil]); first | done | rfl | (simp only [List.length_drop, List.length_take]; rfl)) ?_
           with_reducible refine (impl_areSigns.calls ((rd_T32 l0_1 x18_2).f1) 4 false _ A15.out).mono ?_
           rintro e w42 ⟨rfl, hb⟩
           refine ⟨_, rfl, ?_⟩
           have n0_ := Aside0.mk (blk_below (g := gb101) (o := .cells #[.string a0_0, .slice (some ad103) l0_1.length c0_1] 25 (0, 0)) (by (with_reducible repeat (first | refine blk_drewN ?_ _ | refine blk_drew ?_ | refine blk_alloc ?_ _)); exact BK101.out) hb)
           have n1_ := Aside0.mk (blk_below (g := gb104) (o := .cells #[.string ((rd_T32 l0_1 x18_2).f0), .string ((rd_T32 l0_1 x18_2).f1)] 32 (0, 0)) (by (with_reducible repeat (first | refine blk_drewN ?_ _ | refine blk_drew ?_ | refine blk_alloc ?_ _)); exact BK104.out) hb)
           have n2_ := Aside0.mk (below_step (by repeat (first | (with_reducible first | exact HB.out | apply below_alloc | apply pw_below_drewN | apply below_drew1 | refine below_set ?_ GE101.out | refine below_set ?_ GE104.out) | exact HB.out)) hb)
           clear BK101
           clear BK104
           clear HB
           have BK101 := n0_
           have BK104 := n1_
           have HB := n2_
           clear n0_ n1_ n2_
           (try clear hb)
           (try clear hb2)
           (try clear hk)
           (try clear hi)
           refine hK.out _ _ ⟨(blk_cell BK104.out 0).trans rfl, (blk_cell BK104.out 1).trans rfl⟩ (fun hHeld => ?_)
           clear hK K
           refine norm_ (a' := ?_) ?_ ?_
           rotate_left
           ·show Act.put _ (some 30) _ = _
            simp only [Act.put, List.setIfInBounds_toArray, List.set_cons_zero, List.set_cons_succ, i64_w, i32_w]
            rfl
           refine pure_ (i := 8) (N := some 31) (v := ?_) (a' := ?_) #[true, true, true, true, true, true, true, true, true, false, false, false, false, false, false, false, false, false] rfl rfl (any_of HT_.out (by kernel_rfl)) (fun _ _ _ h => h) (Or.inl ⟨by rfl, ?_⟩) ?_ ?_
           rotate_left
           ·intro w'
            go_simp
            with_reducible rfl
           rotate_left
           ·simp only [Act.put, List.setIfInBounds_toArray, List.set_cons_zero, List.set_cons_succ, i64_w, i32_w]
            rfl
           refine pure_ (i := 9) (N := some 32) (v := ?_) (a' := ?_) #[true, true, true, true, true, true, true, true, true, true, false, false, false, false, false, false, false, false] rfl rfl (any_of HT_.out (by kernel_rfl)) (fun _ _ _ h => h) (Or.inl ⟨by rfl, ?_⟩) ?_ ?_
           rotate_left
           ·intro w'
            go_simp
            with_reducible rfl
           rotate_left
           ·simp only [Act.put, List.setIfInBounds_toArray, List.set_cons_zero, List.set_cons_succ, i64_w, i32_w]
            rfl
           refine pure_ (i := 10) (N := some 33) (v := ?_) (a' := ?_) #[true, true, true, true, true, true, true, true, true, true, true, false, false, false, false, false, false, false] rfl rfl (any_of HT_.out (by kernel_rfl)) (fun _ _ _ h => h) (Or.inl ⟨by rfl, ?_⟩) ?_ ?_
           rotate_left
           ·intro w'
            go_simp
            with_reducible rfl
           rotate_left
           ·simp only [Act.put, List.setIfInBounds_toArray, List.set_cons_zero, List.set_cons_succ, i64_w, i32_w]
            rfl
           refine pure_ (i := 11) (N := some 34) (v := undef) (a' := ?_) #[true, true, true, true, true, true, true, true, true, true, true, true, false, false, false, false, false, false] rfl rfl (any_of HT_.out (by kernel_rfl)) (fun _ _ _ h => h) (Or.inr ⟨by rfl, rfl⟩) ?_ ?_
           rotate_left
           ·simp only [Act.put, List.setIfInBounds_toArray, List.set_cons_zero, List.set_cons_succ, i64_w, i32_w]
            rfl
           refine pure_ (i := 12) (N := some 35) (v := undef) (a' := ?_) #[true, true, true, true, true, true, true, true, true, true, true, true, true, false, false, false, false, false] rfl rfl (any_of HT_.out (by kernel_rfl)) (fun _ _ _ h => h) (Or.inr ⟨by rfl, rfl⟩) ?_ ?_
           rotate_left
           ·simp only [Act.put, List.setIfInBounds_toArray, List.set_cons_zero, List.set_cons_succ, i64_w, i32_w]
            rfl
           refine pure_ (i := 13) (N := some 36) (v := undef) (a' := ?_) #[true, true, true, true, true, true, true, true, true, true, true, true, true, true, false, false, false, false] rfl rfl (any_of HT_.out (by kernel_rfl)) (fun _ _ _ h => h) (Or.inr ⟨by rfl, rfl⟩) ?_ ?_
           rotate_left
           ·simp only [Act.put, List.setIfInBounds_toArray, List.set_cons_zero, List.set_cons_succ, i64_w, i32_w]
            rfl
           refine pure_ (i := 14) (N := some 37) (v := undef) (a' := ?_) #[true, true, true, true, true, true, true, true, true, true, true, true, true, true, true, false, false, false] rfl rfl (any_of HT_.out (by kernel_rfl)) (fun _ _ _ h => h) (Or.inr ⟨by rfl, rfl⟩) ?_ ?_
           rotate_left
           ·simp only [Act.put, List.setIfInBounds_toArray, List.set_cons_zero, List.set_cons_succ, i64_w, i32_w]
            rfl
           refine pure_ (i := 15) (N := some 38) (v := undef) (a' := ?_) #[true, true, true, true, true, true, true, true, true, true, true, true, true, true, true, true, false, false] rfl rfl (any_of HT_.out (by kernel_rfl)) (fun _ _ _ h => h) (Or.inr ⟨by rfl, rfl⟩) ?_ ?_
           rotate_left
           ·simp only [Act.put, List.setIfInBounds_toArray, List.set_cons_zero, List.set_cons_succ, i64_w, i32_w]
            rfl
           refine pure_ (i := 16) (N := some 39) (v := undef) (a' := ?_) #[true, true, true, true, true, true, true, true, true, true, true, true, true, true, true, true, true, false] rfl rfl (any_of HT_.out (by kernel_rfl)) (fun _ _ _ h => h) (Or.inr ⟨by rfl, rfl⟩) ?_ ?_
           rotate_left
           ·simp only [Act.put, List.setIfInBounds_toArray, List.set_cons_zero, List.set_cons_succ, i64_w, i32_w]
            rfl
           refine pure_ (i := 17) (N := some 40) (v := ?_) (a' := ?_) #[true, true, true, true, true, true, true, true, true, true, true, true, true, true, true, true, true, true] rfl rfl (any_of HT_.out (by kernel_rfl)) (fun _ _ _ h => h) (Or.inl ⟨by rfl, ?_⟩) ?_ ?_
           rotate_left
           ·intro w'
            go_simp
            with_reducible rfl
           rotate_left
           ·simp only [Act.put, List.setIfInBounds_toArray, List.set_cons_zero, List.set_cons_succ, i64_w, i32_w]
            rfl
           refine done_ (done_of HT_.out (by kernel_rfl)) ?_
           try go_wp2
           go_ret
           exact ⟨by first | rfl | (simp [errW_none, errW_some] <;> rfl) | (simp [*, errW_none, errW_some] <;> rfl), by repeat (first | (with_reducible first | exact HB.out | apply below_alloc | apply pw_below_drewN | apply below_drew1 | refine below_set ?_ GE101.out | refine below_set ?_ GE104.out) | exact HB.out)⟩
         ·replace c14 := Bool.eq_false_iff.mpr c14
          subst c14
          have H1 : (some false) = some r := by rw [if_neg (show ¬ (false = true) by decide)] at H; exact H
          clear H
          have H := H1
          clear H1
          obtain rfl := Option.some.inj H
          have p103 : 0 ≤ (x18_2 : Int) := of_decide_eq_true (by first | (with_reducible assumption) | assumption)
          have q103 : x18_2 < (l0_1.length : Int) := of_decide_eq_true (by first | (with_reducible assumption) | assumption)
          obtain ⟨ad103, e103, hx103_0, hx103_1⟩ := at_T32 HR0_1.out x18_2 p103 q103
          cases e103
          replace hx103_0 := (HB.out.cell (World.block_lt_of_cell? w _ hx103_0)).trans hx103_0
          replace hx103_1 := (HB.out.cell (World.block_lt_of_cell? w _ hx103_1)).trans hx103_1
          replace p103 := eq_true p103
          replace q103 := eq_true q103
          try go_wp2_with (first | ((with_reducible refine gate_dst (N := 4) rfl ?_); (try (refine gate_guard (by rfl) ?_; dsimp only)); refine box_event ?hg (N := 4) ?hd (cs := #[.string (⟨#[]⟩ : ByteArray), .string (⟨#[]⟩ : ByteArray)]) (t := 32) ?hr ?_; (case hd => rfl); (case hg => rfl); (case hr => first | (go_simp; done) | (go_simp; rfl)); intro gb104 hg w43 hbox hb; have n0_ := Aside0.mk (blk_below (g := gb101) (o := .cells #[.string a0_0, .slice (some ad103) l0_1.length c0_1] 25 (0, 0)) (by (with_reducible repeat (first | refine blk_drewN ?_ _ | refine blk_drew ?_ | refine blk_alloc ?_ _)); exact BK101.out) hb); have n1_ := Aside0.mk (below_step (by repeat (first | (with_reducible first | exact HB.out | apply below_alloc | apply pw_below_drewN | apply below_drew1 | refine below_set ?_ GE101.out) | exact HB.out)) hb); have n2_ := Aside0.mk (hbox); have n3_ := Aside0.mk ((by rw [hg]; exact (below_size (by repeat (first | (with_reducible first | exact HB.out | apply below_alloc | apply pw_below_drewN | apply below_drew1 | refine below_set ?_ GE101.out) | exact HB.out))) : w.heap.size ≤ gb104)); have n4_ := Aside0.mk ((by rw [hg]; exact (below_size (by repeat (first | (with_reducible first | exact HB.out | apply below_alloc | apply pw_below_drewN | apply below_drew1 | refine below_set ?_ GE101.out) | exact HB.out))) : w.heap.size ≤ gb104)); have n5_ := Aside0.mk ((by rw [hg]; exact Nat.ne_of_lt (blk_lt (g := gb101) (o := .cells #[.string a0_0, .slice (some ad103) l0_1.length c0_1] 25 (0, 0)) (by (with_reducible repeat (first | refine blk_drewN ?_ _ | refine blk_drew ?_ | refine blk_alloc ?_ _)); exact BK101.out)) : gb101 ≠ gb104)); have n6_ := Aside0.mk ((by rw [hg]; exact Nat.ne_of_gt (blk_lt (g := gb101) (o := .cells #[.string a0_0, .slice (some ad103) l0_1.length c0_1] 25 (0, 0)) (by (with_reducible repeat (first | refine blk_drewN ?_ _ | refine blk_drew ?_ | refine blk_alloc ?_ _)); exact BK101.out)) : gb104 ≠ gb101)); clear BK101; clear HB; have BK101 := n0_; have HB := n1_; have BK104 := n2_; have GW104 := n3_; have GE104 := n4_; have NB101_104 := n5_; have NB104_101 := n6_; clear n0_ n1_ n2_ n3_ n4_ n5_ n6_; clear hb hbox hg; have hnb44 := NB104_101.out; have hnc44 := NB101_104.out; have hcz45_0 : w43.cell? ⟨gb104, 0, none⟩ = some (.string (⟨#[]⟩ : ByteArray)) := (blk_cell BK104.out 0).trans rfl; have hcz45_1 : w43.cell? ⟨gb104, 1, none⟩ = some (.string (⟨#[]⟩ : ByteArray)) := (blk_cell BK104.out 1).trans rfl; have hfz45_0 := blk_frozen BK104.out 0; have hfz45_1 := blk_frozen BK104.out 1))
          have n0_ : Aside0 (((w43.setCell ⟨gb104, 0, none⟩ (.string ((rd_T32 l0_1 x18_2).f0))).setCell ⟨gb104, 1, none⟩ (.string ((rd_T32 l0_1 x18_2).f1))).heap[gb101]? = some (.cells #[.string a0_0, .slice (some ad103) l0_1.length c0_1] 25 (0, 0))) := ⟨by (with_reducible repeat (first | refine blk_drewN ?_ _ | refine blk_drew ?_ | refine blk_alloc ?_ _)); refine blk_far ?_ NB101_104.out _; (with_reducible repeat (first | refine blk_drewN ?_ _ | refine blk_drew ?_ | refine blk_alloc ?_ _)); refine blk_far ?_ NB101_104.out _; (with_reducible repeat (first | refine blk_drewN ?_ _ | refine blk_drew ?_ | refine blk_alloc ?_ _)); exact BK101.out⟩
          have n1_ : Aside0 (((w43.setCell ⟨gb104, 0, none⟩ (.string ((rd_T32 l0_1 x18_2).f0))).setCell ⟨gb104, 1, none⟩ (.string ((rd_T32 l0_1 x18_2).f1))).heap[gb104]? = some (.cells #[.string ((rd_T32 l0_1 x18_2).f0), .string ((rd_T32 l0_1 x18_2).f1)] 32 (0, 0))) := ⟨by (with_reducible repeat (first | refine blk_drewN ?_ _ | refine blk_drew ?_ | refine blk_alloc ?_ _)); refine blk_put (cs := #[.string ((rd_T32 l0_1 x18_2).f0), .string (⟨#[]⟩ : ByteArray)]) ?_ 1 _ rfl; (with_reducible repeat (first | refine blk_drewN ?_ _ | refine blk_drew ?_ | refine blk_alloc ?_ _)); refine blk_put (cs := #[.string (⟨#[]⟩ : ByteArray), .string (⟨#[]⟩ : ByteArray)]) ?_ 0 _ rfl; (with_reducible repeat (first | refine blk_drewN ?_ _ | refine blk_drew ?_ | refine blk_alloc ?_ _)); exact BK104.out⟩
          have n2_ : Aside0 (Below w.heap.size w ((w43.setCell ⟨gb104, 0, none⟩ (.string ((rd_T32 l0_1 x18_2).f0))).setCell ⟨gb104, 1, none⟩ (.string ((rd_T32 l0_1 x18_2).f1)))) := ⟨by repeat (first | (with_reducible first | exact HB.out | apply below_alloc | apply pw_below_drewN | apply below_drew1 | refine below_set ?_ GE101.out | refine below_set ?_ GE104.out) | exact HB.out)⟩
          (try clear BK101)
          (try clear BK104)
          (try clear HB)
          generalize ((w43.setCell ⟨gb104, 0, none⟩ (.string ((rd_T32 l0_1 x18_2).f0))).setCell ⟨gb104, 1, none⟩ (.string ((rd_T32 l0_1 x18_2).f1))) = w46 at n0_ n1_ n2_ ⊢
          have BK101 := n0_
          have BK104 := n1_
          have HB := n2_
          clear n0_ n1_ n2_
          have n0_ := Aside0.mk (blk_drew BK101.out)
          have n1_ := Aside0.mk (blk_drew BK104.out)
          have n2_ := Aside0.mk (below_drew1 HB.out)
          clear BK101
          clear BK104
          clear HB
          have BK101 := n0_
          have BK104 := n1_
          have HB := n2_
          clear n0_ n1_ n2_
          refine start_ (n := 18) (S := fun w' => w'.cell? ⟨gb104, 0, none⟩ = some (.string ((rd_T32 l0_1 x18_2).f0)) ∧ w'.cell? ⟨gb104, 1, none⟩ = some (.string ((rd_T32 l0_1 x18_2).f1))) (ds := []) #[false, false, false, false, false, false, false, false, false, false, false, false, false, false, false, false, false, false] (by kernel_rfl) rfl rfl ⟨(blk_cell BK104.out 0).trans rfl, (blk_cell BK104.out 1).trans rfl⟩ (fun hHeld => ?_); refine with_tabW impl_GramOk.tab6 impl_GramOk.bits6 (fun HT_ HW_ => ?_)
          generalize w46.drew = w47 at BK101 BK104 HB hHeld ⊢
          refine pure_ (i := 0) (N := some 23) (v := ?_) (a' := ?_) #[true, false, false, false, false, false, false, false, false, false, false, false, false, false, false, false, false, false] rfl rfl (any_of HT_.out (by kernel_rfl)) (fun _ _ _ h => h) (Or.inl ⟨by rfl, ?_⟩) ?_ ?_
          rotate_left
          ·intro w'
           go_simp
           with_reducible rfl
          rotate_left
          ·simp only [Act.put, List.setIfInBounds_toArray, List.set_cons_zero, List.set_cons_succ, i64_w, i32_w]
           rfl
          refine take_ (i := 1) (N := some 24) (v := ?_) (a' := ?_) #[true, true, false, false, false, false, false, false, false, false, false, false, false, false, false, false, false, false] rfl rfl (take_ofW HT_.out HW_.out (by kernel_rfl)) (fun _ _ _ h => h) (Or.inl ⟨by rfl, ?_⟩) hHeld ?_ ?_
          rotate_left
          ·rintro w' ⟨s0, s1⟩
           go_simp
           with_reducible rfl
          rotate_left
          ·simp only [Act.put, List.setIfInBounds_toArray, List.set_cons_zero, List.set_cons_succ, i64_w, i32_w]
           rfl
          refine one_ (i := 2) (N := some 25) #[true, true, true, false, false, false, false, false, false, false, false, false, false, false, false, false, false, false] rfl rfl (one_of HT_.out (by kernel_rfl)) (by decide) (fun K hK => ?_)
          refine goes_ Tryz.func21 (by kernel_rfl) rfl #[.string ((rd_T32 l0_1 x18_2).f0)] (by rfl) rfl rfl (by (try simp only [List.map_toArray, List.map_cons, List.map_nil]); first | done | rfl | (simp only [List.length_drop, List.length_take]; rfl)) ?_
          with_reducible refine (impl_SignBig.calls ((rd_T32 l0_1 x18_2).f0) false _ A13.out).mono ?_
          rintro e w' ⟨rfl, ⟨nd, rfl⟩⟩
          refine ⟨_, rfl, ?_⟩
          refine hK.out _ _ ⟨(blk_cell BK104.out 0).trans rfl, (blk_cell BK104.out 1).trans rfl⟩ (fun hHeld => ?_)
          clear hK K
          refine norm_ (a' := ?_) ?_ ?_
          rotate_left
          ·show Act.put _ (some 25) _ = _
           simp only [Act.put, List.setIfInBounds_toArray, List.set_cons_zero, List.set_cons_succ, i64_w, i32_w]
           rfl
          refine pure_ (i := 3) (N := some 26) (v := ?_) (a' := ?_) #[true, true, true, true, false, false, false, false, false, false, false, false, false, false, false, false, false, false] rfl rfl (any_of HT_.out (by kernel_rfl)) (fun _ _ _ h => h) (Or.inl ⟨by rfl, ?_⟩) ?_ ?_
          rotate_left
          ·intro w'
           go_simp
           with_reducible rfl
          rotate_left
          ·simp only [Act.put, List.setIfInBounds_toArray, List.set_cons_zero, List.set_cons_succ, i64_w, i32_w]
           rfl
          refine pure_ (i := 4) (N := some 27) (v := ?_) (a' := ?_) #[true, true, true, true, true, false, false, false, false, false, false, false, false, false, false, false, false, false] rfl rfl (any_of HT_.out (by kernel_rfl)) (fun _ _ _ h => h) (Or.inl ⟨by rfl, ?_⟩) ?_ ?_
          rotate_left
          ·intro w'
           go_simp
           with_reducible rfl
          rotate_left
          ·simp only [Act.put, List.setIfInBounds_toArray, List.set_cons_zero, List.set_cons_succ, i64_w, i32_w]
           rfl
          refine pure_ (i := 5) (N := some 28) (v := undef) (a' := ?_) #[true, true, true, true, true, true, false, false, false, false, false, false, false, false, false, false, false, false] rfl rfl (any_of HT_.out (by kernel_rfl)) (fun _ _ _ h => h) (Or.inr ⟨by rfl, rfl⟩) ?_ ?_
          rotate_left
          ·simp only [Act.put, List.setIfInBounds_toArray, List.set_cons_zero, List.set_cons_succ, i64_w, i32_w]
           rfl
          refine pure_ (i := 6) (N := some 29) (v := undef) (a' := ?_) #[true, true, true, true, true, true, true, false, false, false, false, false, false, false, false, false, false, false] rfl rfl (any_of HT_.out (by kernel_rfl)) (fun _ _ _ h => h) (Or.inr ⟨by rfl, rfl⟩) ?_ ?_
          rotate_left
          ·simp only [Act.put, List.setIfInBounds_toArray, List.set_cons_zero, List.set_cons_succ, i64_w, i32_w]
           rfl
          refine pure_ (i := 7) (N := some 30) (v := undef) (a' := ?_) #[true, true, true, true, true, true, true, true, false, false, false, false, false, false, false, false, false, false] rfl rfl (any_of HT_.out (by kernel_rfl)) (fun _ _ _ h => h) (Or.inr ⟨by rfl, rfl⟩) ?_ ?_
          rotate_left
          ·simp only [Act.put, List.setIfInBounds_toArray, List.set_cons_zero, List.set_cons_succ, i64_w, i32_w]
           rfl
          refine pure_ (i := 8) (N := some 31) (v := undef) (a' := ?_) #[true, true, true, true, true, true, true, true, true, false, false, false, false, false, false, false, false, false] rfl rfl (any_of HT_.out (by kernel_rfl)) (fun _ _ _ h => h) (Or.inr ⟨by rfl, rfl⟩) ?_ ?_
          rotate_left
          ·simp only [Act.put, List.setIfInBounds_toArray, List.set_cons_zero, List.set_cons_succ, i64_w, i32_w]
           rfl
          refine pure_ (i := 9) (N := some 32) (v := ?_) (a' := ?_) #[true, true, true, true, true, true, true, true, true, true, false, false, false, false, false, false, false, false] rfl rfl (any_of HT_.out (by kernel_rfl)) (fun _ _ _ h => h) (Or.inl ⟨by rfl, ?_⟩) ?_ ?_
          rotate_left
          ·intro w'
           go_simp
           with_reducible rfl
          rotate_left
          ·simp only [Act.put, List.setIfInBounds_toArray, List.set_cons_zero, List.set_cons_succ, i64_w, i32_w]
           rfl
          refine pure_ (i := 10) (N := some 33) (v := ?_) (a' := ?_) #[true, true, true, true, true, true, true, true, true, true, true, false, false, false, false, false, false, false] rfl rfl (any_of HT_.out (by kernel_rfl)) (fun _ _ _ h => h) (Or.inl ⟨by rfl, ?_⟩) ?_ ?_
          rotate_left
          ·intro w'
           go_simp
           with_reducible rfl
          rotate_left
          ·simp only [Act.put, List.setIfInBounds_toArray, List.set_cons_zero, List.set_cons_succ, i64_w, i32_w]
           rfl
          refine pure_ (i := 11) (N := some 34) (v := undef) (a' := ?_) #[true, true, true, true, true, true, true, true, true, true, true, true, false, false, false, false, false, false] rfl rfl (any_of HT_.out (by kernel_rfl)) (fun _ _ _ h => h) (Or.inr ⟨by rfl, rfl⟩) ?_ ?_
          rotate_left
          ·simp only [Act.put, List.setIfInBounds_toArray, List.set_cons_zero, List.set_cons_succ, i64_w, i32_w]
           rfl
          refine pure_ (i := 12) (N := some 35) (v := undef) (a' := ?_) #[true, true, true, true, true, true, true, true, true, true, true, true, true, false, false, false, false, false] rfl rfl (any_of HT_.out (by kernel_rfl)) (fun _ _ _ h => h) (Or.inr ⟨by rfl, rfl⟩) ?_ ?_
          rotate_left
          ·simp only [Act.put, List.setIfInBounds_toArray, List.set_cons_zero, List.set_cons_succ, i64_w, i32_w]
           rfl
          refine pure_ (i := 13) (N := some 36) (v := undef) (a' := ?_) #[true, true, true, true, true, true, true, true, true, true, true, true, true, true, false, false, false, false] rfl rfl (any_of HT_.out (by kernel_rfl)) (fun _ _ _ h => h) (Or.inr ⟨by rfl, rfl⟩) ?_ ?_
          rotate_left
          ·simp only [Act.put, List.setIfInBounds_toArray, List.set_cons_zero, List.set_cons_succ, i64_w, i32_w]
           rfl
          refine pure_ (i := 14) (N := some 37) (v := undef) (a' := ?_) #[true, true, true, true, true, true, true, true, true, true, true, true, true, true, true, false, false, false] rfl rfl (any_of HT_.out (by kernel_rfl)) (fun _ _ _ h => h) (Or.inr ⟨by rfl, rfl⟩) ?_ ?_
          rotate_left
          ·simp only [Act.put, List.setIfInBounds_toArray, List.set_cons_zero, List.set_cons_succ, i64_w, i32_w]
           rfl
          refine pure_ (i := 15) (N := some 38) (v := undef) (a' := ?_) #[true, true, true, true, true, true, true, true, true, true, true, true, true, true, true, true, false, false] rfl rfl (any_of HT_.out (by kernel_rfl)) (fun _ _ _ h => h) (Or.inr ⟨by rfl, rfl⟩) ?_ ?_
          rotate_left
          ·simp only [Act.put, List.setIfInBounds_toArray, List.set_cons_zero, List.set_cons_succ, i64_w, i32_w]
           rfl
          refine pure_ (i := 16) (N := some 39) (v := undef) (a' := ?_) #[true, true, true, true, true, true, true, true, true, true, true, true, true, true, true, true, true, false] rfl rfl (any_of HT_.out (by kernel_rfl)) (fun _ _ _ h => h) (Or.inr ⟨by rfl, rfl⟩) ?_ ?_
          rotate_left
          ·simp only [Act.put, List.setIfInBounds_toArray, List.set_cons_zero, List.set_cons_succ, i64_w, i32_w]
           rfl
          refine pure_ (i := 17) (N := some 40) (v := ?_) (a' := ?_) #[true, true, true, true, true, true, true, true, true, true, true, true, true, true, true, true, true, true] rfl rfl (any_of HT_.out (by kernel_rfl)) (fun _ _ _ h => h) (Or.inl ⟨by rfl, ?_⟩) ?_ ?_
          rotate_left
          ·intro w'
           go_simp
           with_reducible rfl
          rotate_left
          ·simp only [Act.put, List.setIfInBounds_toArray, List.set_cons_zero, List.set_cons_succ, i64_w, i32_w]
           rfl
          refine done_ (done_of HT_.out (by kernel_rfl)) ?_
          try go_wp2
          go_ret
          exact ⟨by first | rfl | (simp [errW_none, errW_some] <;> rfl) | (simp [*, errW_none, errW_some] <;> rfl), by repeat (first | (with_reducible first | exact HB.out | apply below_alloc | apply pw_below_drewN | apply below_drew1 | refine below_set ?_ GE101.out | refine below_set ?_ GE104.out) | exact HB.out)⟩
        ·rw [if_neg c12] at H
         exact absurd H (by simp)
       ·rw [if_neg c11] at H
        exact absurd H (by simp)
      ·rw [if_neg c10] at H
       have c10b0 : decide (x18_2 < (l0_1.length : Int)) = false := decide_eq_false c10
       clear c10
       obtain rfl := Option.some.inj H
       go_wp2
       go_ret
       exact ⟨by first | rfl | (simp [errW_none, errW_some] <;> rfl) | (simp [*, errW_none, errW_some] <;> rfl), by repeat (first | (with_reducible first | exact HB.out | apply below_alloc | apply pw_below_drewN | apply below_drew1 | refine below_set ?_ GE101.out) | exact HB.out)⟩
end Go.Proofs.YtiibnkibckklgaaGreatDoor.P
namespace Go.Proofs.YtiibnkibckklgaaGreatDoor.P
open Go.RowKit Go.Proofs.YtiibnkibckklgaaGreatDoorW.PrintWords Go.Proofs.YtiibnkibckklgaaGreatDoorW.PrintLast Go.Proofs.YtiibnkibckklgaaGreatDoorW.PrintMore
attribute [local go_sem] max2_int min2_int max_two min_two max_three min_three max_four min_four   -- for this text's walks alone
set_option linter.unusedVariables false
set_option linter.unusedSimpArgs false
/-! ### impl_areBoth: function 83 -/
def impl_areBoth.f (k : Nat) (a0_0 : ByteArray) (l0_1 : List (S32)) (a1 : ByteArray) : Option (Bool) := (impl_GramOk.f k a0_0 l0_1).bind fun t102 => (if t102 = true then ((impl_TextOk.f a1).bind fun t103 => (some t103)) else (some false))
theorem impl_areBoth.mono : ∀ a0 a1 a2 k, LeO (impl_areBoth.f k a0 a1 a2) (impl_areBoth.f (k + 1) a0 a1 a2) := by
 intro a0 a1 a2 k
 unfold impl_areBoth.f
 repeat' first
   | (with_reducible exact impl_GramOk.mono _ _ _)
   | (with_reducible exact LeO.refl _)
   | (with_reducible exact LeO.none _)
   | (with_reducible refine LeO.ite ?_ ?_)
   | (with_reducible refine LeO.bind ?_ (fun _ => ?_))
   | exact impl_GramOk.mono _ _ _
   | exact LeO.none _
   | refine LeO.ite ?_ ?_
   | refine LeO.bind ?_ (fun _ => ?_)
set_option maxHeartbeats 8000000 in
set_option maxRecDepth 100000 in
theorem impl_areBoth.calls (k : Nat) (a0_0 : ByteArray) (A0_1 : Option Addr) (c0_1 : Nat) (l0_1 : List (S32)) (a1 : ByteArray) (r : Bool) (w : World) (hr0_1 : Kd.C k32 w A0_1 l0_1.length l0_1) (hc0_1 : l0_1.length ≤ c0_1) (h : impl_areBoth.f k a0_0 l0_1 a1 = some r) :
  Calls Tryz.prog 83 #[.agg #[.string a0_0, .slice A0_1 l0_1.length c0_1], .string a1] w fun e w' => e = .returned (.bool r) ∧ Below w.heap.size w w' := by
 have hu25 := Tryz.underlying25
 have HR0_1 := Aside0.mk hr0_1
 have HC0_1 := Aside0.mk hc0_1
 clear hr0_1 hc0_1
 have HB := Aside0.mk (Below.refl w.heap.size w)
 have H : ((impl_GramOk.f k a0_0 l0_1).bind fun t102 => (if t102 = true then ((impl_TextOk.f a1).bind fun t103 => (some t103)) else (some false))) = some r := h
 clear h
 replace H := Option.bind_eq_some_iff.mp H
 obtain ⟨t102, A30, H⟩ := H
 replace H : (if t102 = true then ((impl_TextOk.f a1).bind fun t103 => (some t103)) else (some false)) = some r := H
 have A3 := Aside0.mk A30
 clear A30
 by_cases c4 : t102 = true
 ·subst c4
  have H1 : ((impl_TextOk.f a1).bind fun t103 => (some t103)) = some r := by rw [if_pos rfl] at H; exact H
  clear H
  have H := H1
  clear H1
  replace H := Option.bind_eq_some_iff.mp H
  obtain ⟨t103, A50, H⟩ := H
  replace H : (some t103) = some r := H
  have A5 := Aside0.mk A50
  clear A50
  obtain rfl := Option.some.inj H
  go_enter Tryz.func83, Tryz.ntmps83
  go_wp2_with (first | ((with_reducible refine gate_dst (N := 2) rfl ?_); refine box_event ?hg (N := 2) ?hd (cs := #[.string a0_0, .slice A0_1 l0_1.length c0_1]) (t := 25) ?hr ?_; (case hd => rfl); (case hg => rfl); (case hr => first | (go_simp; done) | (go_simp; rfl)); intro gb101 hg w6 hbox hb; have n0_ := Aside0.mk (below_step (by repeat (first | (with_reducible first | exact HB.out | apply below_alloc | apply pw_below_drewN | apply below_drew1) | exact HB.out)) hb); have n1_ := Aside0.mk (hbox); have n2_ := Aside0.mk ((by rw [hg]; exact (below_size (by repeat (first | (with_reducible first | exact HB.out | apply below_alloc | apply pw_below_drewN | apply below_drew1) | exact HB.out))) : w.heap.size ≤ gb101)); have n3_ := Aside0.mk ((by rw [hg]; exact (below_size (by repeat (first | (with_reducible first | exact HB.out | apply below_alloc | apply pw_below_drewN | apply below_drew1) | exact HB.out))) : w.heap.size ≤ gb101)); clear HB; have HB := n0_; have BK101 := n1_; have GW101 := n2_; have GE101 := n3_; clear n0_ n1_ n2_ n3_; clear hb hbox hg; have hcz7_0 : w6.cell? ⟨gb101, 0, none⟩ = some (.string a0_0) := (blk_cell BK101.out 0).trans rfl; have hcz7_1 : w6.cell? ⟨gb101, 1, none⟩ = some (.slice A0_1 l0_1.length c0_1) := (blk_cell BK101.out 1).trans rfl; have hfz7_0 := blk_frozen BK101.out 0; have hfz7_1 := blk_frozen BK101.out 1) | ((with_reducible refine gate_callee (f := 64) rfl ?_); refine goesL_ (some 6) rfl rfl Tryz.func64 (by kernel_rfl) rfl #[.agg #[.string a0_0, .slice A0_1 l0_1.length c0_1]] rfl (by (try simp only [List.map_toArray, List.map_cons, List.map_nil]); first | done | rfl | (simp only [List.length_drop, List.length_take]; rfl)) ?_; (with_reducible refine (impl_GramOk.calls k a0_0 _ _ l0_1 true _ ?side1 ?side2 A3.out).mono ?_); (case side1 => repeat (first | exact (Kd.C_below HR0_1.out HB.out) | (with_reducible refine Kd.C_alloc ?_ _) | (with_reducible refine Kd.C_drewN ?_ _) | (with_reducible refine Kd.C_drew ?_))); (case side2 => exact HC0_1.out); rintro e w8 ⟨rfl, hb⟩; refine ⟨_, rfl, ?_⟩; have n0_ := Aside0.mk (blk_below (g := gb101) (o := .cells #[.string a0_0, .slice A0_1 l0_1.length c0_1] 25 (0, 0)) (by (with_reducible repeat (first | refine blk_drewN ?_ _ | refine blk_drew ?_ | refine blk_alloc ?_ _)); exact BK101.out) hb); have n1_ := Aside0.mk (below_step (by repeat (first | (with_reducible first | exact HB.out | apply below_alloc | apply pw_below_drewN | apply below_drew1 | refine below_set ?_ GE101.out) | exact HB.out)) hb); clear BK101; clear HB; have BK101 := n0_; have HB := n1_; clear n0_ n1_; (try clear hb); (try clear hb2); (try clear hk); (try clear hi)) | (go_at_call 35; (with_reducible refine (impl_TextOk.calls a1 t103 _ A5.out).mono ?_); rintro e w9 ⟨rfl, hb⟩; have n0_ := Aside0.mk (blk_below (g := gb101) (o := .cells #[.string a0_0, .slice A0_1 l0_1.length c0_1] 25 (0, 0)) (by (with_reducible repeat (first | refine blk_drewN ?_ _ | refine blk_drew ?_ | refine blk_alloc ?_ _)); exact BK101.out) hb); have n1_ := Aside0.mk (below_step (by repeat (first | (with_reducible first | exact HB.out | apply below_alloc | apply pw_below_drewN | apply below_drew1 | refine below_set ?_ GE101.out) | exact HB.out)) hb); clear BK101; clear HB; have BK101 := n0_; have HB := n1_; clear n0_ n1_; (try clear hb); (try clear hb2); (try clear hk); (try clear hi)))
  go_ret
  exact ⟨by first | rfl | (simp [errW_none, errW_some] <;> rfl) | (simp [*, errW_none, errW_some] <;> rfl), by repeat (first | (with_reducible first | exact HB.out | apply below_alloc | apply pw_below_drewN | apply below_drew1 | refine below_set ?_ GE101.out) | exact HB.out)⟩
 ·replace c4 := Bool.eq_false_iff.mpr c4
  subst c4
  have H1 : (some false) = some r := by rw [if_neg (show ¬ (false = true) by decide)] at H; exact H
  clear H
  have H := H1
  clear H1
  obtain rfl := Option.some.inj H
  go_enter Tryz.func83, Tryz.ntmps83
  go_wp2_with (first | ((with_reducible refine gate_dst (N := 2) rfl ?_); refine box_event ?hg (N := 2) ?hd (cs := #[.string a0_0, .slice A0_1 l0_1.length c0_1]) (t := 25) ?hr ?_; (case hd => rfl); (case hg => rfl); (case hr => first | (go_simp; done) | (go_simp; rfl)); intro gb101 hg w10 hbox hb; have n0_ := Aside0.mk (below_step (by repeat (first | (with_reducible first | exact HB.out | apply below_alloc | apply pw_below_drewN | apply below_drew1) | exact HB.out)) hb); have n1_ := Aside0.mk (hbox); have n2_ := Aside0.mk ((by rw [hg]; exact (below_size (by repeat (first | (with_reducible first | exact HB.out | apply below_alloc | apply pw_below_drewN | apply below_drew1) | exact HB.out))) : w.heap.size ≤ gb101)); have n3_ := Aside0.mk ((by rw [hg]; exact (below_size (by repeat (first | (with_reducible first | exact HB.out | apply below_alloc | apply pw_below_drewN | apply below_drew1) | exact HB.out))) : w.heap.size ≤ gb101)); clear HB; have HB := n0_; have BK101 := n1_; have GW101 := n2_; have GE101 := n3_; clear n0_ n1_ n2_ n3_; clear hb hbox hg; have hcz11_0 : w10.cell? ⟨gb101, 0, none⟩ = some (.string a0_0) := (blk_cell BK101.out 0).trans rfl; have hcz11_1 : w10.cell? ⟨gb101, 1, none⟩ = some (.slice A0_1 l0_1.length c0_1) := (blk_cell BK101.out 1).trans rfl; have hfz11_0 := blk_frozen BK101.out 0; have hfz11_1 := blk_frozen BK101.out 1) | ((with_reducible refine gate_callee (f := 64) rfl ?_); refine goesL_ (some 6) rfl rfl Tryz.func64 (by kernel_rfl) rfl #[.agg #[.string a0_0, .slice A0_1 l0_1.length c0_1]] rfl (by (try simp only [List.map_toArray, List.map_cons, List.map_nil]); first | done | rfl | (simp only [List.length_drop, List.length_take]; rfl)) ?_; (with_reducible refine (impl_GramOk.calls k a0_0 _ _ l0_1 false _ ?side1 ?side2 A3.out).mono ?_); (case side1 => repeat (first | exact (Kd.C_below HR0_1.out HB.out) | (with_reducible refine Kd.C_alloc ?_ _) | (with_reducible refine Kd.C_drewN ?_ _) | (with_reducible refine Kd.C_drew ?_))); (case side2 => exact HC0_1.out); rintro e w12 ⟨rfl, hb⟩; refine ⟨_, rfl, ?_⟩; have n0_ := Aside0.mk (blk_below (g := gb101) (o := .cells #[.string a0_0, .slice A0_1 l0_1.length c0_1] 25 (0, 0)) (by (with_reducible repeat (first | refine blk_drewN ?_ _ | refine blk_drew ?_ | refine blk_alloc ?_ _)); exact BK101.out) hb); have n1_ := Aside0.mk (below_step (by repeat (first | (with_reducible first | exact HB.out | apply below_alloc | apply pw_below_drewN | apply below_drew1 | refine below_set ?_ GE101.out) | exact HB.out)) hb); clear BK101; clear HB; have BK101 := n0_; have HB := n1_; clear n0_ n1_; (try clear hb); (try clear hb2); (try clear hk); (try clear hi)))
  go_ret
  exact ⟨by first | rfl | (simp [errW_none, errW_some] <;> rfl) | (simp [*, errW_none, errW_some] <;> rfl), by repeat (first | (with_reducible first | exact HB.out | apply below_alloc | apply pw_below_drewN | apply below_drew1 | refine below_set ?_ GE101.out) | exact HB.out)⟩
end Go.Proofs.YtiibnkibckklgaaGreatDoor.P
namespace Go.Proofs.YtiibnkibckklgaaGreatDoor.P
set_option linter.unusedVariables false
set_option linter.unusedSimpArgs false
open Go.RowKit Go.Proofs.YtiibnkibckklgaaGreatDoorW.PrintWords
def impl_AllIs.f (k : Nat) (a0_0 : ByteArray) (l0_1 : List (S32)) (a1 : ByteArray) : Option (Bool) := (impl_areBoth.f k a0_0 l0_1 a1).bind fun b => if b = true then none else some false
def impl_AllTrees.f (k : Nat) (a0_0 : ByteArray) (l0_1 : List (S32)) (a1 : ByteArray) : Option ((List (S60))) := (impl_areBoth.f k a0_0 l0_1 a1).bind fun b => if b = true then none else some []
def impl_AllParts.f (k : Nat) (a0_0 : ByteArray) (l0_1 : List (S32)) (a1 : ByteArray) : Option ((List (S118))) := (impl_areBoth.f k a0_0 l0_1 a1).bind fun b => if b = true then none else some []
theorem impl_AllIs.mono : ∀ a0 a1 a2 k, LeO (impl_AllIs.f k a0 a1 a2) (impl_AllIs.f (k + 1) a0 a1 a2) := fun _ _ _ _ => LeO.bind (impl_areBoth.mono _ _ _ _) (fun _ => LeO.refl _)
theorem impl_AllTrees.mono : ∀ a0 a1 a2 k, LeO (impl_AllTrees.f k a0 a1 a2) (impl_AllTrees.f (k + 1) a0 a1 a2) := fun _ _ _ _ => LeO.bind (impl_areBoth.mono _ _ _ _) (fun _ => LeO.refl _)
theorem impl_AllParts.mono : ∀ a0 a1 a2 k, LeO (impl_AllParts.f k a0 a1 a2) (impl_AllParts.f (k + 1) a0 a1 a2) := fun _ _ _ _ => LeO.bind (impl_areBoth.mono _ _ _ _) (fun _ => LeO.refl _)
set_option maxHeartbeats 1000000 in
theorem impl_AllIs.calls (k : Nat) (a0_0 : ByteArray) (A0_1 : Option Addr) (c0_1 : Nat) (l0_1 : List (S32)) (a1 : ByteArray) (r : Bool) (w : World) (hr0_1 : Kd.C k32 w A0_1 l0_1.length l0_1) (hc0_1 : l0_1.length ≤ c0_1) (h : impl_AllIs.f k a0_0 l0_1 a1 = some r) :
    Calls Tryz.prog 24 #[.agg #[.string a0_0, .slice A0_1 l0_1.length c0_1], .string a1] w fun e w' => e = .returned (.bool r) ∧ Below w.heap.size w w' := by
  unfold impl_AllIs.f at h
  obtain ⟨b, hb, h⟩ := Option.bind_eq_some_iff.mp h
  cases b
  case true => cases h
  obtain rfl : false = r := by simpa using h
  clear h
  have Hc := Lib.hid (fun W hr => impl_areBoth.calls k a0_0 A0_1 c0_1 l0_1 a1 false W hr hc0_1 hb)
  have Hr := Lib.hid hr0_1
  clear hr0_1 hb
  go_enter Tryz.func24, Tryz.ntmps24
  go_wp2_with (go_at_call 83; refine (Hc.out _ (by repeat (first | exact Hr.out | apply Kd.C_alloc | apply Kd.C_drewN | apply Kd.C_drew))).mono ?_; rintro e w' ⟨rfl, hB⟩)
  go_ret
  exact ⟨rfl, below_then ((Below.refl _ _).alloc (Nat.le_refl _) _) (by simp) (by simpa using hB)⟩
set_option maxHeartbeats 1000000 in
theorem impl_AllTrees.calls (k : Nat) (a0_0 : ByteArray) (A0_1 : Option Addr) (c0_1 : Nat) (l0_1 : List (S32)) (a1 : ByteArray) (r : List (S60)) (w : World) (hr0_1 : Kd.C k32 w A0_1 l0_1.length l0_1) (hc0_1 : l0_1.length ≤ c0_1) (h : impl_AllTrees.f k a0_0 l0_1 a1 = some r) :
    Calls Tryz.prog 37 #[.agg #[.string a0_0, .slice A0_1 l0_1.length c0_1], .string a1] w fun e w' => ∃ v0_ : Value, e = .returned (v0_) ∧ Kd.R k60 60 w' w.heap.size (fun _ => True) v0_ r ∧ Below w.heap.size w w' := by
  unfold impl_AllTrees.f at h
  obtain ⟨b, hb, h⟩ := Option.bind_eq_some_iff.mp h
  cases b
  case true => cases h
  obtain rfl : [] = r := by simpa using h
  clear h
  have Hc := Lib.hid (fun W hr => impl_areBoth.calls k a0_0 A0_1 c0_1 l0_1 a1 false W hr hc0_1 hb)
  have Hr := Lib.hid hr0_1
  clear hr0_1 hb
  go_enter Tryz.func37, Tryz.ntmps37
  go_wp2_with (go_at_call 83; refine (Hc.out _ (by repeat (first | exact Hr.out | apply Kd.C_alloc | apply Kd.C_drewN | apply Kd.C_drew))).mono ?_; rintro e w' ⟨rfl, hB⟩)
  go_ret
  exact ⟨.slice none 0 0, rfl, Kd.R_nil _ _ _ _ _, below_then ((Below.refl _ _).alloc (Nat.le_refl _) _) (by simp) (by simpa using hB)⟩
set_option maxHeartbeats 1000000 in
theorem impl_AllParts.calls (k : Nat) (a0_0 : ByteArray) (A0_1 : Option Addr) (c0_1 : Nat) (l0_1 : List (S32)) (a1 : ByteArray) (r : List (S118)) (w : World) (hr0_1 : Kd.C k32 w A0_1 l0_1.length l0_1) (hc0_1 : l0_1.length ≤ c0_1) (h : impl_AllParts.f k a0_0 l0_1 a1 = some r) :
    Calls Tryz.prog 38 #[.agg #[.string a0_0, .slice A0_1 l0_1.length c0_1], .string a1] w fun e w' => ∃ v0_ : Value, e = .returned (v0_) ∧ Kd.R k118 118 w' w.heap.size (fun _ => True) v0_ r ∧ Below w.heap.size w w' := by
  unfold impl_AllParts.f at h
  obtain ⟨b, hb, h⟩ := Option.bind_eq_some_iff.mp h
  cases b
  case true => cases h
  obtain rfl : [] = r := by simpa using h
  clear h
  have Hc := Lib.hid (fun W hr => impl_areBoth.calls k a0_0 A0_1 c0_1 l0_1 a1 false W hr hc0_1 hb)
  have Hr := Lib.hid hr0_1
  clear hr0_1 hb
  go_enter Tryz.func38, Tryz.ntmps38
  go_wp2_with (go_at_call 83; refine (Hc.out _ (by repeat (first | exact Hr.out | apply Kd.C_alloc | apply Kd.C_drewN | apply Kd.C_drew))).mono ?_; rintro e w' ⟨rfl, hB⟩)
  go_ret
  exact ⟨.slice none 0 0, rfl, Kd.R_nil _ _ _ _ _, below_then ((Below.refl _ _).alloc (Nat.le_refl _) _) (by simp) (by simpa using hB)⟩
end Go.Proofs.YtiibnkibckklgaaGreatDoor.P
namespace Go.Proofs.YtiibnkibckklgaaGreatDoor.P
open Go.RowKit Go.Proofs.YtiibnkibckklgaaGreatDoorW.PrintWords Go.Proofs.YtiibnkibckklgaaGreatDoorW.PrintLast Go.Proofs.YtiibnkibckklgaaGreatDoorW.PrintMore
attribute [local go_sem] max2_int min2_int max_two min_two max_three min_three max_four min_four   -- for this text's walks alone
set_option linter.unusedVariables false
set_option linter.unusedSimpArgs false
/-! ### laws_FnAllBent: function 6 -/
def laws_FnAllBent.j0 : Nat → ByteArray → Bool → Bool → ByteArray → List (S32) → Option (Bool)
 | 0, _, _, _, _, _ => none
 | k + 1, x4, x5, x26, x107000, x107001 => if x26 = true then ((spec_TextOk.f k x4).bind fun t110 => (some (x5 == t110))) else ((impl_AllIs.f k x107000 x107001 x4).bind fun t111 => (if t111 = true then (some false) else ((impl_AllTrees.f k x107000 x107001 x4).bind fun t112 => (if (t112.length : Int) = 0 then ((impl_AllParts.f k x107000 x107001 x4).bind fun t115 => (some ((t115.length : Int) == 0))) else (some false)))))
def laws_FnAllBent.f (k : Nat) (l0 : List Int) : Option (Bool) := if (l0.length : Int) > 1048576 then (some true) else ((spec_DrawAllTrees.f k l0).bind fun bt101 => ((impl_TextOk.f bt101.2.2).bind fun t107 => ((spec_TextOk.f k bt101.2.2).bind fun t108 => (if (t107 != t108) = true then (laws_FnAllBent.j0 k bt101.2.2 t107 true bt101.1 bt101.2.1) else (if t107 = true then ((spec_GramOk.f k bt101.1 bt101.2.1).bind fun t109 => (laws_FnAllBent.j0 k bt101.2.2 t107 t109 bt101.1 bt101.2.1)) else (laws_FnAllBent.j0 k bt101.2.2 t107 false bt101.1 bt101.2.1))))))
theorem laws_FnAllBent.mono_l : ∀ k, (∀ y0 y1 y2 y3 y4, LeO (laws_FnAllBent.j0 k y0 y1 y2 y3 y4) (laws_FnAllBent.j0 (k + 1) y0 y1 y2 y3 y4))
 | 0 => fun _ _ _ _ _ r h => by simp [laws_FnAllBent.j0] at h
 | k + 1 => by
  have ih0 := laws_FnAllBent.mono_l k
  ·intro y0 y1 y2 y3 y4
   unfold laws_FnAllBent.j0
   repeat' first
   | (with_reducible exact ih0 _ _ _ _ _)
   | (with_reducible exact impl_AllIs.mono _ _ _ _)
   | (with_reducible exact impl_AllParts.mono _ _ _ _)
   | (with_reducible exact impl_AllTrees.mono _ _ _ _)
   | (with_reducible exact spec_DrawAllTrees.mono _ _)
   | (with_reducible exact spec_GramOk.mono _ _ _)
   | (with_reducible exact spec_TextOk.mono _ _)
   | (with_reducible exact LeO.refl _)
   | (with_reducible exact LeO.none _)
   | (with_reducible refine LeO.ite ?_ ?_)
   | (with_reducible refine LeO.bind ?_ (fun _ => ?_))
   | exact ih0 _ _ _ _ _
   | exact impl_AllIs.mono _ _ _ _
   | exact impl_AllParts.mono _ _ _ _
   | exact impl_AllTrees.mono _ _ _ _
   | exact spec_DrawAllTrees.mono _ _
   | exact spec_GramOk.mono _ _ _
   | exact spec_TextOk.mono _ _
   | exact LeO.none _
   | refine LeO.ite ?_ ?_
   | refine LeO.bind ?_ (fun _ => ?_)
theorem laws_FnAllBent.mono : ∀ a0 k, LeO (laws_FnAllBent.f k a0) (laws_FnAllBent.f (k + 1) a0) := by
 intro a0 k
 have ih0 := laws_FnAllBent.mono_l k
 unfold laws_FnAllBent.f
 repeat' first
   | (with_reducible exact ih0 _ _ _ _ _)
   | (with_reducible exact impl_AllIs.mono _ _ _ _)
   | (with_reducible exact impl_AllParts.mono _ _ _ _)
   | (with_reducible exact impl_AllTrees.mono _ _ _ _)
   | (with_reducible exact spec_DrawAllTrees.mono _ _)
   | (with_reducible exact spec_GramOk.mono _ _ _)
   | (with_reducible exact spec_TextOk.mono _ _)
   | (with_reducible exact LeO.refl _)
   | (with_reducible exact LeO.none _)
   | (with_reducible refine LeO.ite ?_ ?_)
   | (with_reducible refine LeO.bind ?_ (fun _ => ?_))
   | exact ih0 _ _ _ _ _
   | exact impl_AllIs.mono _ _ _ _
   | exact impl_AllParts.mono _ _ _ _
   | exact impl_AllTrees.mono _ _ _ _
   | exact spec_DrawAllTrees.mono _ _
   | exact spec_GramOk.mono _ _ _
   | exact spec_TextOk.mono _ _
   | exact LeO.none _
   | refine LeO.ite ?_ ?_
   | refine LeO.bind ?_ (fun _ => ?_)
set_option maxHeartbeats 8000000 in
set_option maxRecDepth 100000 in
theorem laws_FnAllBent.calls (k : Nat) (A0 : Option Addr) (c0 : Nat) (l0 : List Int) (r : Bool) (w : World) (hr0 : Kd.C (Kd.int .u8) w A0 l0.length l0) (hc0 : l0.length ≤ c0) (h : laws_FnAllBent.f k l0 = some r) :
  Calls Tryz.prog 6 #[.slice A0 l0.length c0] w fun e w' => e = .returned (.bool r) ∧ Below w.heap.size w w' := by
 have hu25 := Tryz.underlying25
 have HR0 := Aside0.mk hr0
 have HC0 := Aside0.mk hc0
 clear hr0 hc0
 have HB := Aside0.mk (Below.refl w.heap.size w)
 have H : (if (l0.length : Int) > 1048576 then (some true) else ((spec_DrawAllTrees.f k l0).bind fun bt101 => ((impl_TextOk.f bt101.2.2).bind fun t107 => ((spec_TextOk.f k bt101.2.2).bind fun t108 => (if (t107 != t108) = true then (laws_FnAllBent.j0 k bt101.2.2 t107 true bt101.1 bt101.2.1) else (if t107 = true then ((spec_GramOk.f k bt101.1 bt101.2.1).bind fun t109 => (laws_FnAllBent.j0 k bt101.2.2 t107 t109 bt101.1 bt101.2.1)) else (laws_FnAllBent.j0 k bt101.2.2 t107 false bt101.1 bt101.2.1))))))) = some r := h
 clear h
 by_cases c2 : (l0.length : Int) > 1048576
 ·rw [if_pos c2] at H
  have c2b0 : decide (1048576 < (l0.length : Int)) = true := decide_eq_true c2
  have c2b1 : decide (1048576 < l0.length) = true := decide_eq_true (by omega)
  clear c2
  obtain rfl := Option.some.inj H
  go_enter Tryz.func6, Tryz.ntmps6
  go_wp2
  go_ret
  exact ⟨by first | rfl | (simp [errW_none, errW_some] <;> rfl) | (simp [*, errW_none, errW_some] <;> rfl), by repeat (first | (with_reducible first | exact HB.out | apply below_alloc | apply pw_below_drewN | apply below_drew1) | exact HB.out)⟩
 ·rw [if_neg c2] at H
  have c2b0 : decide (1048576 < (l0.length : Int)) = false := decide_eq_false c2
  have c2b1 : decide (1048576 < l0.length) = false := decide_eq_false (by omega)
  clear c2
  replace H := Option.bind_eq_some_iff.mp H
  obtain ⟨⟨t101, t102, t105⟩, A30, H⟩ := H
  replace H : ((impl_TextOk.f t105).bind fun t107 => ((spec_TextOk.f k t105).bind fun t108 => (if (t107 != t108) = true then (laws_FnAllBent.j0 k t105 t107 true t101 t102) else (if t107 = true then ((spec_GramOk.f k t101 t102).bind fun t109 => (laws_FnAllBent.j0 k t105 t107 t109 t101 t102)) else (laws_FnAllBent.j0 k t105 t107 false t101 t102))))) = some r := H
  have A3 := Aside0.mk A30
  clear A30
  replace H := Option.bind_eq_some_iff.mp H
  obtain ⟨t107, A40, H⟩ := H
  replace H : ((spec_TextOk.f k t105).bind fun t108 => (if (t107 != t108) = true then (laws_FnAllBent.j0 k t105 t107 true t101 t102) else (if t107 = true then ((spec_GramOk.f k t101 t102).bind fun t109 => (laws_FnAllBent.j0 k t105 t107 t109 t101 t102)) else (laws_FnAllBent.j0 k t105 t107 false t101 t102)))) = some r := H
  have A4 := Aside0.mk A40
  clear A40
  have HC5 := Aside0.mk H
  clear H
  go_enter Tryz.func6, Tryz.ntmps6
  go_upto_region 5 with (first | ((with_reducible refine gate_callee (f := 34) rfl ?_); refine goesL_ (some 11) rfl rfl Tryz.func34 (by kernel_rfl) rfl #[.slice A0 l0.length c0] rfl (by (try simp only [List.map_toArray, List.map_cons, List.map_nil]); first | done | rfl | (simp only [List.length_drop, List.length_take]; rfl)) ?_; (with_reducible refine (spec_DrawAllTrees.calls k _ _ l0 t101 t102 t105 _ ?side1 ?side2 A3.out).mono ?_); (case side1 => repeat (first | exact HR0.out | (with_reducible refine Kd.C_alloc ?_ _) | (with_reducible refine Kd.C_drewN ?_ _) | (with_reducible refine Kd.C_drew ?_))); (case side2 => exact HC0.out); rintro e w6 ⟨v103, rfl, ho0, hb⟩; refine ⟨_, rfl, ?_⟩; have n0_ := Aside0.mk (Kd.R_lower ho0 (below_size (by repeat (first | (with_reducible first | exact HB.out | apply below_alloc | apply pw_below_drewN | apply below_drew1) | exact HB.out)))); have n1_ := Aside0.mk (below_step (by repeat (first | (with_reducible first | exact HB.out | apply below_alloc | apply pw_below_drewN | apply below_drew1) | exact HB.out)) hb); clear HB; have HO104 := n0_; have HB := n1_; clear n0_ n1_; (try clear hb); (try clear hb2); (try clear hk); (try clear hi); (try clear ho0)) | ((with_reducible refine gate_dst (N := 3) rfl ?_); (try (refine gate_guard (by rfl) ?_; dsimp only)); refine box_event ?hg (N := 3) ?hd (cs := #[.string (⟨#[]⟩ : ByteArray), .slice none 0 0]) (t := 25) ?hr ?_; (case hd => rfl); (case hg => rfl); (case hr => first | (go_simp; done) | (go_simp; rfl)); intro gb106 hg w7 hbox hb; have n0_ := Aside0.mk (Kd.R_below (by (with_reducible repeat (first | apply Kd.R_alloc | apply Kd.R_drewN | apply Kd.R_drew)); exact HO104.out) hb); have n1_ := Aside0.mk (below_step (by repeat (first | (with_reducible first | exact HB.out | apply below_alloc | apply pw_below_drewN | apply below_drew1) | exact HB.out)) hb); have n2_ := Aside0.mk (hbox); have n3_ := Aside0.mk ((by rw [hg]; exact (below_size (by repeat (first | (with_reducible first | exact HB.out | apply below_alloc | apply pw_below_drewN | apply below_drew1) | exact HB.out))) : w.heap.size ≤ gb106)); have n4_ := Aside0.mk ((by rw [hg]; exact (below_size (by repeat (first | (with_reducible first | exact HB.out | apply below_alloc | apply pw_below_drewN | apply below_drew1) | exact HB.out))) : w.heap.size ≤ gb106)); clear HO104; clear HB; have HO104 := n0_; have HB := n1_; have BK106 := n2_; have GW106 := n3_; have GE106 := n4_; clear n0_ n1_ n2_ n3_ n4_; clear hb hbox hg; have hcz8_0 : w7.cell? ⟨gb106, 0, none⟩ = some (.string (⟨#[]⟩ : ByteArray)) := (blk_cell BK106.out 0).trans rfl; have hcz8_1 : w7.cell? ⟨gb106, 1, none⟩ = some (.slice none 0 0) := (blk_cell BK106.out 1).trans rfl; have hfz8_0 := blk_frozen BK106.out 0; have hfz8_1 := blk_frozen BK106.out 1; obtain ⟨Ao9, co9, eo9⟩ := Kd.R_slice HO104.out; subst eo9) | ((with_reducible refine gate_callee (f := 35) rfl ?_); refine goesL_ (some 15) rfl rfl Tryz.func35 (by kernel_rfl) rfl #[.string t105] rfl (by (try simp only [List.map_toArray, List.map_cons, List.map_nil]); first | done | rfl | (simp only [List.length_drop, List.length_take]; rfl)) ?_; (with_reducible refine (impl_TextOk.calls t105 t107 _ A4.out).mono ?_); rintro e w10 ⟨rfl, hb⟩; refine ⟨_, rfl, ?_⟩; have n0_ := Aside0.mk (Kd.R_below (by (with_reducible repeat (first | apply Kd.R_alloc | apply Kd.R_drewN | apply Kd.R_drew)); exact (Kd.R_mono (Kd.R_far (p := ⟨gb106, 1, none⟩) (Kd.R_far (p := ⟨gb106, 0, none⟩) (Kd.R_types HO104.out BK106.out (by decide)) (fun _ hk => hk.2) (.string t101)) (fun _ hk => hk.2) (.slice Ao9 t102.length co9)) (fun _ h_ => h_.1))) hb); have n1_ := Aside0.mk (blk_below (g := gb106) (o := .cells #[.string t101, .slice Ao9 t102.length co9] 25 (0, 0)) (by (with_reducible repeat (first | refine blk_drewN ?_ _ | refine blk_drew ?_ | refine blk_alloc ?_ _)); refine blk_put (cs := #[.string t101, .slice none 0 0]) ?_ 1 _ rfl; (with_reducible repeat (first | refine blk_drewN ?_ _ | refine blk_drew ?_ | refine blk_alloc ?_ _)); refine blk_put (cs := #[.string (⟨#[]⟩ : ByteArray), .slice none 0 0]) ?_ 0 _ rfl; (with_reducible repeat (first | refine blk_drewN ?_ _ | refine blk_drew ?_ | refine blk_alloc ?_ _)); exact BK106.out) hb); have n2_ := Aside0.mk (below_step (by repeat (first | (with_reducible first | exact HB.out | apply below_alloc | apply pw_below_drewN | apply below_drew1 | refine below_set ?_ GE106.out) | exact HB.out)) hb); clear HO104; clear BK106; clear HB; have HO104 := n0_; have BK106 := n1_; have HB := n2_; clear n0_ n1_ n2_; (try clear hb); (try clear hb2); (try clear hk); (try clear hi)))
  (try simp only [Act.put, List.setIfInBounds_toArray, List.set_cons_zero, List.set_cons_succ])
  go_cut [26] (fun v26 wc => ∃ (kq : Nat) (x26_4 : Bool), v26 = .bool x26_4 ∧ Aside0 (laws_FnAllBent.j0 kq t105 t107 x26_4 t101 t102 = some r) ∧ Aside0 (kq ≤ k) ∧ Aside0 (Kd.R k32 32 wc w.heap.size (fun _ => True) (.slice Ao9 t102.length co9) t102) ∧ Aside0 (wc.heap[gb106]? = some (.cells #[.string t101, (.slice Ao9 t102.length co9)] 25 (0, 0))) ∧ Aside0 (Below w.heap.size w wc))
  case first =>
   have H := HC5.out
   clear HC5
   replace H := Option.bind_eq_some_iff.mp H
   obtain ⟨t108, A110, H⟩ := H
   replace H : (if (t107 != t108) = true then (laws_FnAllBent.j0 k t105 t107 true t101 t102) else (if t107 = true then ((spec_GramOk.f k t101 t102).bind fun t109 => (laws_FnAllBent.j0 k t105 t107 t109 t101 t102)) else (laws_FnAllBent.j0 k t105 t107 false t101 t102))) = some r := H
   have A11 := Aside0.mk A110
   clear A110
   by_cases c12 : (t107 != t108) = true
   ·rw [if_pos c12] at H
    have c12b0 : (t107 != t108) = true := c12
    (try (have c12b1 : decide (t107 = t108) = false := by simpa using c12))
    (try (have c12b2 : (t107 == t108) = false := by simpa using c12))
    (try (have c12b3 : ¬ (t107 = t108) := by simpa using c12))
    clear c12
    (first | rw [c12b0] | (simp only [i64_w, i32_w]; rw [c12b0]) | skip)
    have H' := Aside0.mk H
    clear H
    go_wp2_with (first | ((with_reducible refine gate_callee (f := 36) rfl ?_); refine goesL_ (some 18) rfl rfl Tryz.func36 (by kernel_rfl) rfl #[.string t105] rfl (by (try simp only [List.map_toArray, List.map_cons, List.map_nil]); first | done | rfl | (simp only [List.length_drop, List.length_take]; rfl)) ?_; (with_reducible refine (spec_TextOk.calls k t105 t108 _ A11.out).mono ?_); rintro e w' ⟨rfl, ⟨nd, rfl⟩⟩; refine ⟨_, rfl, ?_⟩))
    go_meet
    case rel => exact ⟨_, (true), (by first | rfl | (simp; done) | (simp [*]; done)), H', ⟨by first | omega | exact Nat.le_refl _⟩, ⟨by (with_reducible repeat (first | apply Kd.R_alloc | apply Kd.R_drewN | apply Kd.R_drew)); exact HO104.out⟩, ⟨by (with_reducible repeat (first | refine blk_drewN ?_ _ | refine blk_drew ?_ | refine blk_alloc ?_ _)); exact BK106.out⟩, ⟨by repeat (first | (with_reducible first | exact HB.out | apply below_alloc | apply pw_below_drewN | apply below_drew1 | refine below_set ?_ GE106.out) | exact HB.out)⟩⟩
   ·rw [if_neg c12] at H
    have c12b0 : (t107 != t108) = false := by simpa using c12
    (try (have c12b1 : decide (t107 = t108) = true := by simpa using c12))
    (try (have c12b2 : (t107 == t108) = true := by simpa using c12))
    clear c12
    (first | rw [c12b0] | (simp only [i64_w, i32_w]; rw [c12b0]) | skip)
    by_cases c13 : t107 = true
    ·subst c13
     have H1 : ((spec_GramOk.f k t101 t102).bind fun t109 => (laws_FnAllBent.j0 k t105 true t109 t101 t102)) = some r := by rw [if_pos rfl] at H; exact H
     clear H
     have H := H1
     clear H1
     replace H := Option.bind_eq_some_iff.mp H
     obtain ⟨t109, A140, H⟩ := H
     replace H : (laws_FnAllBent.j0 k t105 true t109 t101 t102) = some r := H
     have A14 := Aside0.mk A140
     clear A140
     have H' := Aside0.mk H
     clear H
     go_wp2_with (first | ((with_reducible refine gate_callee (f := 36) rfl ?_); refine goesL_ (some 18) rfl rfl Tryz.func36 (by kernel_rfl) rfl #[.string t105] rfl (by (try simp only [List.map_toArray, List.map_cons, List.map_nil]); first | done | rfl | (simp only [List.length_drop, List.length_take]; rfl)) ?_; (with_reducible refine (spec_TextOk.calls k t105 t108 _ A11.out).mono ?_); rintro e w' ⟨rfl, ⟨nd, rfl⟩⟩; refine ⟨_, rfl, ?_⟩; have hcz15_0 : w10.cell? ⟨gb106, 0, none⟩ = some (.string t101) := (blk_cell BK106.out 0).trans rfl; have hcz15_1 : w10.cell? ⟨gb106, 1, none⟩ = some (.slice Ao9 t102.length co9) := (blk_cell BK106.out 1).trans rfl; have hfz15_0 := blk_frozen BK106.out 0; have hfz15_1 := blk_frozen BK106.out 1) | (go_at_call 20; (with_reducible refine (spec_GramOk.calls k t101 _ _ t102 t109 _ ?side1 ?side2 A14.out).mono ?_); (case side1 => repeat (first | exact (Kd.R_reads' HO104.out).2.2 | (with_reducible refine Kd.C_alloc ?_ _) | (with_reducible refine Kd.C_drewN ?_ _) | (with_reducible refine Kd.C_drew ?_))); (case side2 => exact (Kd.R_reads' HO104.out).2.1); rintro e w16 ⟨rfl, hb⟩; have n0_ := Aside0.mk (Kd.R_below (by (with_reducible repeat (first | apply Kd.R_alloc | apply Kd.R_drewN | apply Kd.R_drew)); exact HO104.out) hb); have n1_ := Aside0.mk (blk_below (g := gb106) (o := .cells #[.string t101, .slice Ao9 t102.length co9] 25 (0, 0)) (by (with_reducible repeat (first | refine blk_drewN ?_ _ | refine blk_drew ?_ | refine blk_alloc ?_ _)); exact BK106.out) hb); have n2_ := Aside0.mk (below_step (by repeat (first | (with_reducible first | exact HB.out | apply below_alloc | apply pw_below_drewN | apply below_drew1 | refine below_set ?_ GE106.out) | exact HB.out)) hb); clear HO104; clear BK106; clear HB; have HO104 := n0_; have BK106 := n1_; have HB := n2_; clear n0_ n1_ n2_; (try clear hb); (try clear hb2); (try clear hk); (try clear hi)))
     go_meet
     case rel => exact ⟨_, (t109), (by first | rfl | (simp; done) | (simp [*]; done)), H', ⟨by first | omega | exact Nat.le_refl _⟩, ⟨by (with_reducible repeat (first | apply Kd.R_alloc | apply Kd.R_drewN | apply Kd.R_drew)); exact HO104.out⟩, ⟨by (with_reducible repeat (first | refine blk_drewN ?_ _ | refine blk_drew ?_ | refine blk_alloc ?_ _)); exact BK106.out⟩, ⟨by repeat (first | (with_reducible first | exact HB.out | apply below_alloc | apply pw_below_drewN | apply below_drew1 | refine below_set ?_ GE106.out) | exact HB.out)⟩⟩
    ·replace c13 := Bool.eq_false_iff.mpr c13
     subst c13
     have H1 : (laws_FnAllBent.j0 k t105 false false t101 t102) = some r := by rw [if_neg (show ¬ (false = true) by decide)] at H; exact H
     clear H
     have H := H1
     clear H1
     have H' := Aside0.mk H
     clear H
     go_wp2_with (first | ((with_reducible refine gate_callee (f := 36) rfl ?_); refine goesL_ (some 18) rfl rfl Tryz.func36 (by kernel_rfl) rfl #[.string t105] rfl (by (try simp only [List.map_toArray, List.map_cons, List.map_nil]); first | done | rfl | (simp only [List.length_drop, List.length_take]; rfl)) ?_; (with_reducible refine (spec_TextOk.calls k t105 t108 _ A11.out).mono ?_); rintro e w' ⟨rfl, ⟨nd, rfl⟩⟩; refine ⟨_, rfl, ?_⟩))
     go_meet
     case rel => exact ⟨_, (false), (by first | rfl | (simp; done) | (simp [*]; done)), H', ⟨by first | omega | exact Nat.le_refl _⟩, ⟨by (with_reducible repeat (first | apply Kd.R_alloc | apply Kd.R_drewN | apply Kd.R_drew)); exact HO104.out⟩, ⟨by (with_reducible repeat (first | refine blk_drewN ?_ _ | refine blk_drew ?_ | refine blk_alloc ?_ _)); exact BK106.out⟩, ⟨by repeat (first | (with_reducible first | exact HB.out | apply below_alloc | apply pw_below_drewN | apply below_drew1 | refine below_set ?_ GE106.out) | exact HB.out)⟩⟩
  case rest =>
   clear HC5
   try clear c1
   try clear c2
   try clear c2b0
   try clear c2b1
   try clear p2
   try clear c3
   try clear c6
   try clear c12
   try clear c12b0
   try clear c12b1
   try clear c12b2
   try clear c13
   try clear hcz15_0
   try clear hcz15_1
   try clear hcz8_0
   try clear hcz8_1
   try clear hfz15_0
   try clear hfz15_1
   try clear hfz8_0
   try clear hfz8_1
   obtain ⟨kq, x26_4, rfl, HA, HJ4, HO_107001, BK106, HB⟩ := hcut
   cases kq with
   | zero => exact absurd HA.out (by simp [laws_FnAllBent.j0])
   | succ kj4 =>
    have H := HA.out
    clear HA
    simp only [laws_FnAllBent.j0] at H
    by_cases c17 : x26_4 = true
    ·subst c17
     have H1 : ((spec_TextOk.f kj4 t105).bind fun t110 => (some (t107 == t110))) = some r := by rw [if_pos rfl] at H; exact H
     clear H
     have H := H1
     clear H1
     replace H := Option.bind_eq_some_iff.mp H
     obtain ⟨t110, A180, H⟩ := H
     replace H : (some (t107 == t110)) = some r := H
     have A18 := Aside0.mk A180
     clear A180
     obtain rfl := Option.some.inj H
     go_wp2_with (first | ((with_reducible refine gate_callee (f := 36) rfl ?_); refine goesL_ (some 29) rfl rfl Tryz.func36 (by kernel_rfl) rfl #[.string t105] rfl (by (try simp only [List.map_toArray, List.map_cons, List.map_nil]); first | done | rfl | (simp only [List.length_drop, List.length_take]; rfl)) ?_; (with_reducible refine (spec_TextOk.calls kj4 t105 t110 _ A18.out).mono ?_); rintro e w' ⟨rfl, ⟨nd, rfl⟩⟩; refine ⟨_, rfl, ?_⟩))
     go_ret
     exact ⟨by first | rfl | (simp [errW_none, errW_some] <;> rfl) | (simp [*, errW_none, errW_some] <;> rfl), by repeat (first | (with_reducible first | exact HB.out | apply below_alloc | apply pw_below_drewN | apply below_drew1 | refine below_set ?_ GE106.out) | exact HB.out)⟩
    ·replace c17 := Bool.eq_false_iff.mpr c17
     subst c17
     have H1 : ((impl_AllIs.f kj4 t101 t102 t105).bind fun t111 => (if t111 = true then (some false) else ((impl_AllTrees.f kj4 t101 t102 t105).bind fun t112 => (if (t112.length : Int) = 0 then ((impl_AllParts.f kj4 t101 t102 t105).bind fun t115 => (some ((t115.length : Int) == 0))) else (some false))))) = some r := by rw [if_neg (show ¬ (false = true) by decide)] at H; exact H
     clear H
     have H := H1
     clear H1
     replace H := Option.bind_eq_some_iff.mp H
     obtain ⟨t111, A190, H⟩ := H
     replace H : (if t111 = true then (some false) else ((impl_AllTrees.f kj4 t101 t102 t105).bind fun t112 => (if (t112.length : Int) = 0 then ((impl_AllParts.f kj4 t101 t102 t105).bind fun t115 => (some ((t115.length : Int) == 0))) else (some false)))) = some r := H
     have A19 := Aside0.mk A190
     clear A190
     by_cases c20 : t111 = true
     ·subst c20
      have H1 : (some false) = some r := by rw [if_pos rfl] at H; exact H
      clear H
      have H := H1
      clear H1
      obtain rfl := Option.some.inj H
      have hcz21_0 : wc.cell? ⟨gb106, 0, none⟩ = some (.string t101) := (blk_cell BK106.out 0).trans rfl
      have hcz21_1 : wc.cell? ⟨gb106, 1, none⟩ = some (.slice Ao9 t102.length co9) := (blk_cell BK106.out 1).trans rfl
      have hfz21_0 := blk_frozen BK106.out 0
      have hfz21_1 := blk_frozen BK106.out 1
      go_wp2_with (first | ((with_reducible refine gate_callee (f := 24) rfl ?_); refine goesL_ (some 33) rfl rfl Tryz.func24 (by kernel_rfl) rfl #[.agg #[.string t101, .slice Ao9 t102.length co9], .string t105] rfl (by (try simp only [List.map_toArray, List.map_cons, List.map_nil]); first | done | rfl | (simp only [List.length_drop, List.length_take]; rfl)) ?_; (with_reducible refine (impl_AllIs.calls kj4 t101 _ _ t102 t105 true _ ?side1 ?side2 A19.out).mono ?_); (case side1 => repeat (first | exact (Kd.R_reads' HO_107001.out).2.2 | (with_reducible refine Kd.C_alloc ?_ _) | (with_reducible refine Kd.C_drewN ?_ _) | (with_reducible refine Kd.C_drew ?_))); (case side2 => exact (Kd.R_reads' HO_107001.out).2.1); rintro e w22 ⟨rfl, hb⟩; refine ⟨_, rfl, ?_⟩; have n0_ := Aside0.mk (Kd.R_below (by (with_reducible repeat (first | apply Kd.R_alloc | apply Kd.R_drewN | apply Kd.R_drew)); exact HO_107001.out) hb); have n1_ := Aside0.mk (blk_below (g := gb106) (o := .cells #[.string t101, .slice Ao9 t102.length co9] 25 (0, 0)) (by (with_reducible repeat (first | refine blk_drewN ?_ _ | refine blk_drew ?_ | refine blk_alloc ?_ _)); exact BK106.out) hb); have n2_ := Aside0.mk (below_step (by repeat (first | (with_reducible first | exact HB.out | apply below_alloc | apply pw_below_drewN | apply below_drew1 | refine below_set ?_ GE106.out) | exact HB.out)) hb); clear HO_107001; clear BK106; clear HB; have HO_107001 := n0_; have BK106 := n1_; have HB := n2_; clear n0_ n1_ n2_; (try clear hb); (try clear hb2); (try clear hk); (try clear hi)))
      go_ret
      exact ⟨by first | rfl | (simp [errW_none, errW_some] <;> rfl) | (simp [*, errW_none, errW_some] <;> rfl), by repeat (first | (with_reducible first | exact HB.out | apply below_alloc | apply pw_below_drewN | apply below_drew1 | refine below_set ?_ GE106.out) | exact HB.out)⟩
     ·replace c20 := Bool.eq_false_iff.mpr c20
      subst c20
      have H1 : ((impl_AllTrees.f kj4 t101 t102 t105).bind fun t112 => (if (t112.length : Int) = 0 then ((impl_AllParts.f kj4 t101 t102 t105).bind fun t115 => (some ((t115.length : Int) == 0))) else (some false))) = some r := by rw [if_neg (show ¬ (false = true) by decide)] at H; exact H
      clear H
      have H := H1
      clear H1
      replace H := Option.bind_eq_some_iff.mp H
      obtain ⟨t112, A230, H⟩ := H
      replace H : (if (t112.length : Int) = 0 then ((impl_AllParts.f kj4 t101 t102 t105).bind fun t115 => (some ((t115.length : Int) == 0))) else (some false)) = some r := H
      have A23 := Aside0.mk A230
      clear A230
      by_cases c24 : (t112.length : Int) = 0
      ·rw [if_pos c24] at H
       have c24b0 : ((t112.length : Int) == 0) = true := beq_iff_eq.mpr c24
       have c24b1 : ((t112.length : Int) != 0) = false := bne_eq_false_iff_eq.mpr c24
       clear c24
       replace H := Option.bind_eq_some_iff.mp H
       obtain ⟨t115, A250, H⟩ := H
       replace H : (some ((t115.length : Int) == 0)) = some r := H
       have A25 := Aside0.mk A250
       clear A250
       obtain rfl := Option.some.inj H
       have hcz26_0 : wc.cell? ⟨gb106, 0, none⟩ = some (.string t101) := (blk_cell BK106.out 0).trans rfl
       have hcz26_1 : wc.cell? ⟨gb106, 1, none⟩ = some (.slice Ao9 t102.length co9) := (blk_cell BK106.out 1).trans rfl
       have hfz26_0 := blk_frozen BK106.out 0
       have hfz26_1 := blk_frozen BK106.out 1
       go_wp2_with (first | ((with_reducible refine gate_callee (f := 24) rfl ?_); refine goesL_ (some 33) rfl rfl Tryz.func24 (by kernel_rfl) rfl #[.agg #[.string t101, .slice Ao9 t102.length co9], .string t105] rfl (by (try simp only [List.map_toArray, List.map_cons, List.map_nil]); first | done | rfl | (simp only [List.length_drop, List.length_take]; rfl)) ?_; (with_reducible refine (impl_AllIs.calls kj4 t101 _ _ t102 t105 false _ ?side1 ?side2 A19.out).mono ?_); (case side1 => repeat (first | exact (Kd.R_reads' HO_107001.out).2.2 | (with_reducible refine Kd.C_alloc ?_ _) | (with_reducible refine Kd.C_drewN ?_ _) | (with_reducible refine Kd.C_drew ?_))); (case side2 => exact (Kd.R_reads' HO_107001.out).2.1); rintro e w27 ⟨rfl, hb⟩; refine ⟨_, rfl, ?_⟩; have n0_ := Aside0.mk (Kd.R_below (by (with_reducible repeat (first | apply Kd.R_alloc | apply Kd.R_drewN | apply Kd.R_drew)); exact HO_107001.out) hb); have n1_ := Aside0.mk (blk_below (g := gb106) (o := .cells #[.string t101, .slice Ao9 t102.length co9] 25 (0, 0)) (by (with_reducible repeat (first | refine blk_drewN ?_ _ | refine blk_drew ?_ | refine blk_alloc ?_ _)); exact BK106.out) hb); have n2_ := Aside0.mk (below_step (by repeat (first | (with_reducible first | exact HB.out | apply below_alloc | apply pw_below_drewN | apply below_drew1 | refine below_set ?_ GE106.out) | exact HB.out)) hb); clear HO_107001; clear BK106; clear HB; have HO_107001 := n0_; have BK106 := n1_; have HB := n2_; clear n0_ n1_ n2_; (try clear hb); (try clear hb2); (try clear hk); (try clear hi); have hcz28_0 : w27.cell? ⟨gb106, 0, none⟩ = some (.string t101) := (blk_cell BK106.out 0).trans rfl; have hcz28_1 : w27.cell? ⟨gb106, 1, none⟩ = some (.slice Ao9 t102.length co9) := (blk_cell BK106.out 1).trans rfl; have hfz28_0 := blk_frozen BK106.out 0; have hfz28_1 := blk_frozen BK106.out 1) | (go_at_call 37; (with_reducible refine (impl_AllTrees.calls kj4 t101 _ _ t102 t105 t112 _ ?side1 ?side2 A23.out).mono ?_); (case side1 => repeat (first | exact (Kd.R_reads' HO_107001.out).2.2 | (with_reducible refine Kd.C_alloc ?_ _) | (with_reducible refine Kd.C_drewN ?_ _) | (with_reducible refine Kd.C_drew ?_))); (case side2 => exact (Kd.R_reads' HO_107001.out).2.1); rintro e w29 ⟨v113, rfl, ho0, hb⟩; have n0_ := Aside0.mk (Kd.R_below (by (with_reducible repeat (first | apply Kd.R_alloc | apply Kd.R_drewN | apply Kd.R_drew)); exact HO_107001.out) hb); have n1_ := Aside0.mk (Kd.R_lower ho0 (below_size (by repeat (first | (with_reducible first | exact HB.out | apply below_alloc | apply pw_below_drewN | apply below_drew1 | refine below_set ?_ GE106.out) | exact HB.out)))); have n2_ := Aside0.mk (blk_below (g := gb106) (o := .cells #[.string t101, .slice Ao9 t102.length co9] 25 (0, 0)) (by (with_reducible repeat (first | refine blk_drewN ?_ _ | refine blk_drew ?_ | refine blk_alloc ?_ _)); exact BK106.out) hb); have n3_ := Aside0.mk (below_step (by repeat (first | (with_reducible first | exact HB.out | apply below_alloc | apply pw_below_drewN | apply below_drew1 | refine below_set ?_ GE106.out) | exact HB.out)) hb); clear HO_107001; clear BK106; clear HB; have HO_107001 := n0_; have HO114 := n1_; have BK106 := n2_; have HB := n3_; clear n0_ n1_ n2_ n3_; (try clear hb); (try clear hb2); (try clear hk); (try clear hi); (try clear ho0); obtain ⟨Ao30, co30, eo30⟩ := Kd.R_slice HO114.out; subst eo30; have hcz31_0 : w29.cell? ⟨gb106, 0, none⟩ = some (.string t101) := (blk_cell BK106.out 0).trans rfl; have hcz31_1 : w29.cell? ⟨gb106, 1, none⟩ = some (.slice Ao9 t102.length co9) := (blk_cell BK106.out 1).trans rfl; have hfz31_0 := blk_frozen BK106.out 0; have hfz31_1 := blk_frozen BK106.out 1) | (go_at_call 38; (with_reducible refine (impl_AllParts.calls kj4 t101 _ _ t102 t105 t115 _ ?side1 ?side2 A25.out).mono ?_); (case side1 => repeat (first | exact (Kd.R_reads' HO_107001.out).2.2 | (with_reducible refine Kd.C_alloc ?_ _) | (with_reducible refine Kd.C_drewN ?_ _) | (with_reducible refine Kd.C_drew ?_))); (case side2 => exact (Kd.R_reads' HO_107001.out).2.1); rintro e w32 ⟨v116, rfl, ho0, hb⟩; have n0_ := Aside0.mk (Kd.R_below (by (with_reducible repeat (first | apply Kd.R_alloc | apply Kd.R_drewN | apply Kd.R_drew)); exact HO_107001.out) hb); have n1_ := Aside0.mk (Kd.R_below (by (with_reducible repeat (first | apply Kd.R_alloc | apply Kd.R_drewN | apply Kd.R_drew)); exact HO114.out) hb); have n2_ := Aside0.mk (Kd.R_lower ho0 (below_size (by repeat (first | (with_reducible first | exact HB.out | apply below_alloc | apply pw_below_drewN | apply below_drew1 | refine below_set ?_ GE106.out) | exact HB.out)))); have n3_ := Aside0.mk (blk_below (g := gb106) (o := .cells #[.string t101, .slice Ao9 t102.length co9] 25 (0, 0)) (by (with_reducible repeat (first | refine blk_drewN ?_ _ | refine blk_drew ?_ | refine blk_alloc ?_ _)); exact BK106.out) hb); have n4_ := Aside0.mk (below_step (by repeat (first | (with_reducible first | exact HB.out | apply below_alloc | apply pw_below_drewN | apply below_drew1 | refine below_set ?_ GE106.out) | exact HB.out)) hb); clear HO_107001; clear HO114; clear BK106; clear HB; have HO_107001 := n0_; have HO114 := n1_; have HO117 := n2_; have BK106 := n3_; have HB := n4_; clear n0_ n1_ n2_ n3_ n4_; (try clear hb); (try clear hb2); (try clear hk); (try clear hi); (try clear ho0); obtain ⟨Ao33, co33, eo33⟩ := Kd.R_slice HO117.out; subst eo33))
       go_ret
       exact ⟨by first | rfl | (simp [errW_none, errW_some] <;> rfl) | (simp [*, errW_none, errW_some] <;> rfl), by repeat (first | (with_reducible first | exact HB.out | apply below_alloc | apply pw_below_drewN | apply below_drew1 | refine below_set ?_ GE106.out) | exact HB.out)⟩
      ·rw [if_neg c24] at H
       have c24b0 : ((t112.length : Int) == 0) = false := beq_eq_false_iff_ne.mpr c24
       have c24b1 : ((t112.length : Int) != 0) = true := bne_iff_ne.mpr c24
       have c24b2 : ¬ (t112 = []) := fun h_ => c24 (by rw [h_]; rfl)
       obtain rfl := Option.some.inj H
       have hcz34_0 : wc.cell? ⟨gb106, 0, none⟩ = some (.string t101) := (blk_cell BK106.out 0).trans rfl
       have hcz34_1 : wc.cell? ⟨gb106, 1, none⟩ = some (.slice Ao9 t102.length co9) := (blk_cell BK106.out 1).trans rfl
       have hfz34_0 := blk_frozen BK106.out 0
       have hfz34_1 := blk_frozen BK106.out 1
       go_wp2_with (first | ((with_reducible refine gate_callee (f := 24) rfl ?_); refine goesL_ (some 33) rfl rfl Tryz.func24 (by kernel_rfl) rfl #[.agg #[.string t101, .slice Ao9 t102.length co9], .string t105] rfl (by (try simp only [List.map_toArray, List.map_cons, List.map_nil]); first | done | rfl | (simp only [List.length_drop, List.length_take]; rfl)) ?_; (with_reducible refine (impl_AllIs.calls kj4 t101 _ _ t102 t105 false _ ?side1 ?side2 A19.out).mono ?_); (case side1 => repeat (first | exact (Kd.R_reads' HO_107001.out).2.2 | (with_reducible refine Kd.C_alloc ?_ _) | (with_reducible refine Kd.C_drewN ?_ _) | (with_reducible refine Kd.C_drew ?_))); (case side2 => exact (Kd.R_reads' HO_107001.out).2.1); rintro e w35 ⟨rfl, hb⟩; refine ⟨_, rfl, ?_⟩; have n0_ := Aside0.mk (Kd.R_below (by (with_reducible repeat (first | apply Kd.R_alloc | apply Kd.R_drewN | apply Kd.R_drew)); exact HO_107001.out) hb); have n1_ := Aside0.mk (blk_below (g := gb106) (o := .cells #[.string t101, .slice Ao9 t102.length co9] 25 (0, 0)) (by (with_reducible repeat (first | refine blk_drewN ?_ _ | refine blk_drew ?_ | refine blk_alloc ?_ _)); exact BK106.out) hb); have n2_ := Aside0.mk (below_step (by repeat (first | (with_reducible first | exact HB.out | apply below_alloc | apply pw_below_drewN | apply below_drew1 | refine below_set ?_ GE106.out) | exact HB.out)) hb); clear HO_107001; clear BK106; clear HB; have HO_107001 := n0_; have BK106 := n1_; have HB := n2_; clear n0_ n1_ n2_; (try clear hb); (try clear hb2); (try clear hk); (try clear hi); have hcz36_0 : w35.cell? ⟨gb106, 0, none⟩ = some (.string t101) := (blk_cell BK106.out 0).trans rfl; have hcz36_1 : w35.cell? ⟨gb106, 1, none⟩ = some (.slice Ao9 t102.length co9) := (blk_cell BK106.out 1).trans rfl; have hfz36_0 := blk_frozen BK106.out 0; have hfz36_1 := blk_frozen BK106.out 1) | (go_at_call 37; (with_reducible refine (impl_AllTrees.calls kj4 t101 _ _ t102 t105 t112 _ ?side1 ?side2 A23.out).mono ?_); (case side1 => repeat (first | exact (Kd.R_reads' HO_107001.out).2.2 | (with_reducible refine Kd.C_alloc ?_ _) | (with_reducible refine Kd.C_drewN ?_ _) | (with_reducible refine Kd.C_drew ?_))); (case side2 => exact (Kd.R_reads' HO_107001.out).2.1); rintro e w37 ⟨v113, rfl, ho0, hb⟩; have n0_ := Aside0.mk (Kd.R_below (by (with_reducible repeat (first | apply Kd.R_alloc | apply Kd.R_drewN | apply Kd.R_drew)); exact HO_107001.out) hb); have n1_ := Aside0.mk (Kd.R_lower ho0 (below_size (by repeat (first | (with_reducible first | exact HB.out | apply below_alloc | apply pw_below_drewN | apply below_drew1 | refine below_set ?_ GE106.out) | exact HB.out)))); have n2_ := Aside0.mk (blk_below (g := gb106) (o := .cells #[.string t101, .slice Ao9 t102.length co9] 25 (0, 0)) (by (with_reducible repeat (first | refine blk_drewN ?_ _ | refine blk_drew ?_ | refine blk_alloc ?_ _)); exact BK106.out) hb); have n3_ := Aside0.mk (below_step (by repeat (first | (with_reducible first | exact HB.out | apply below_alloc | apply pw_below_drewN | apply below_drew1 | refine below_set ?_ GE106.out) | exact HB.out)) hb); clear HO_107001; clear BK106; clear HB; have HO_107001 := n0_; have HO114 := n1_; have BK106 := n2_; have HB := n3_; clear n0_ n1_ n2_ n3_; (try clear hb); (try clear hb2); (try clear hk); (try clear hi); (try clear ho0); obtain ⟨Ao38, co38, eo38⟩ := Kd.R_slice HO114.out; subst eo38))
       go_ret
       exact ⟨by first | rfl | (simp [errW_none, errW_some] <;> rfl) | (simp [*, errW_none, errW_some] <;> rfl), by repeat (first | (with_reducible first | exact HB.out | apply below_alloc | apply pw_below_drewN | apply below_drew1 | refine below_set ?_ GE106.out) | exact HB.out)⟩
def laws_FnAllBent.Pure : Prop := ∀ (l0 : List Int), l0.length ≤ maxLen → l0.length * 1 ≤ 140737488351232 → (∀ x ∈ l0, (Lit.int .u8 x).wf = true) → ∃ k, laws_FnAllBent.f k l0 = some true
theorem laws_FnAllBent.walk (P : laws_FnAllBent.Pure) (a0 : Option Addr) (len0 cap0 : Nat) (z0 : List Int) (w : World) (w0 : (a0 = none ∧ len0 = 0 ∧ cap0 = 0 ∧ z0 = []) ∨ ∃ x, a0 = some x ∧ len0 ≤ cap0 ∧ cap0 ≤ maxLen ∧ z0.length = cap0 ∧ (∀ i, i < z0.length → w.cell? (x.add i) = some (.int .u8 (z0.getD i 0))) ∧ ∀ n ∈ z0, (Lit.int .u8 n).wf = true) (y0 : len0 * 1 ≤ 140737488351232) :
  Calls Tryz.prog 6 #[.slice a0 len0 cap0] w fun e w' => e = .returned (.bool true) ∧ Below w.heap.size w w' := by
 obtain ⟨l0, rfl, hr0, hm0, hw0, hc0⟩ := ReadsInt.ofRowC w0
 obtain ⟨k, h⟩ := P l0 hm0 y0 hw0
 refine (laws_FnAllBent.calls k _ _ l0 true w (Kd.C_of_reads (d := (0 : Int)) (h1 := fun _ => rfl) hr0) hc0 h).mono ?_
 rintro e w' ⟨rfl, hd⟩
 exact ⟨rfl, hd⟩
end Go.Proofs.YtiibnkibckklgaaGreatDoor.P
namespace Go.Proofs.YtiibnkibckklgaaGreatDoor.P
set_option linter.unusedVariables false
set_option linter.unusedSimpArgs false
open Go.RowKit Go.Proofs.YtiibnkibckklgaaGreatDoorW.PrintWords
def Tot {α : Type} (g : Nat → Option α) (P : α → Prop) : Prop := ∃ K r, P r ∧ ∀ k, K ≤ k → g k = some r
section
variable {α β : Type} {g : Nat → Option α} {P Q : α → Prop}
theorem Tot.ret {r : α} (h : P r) : Tot (fun _ => some r) P := ⟨0, r, h, fun _ _ => rfl⟩
theorem Tot.of {o : Option α} {r : α} (e : o = some r) (h : P r) : Tot (fun _ => o) P := ⟨0, r, h, fun _ _ => e⟩
theorem Tot.bind {h : α → Nat → Option β} {R : β → Prop} (hg : Tot g P) (hh : ∀ r, P r → Tot (h r) R) : Tot (fun k => (g k).bind fun r => h r k) R := by
  obtain ⟨K, r, hp, hK⟩ := hg
  obtain ⟨L, s, hq, hL⟩ := hh r hp
  exact ⟨max K L, s, hq, fun k hk => by simp only [hK k (by omega), hL k (by omega), Option.bind_some]⟩
theorem Tot.ite {c : Prop} [Decidable c] {h : Nat → Option α} (h1 : c → Tot g P) (h2 : ¬ c → Tot h P) : Tot (fun k => if c then g k else h k) P := by
  by_cases hc : c
  · obtain ⟨K, r, hp, hK⟩ := h1 hc
    exact ⟨K, r, hp, fun k hk => by simp only [if_pos hc, hK k hk]⟩
  · obtain ⟨K, r, hp, hK⟩ := h2 hc
    exact ⟨K, r, hp, fun k hk => by simp only [if_neg hc, hK k hk]⟩
theorem Tot.pos {c : Prop} [Decidable c] {h : Nat → Option α} (hc : c) (h1 : Tot g P) : Tot (fun k => if c then g k else h k) P := Tot.ite (fun _ => h1) (fun h => absurd hc h)
theorem Tot.neg {c : Prop} [Decidable c] {h : Nat → Option α} (hc : ¬ c) (h1 : Tot h P) : Tot (fun k => if c then g k else h k) P := Tot.ite (fun h => absurd h hc) (fun _ => h1)
theorem Tot.step {h : Nat → Option α} (e : ∀ k, g (k + 1) = h k) (t : Tot h P) : Tot g P := by
  obtain ⟨K, r, hp, hK⟩ := t
  refine ⟨K + 1, r, hp, fun k hk => ?_⟩
  obtain ⟨m, rfl⟩ : ∃ m, k = m + 1 := ⟨k - 1, by omega⟩
  rw [e, hK m (by omega)]
theorem Tot.mono (t : Tot g P) (h : ∀ r, P r → Q r) : Tot g Q := by
  obtain ⟨K, r, hp, hK⟩ := t
  exact ⟨K, r, h r hp, hK⟩
theorem Tot.get (t : Tot g P) : ∃ k r, g k = some r ∧ P r := by
  obtain ⟨K, r, hp, hK⟩ := t
  exact ⟨K, r, hK K (Nat.le_refl _), hp⟩
theorem Tot.ends {v : α} (t : Tot g (fun r => r = v)) : ∃ k, g k = some v := by
  obtain ⟨k, r, h, rfl⟩ := t.get
  exact ⟨k, h⟩
end
theorem w64 {x : Int} (h0 : -9223372036854775808 ≤ x) (h1 : x ≤ 9223372036854775807) : wrap64 x = x := by unfold wrap64; omega
/-! ### texts -/
theorem bytes_toList (s : ByteArray) : s.toList = s.data.toList := ByteArray.toList_eq s
theorem bytes_ext {a b : ByteArray} (h : a.data.toList = b.data.toList) : a = b := by
  cases a with | mk a => cases b with | mk b =>
  congr
  exact Array.toList_inj.mp h
theorem toList_beq (a b : ByteArray) : (a.toList == b.toList) = decide (a = b) := by
  rw [bytes_toList, bytes_toList]
  by_cases h : a = b
  · subst h; simp
  · simp [h]; exact fun h' => h (bytes_ext (by rw [h']))
theorem toList_eq_iff (a b : ByteArray) : a.toList = b.toList ↔ a = b := by
  rw [bytes_toList, bytes_toList]; exact ⟨bytes_ext, fun h => by rw [h]⟩
theorem size_toList (s : ByteArray) : s.size = s.data.toList.length := by simp
theorem bt_get (s : ByteArray) (i : Nat) (h : i < s.size) : bt s (i : Int) = ((s.data.toList[i]'(by simpa using h)).toNat : Int) := by
  have := bt_at s (i : Int) (by simpa using h)
  rw [← this]
  rfl
theorem drop_cons_bt (s : ByteArray) (i : Nat) (h : i < s.size) : ∃ c : UInt8, s.data.toList.drop i = c :: s.data.toList.drop (i + 1) ∧ bt s (i : Int) = (c.toNat : Int) :=
  ⟨s.data.toList[i]'(by simpa using h), List.drop_eq_getElem_cons (by simpa using h), bt_get s i h⟩
end Go.Proofs.YtiibnkibckklgaaGreatDoor.P
namespace Go.Proofs.YtiibnkibckklgaaGreatDoor.P
set_option linter.unusedVariables false
set_option linter.unusedSimpArgs false
open Go.RowKit Go.Proofs.YtiibnkibckklgaaGreatDoorW.PrintWords
abbrev RuleS := S32
instance instRuleDec : DecidableEq RuleS := fun a b => decidable_of_iff (a.f0 = b.f0 ∧ a.f1 = b.f1) (by cases a; cases b; simp)
def isBigB (c : UInt8) : Bool := [65, 66, 67, 68, 69].contains c
theorem isBigB_iff (c : UInt8) : isBigB c = true ↔ 65 ≤ (c.toNat : Int) ∧ (c.toNat : Int) ≤ 69 := by
  unfold isBigB
  simp only [List.contains_eq_mem, List.mem_cons, List.not_mem_nil, or_false, decide_eq_true_eq, ← UInt8.toNat_inj]
  simp; omega
theorem isSmallB_iff (c : UInt8) : isSmallB c = true ↔ 97 ≤ (c.toNat : Int) ∧ (c.toNat : Int) ≤ 100 := by
  unfold isSmallB
  simp only [List.contains_eq_mem, List.mem_cons, List.not_mem_nil, or_false, decide_eq_true_eq, ← UInt8.toNat_inj]
  simp; omega
theorem isSignB_eq (c : UInt8) : isSignB c = (isBigB c || isSmallB c) := by
  unfold isSignB isBigB isSmallB
  rw [Bool.eq_iff_iff]
  simp only [List.contains_eq_mem, List.mem_cons, List.not_mem_nil, or_false, decide_eq_true_eq, Bool.or_eq_true, or_assoc]
def oneBig (s : ByteArray) : Bool := match s.data.toList with | [c] => isBigB c | _ => false
def oneSmall (s : ByteArray) : Bool := match s.data.toList with | [c] => isSmallB c | _ => false
theorem one_cases (s : ByteArray) : (s.size = 1 ∧ ∃ c : UInt8, s.data.toList = [c] ∧ bt s 0 = (c.toNat : Int)) ∨ (s.size ≠ 1 ∧ ∀ c, s.data.toList ≠ [c]) := by
  by_cases h : s.size = 1
  · left
    refine ⟨h, ?_⟩
    obtain ⟨c, e, hb⟩ := drop_cons_bt s 0 (by omega)
    refine ⟨c, ?_, hb⟩
    have hl : s.data.toList.length = 1 := by simpa using h
    match hs : s.data.toList, hl with
    | [d], _ => rw [hs] at e; simpa using e
  · right
    refine ⟨h, fun c hc => h ?_⟩
    rw [size_toList, hc]; rfl
theorem spec_l1Big.is (c : UInt8) : spec_l1Big.f (c.toNat : Int) = some (isBigB c) := by
  unfold spec_l1Big.f
  have := isBigB_iff c
  by_cases h1 : (c.toNat : Int) ≥ 65
  · rw [if_pos h1]; congr 1; rw [Bool.eq_iff_iff, decide_eq_true_eq, this]; omega
  · rw [if_neg h1]; congr 1; symm; rw [Bool.eq_false_iff]; intro h; rw [this] at h; omega
theorem spec_l1Small.is (c : UInt8) : spec_l1Small.f (c.toNat : Int) = some (isSmallB c) := by
  unfold spec_l1Small.f
  have := isSmallB_iff c
  by_cases h1 : (c.toNat : Int) ≥ 97
  · rw [if_pos h1]; congr 1; rw [Bool.eq_iff_iff, decide_eq_true_eq, this]; omega
  · rw [if_neg h1]; congr 1; symm; rw [Bool.eq_false_iff]; intro h; rw [this] at h; omega
theorem spec_SignBig.is (s : ByteArray) : spec_SignBig.f s = some (oneBig s) := by
  unfold spec_SignBig.f oneBig
  rcases one_cases s with ⟨h, c, e, hb⟩ | ⟨h, e⟩
  · rw [if_pos (by omega), if_pos (by omega), hb, spec_l1Big.is, e]; rfl
  · rw [if_neg (by omega)]
    split
    · exact absurd ‹_› (e _)
    · rfl
theorem spec_SignSmall.is (s : ByteArray) : spec_SignSmall.f s = some (oneSmall s) := by
  unfold spec_SignSmall.f oneSmall
  rcases one_cases s with ⟨h, c, e, hb⟩ | ⟨h, e⟩
  · rw [if_pos (by omega), if_pos (by omega), hb, spec_l1Small.is, e]; rfl
  · rw [if_neg (by omega)]
    split
    · exact absurd ‹_› (e _)
    · rfl
theorem impl_SignBig.is (s : ByteArray) : impl_SignBig.f s = some (oneBig s) := by
  unfold impl_SignBig.f impl_isIn.f oneBig
  rcases one_cases s with ⟨h, c, e, hb⟩ | ⟨h, e⟩
  · rw [if_pos (by omega), if_pos (by omega), hb, e]
    have := isBigB_iff c
    by_cases h1 : (c.toNat : Int) ≥ 65
    · rw [if_pos h1]; simp only [Option.bind_some]; congr 1; rw [Bool.eq_iff_iff, decide_eq_true_eq, this]; omega
    · rw [if_neg h1]; simp only [Option.bind_some]; congr 1; symm; rw [Bool.eq_false_iff]; intro h; rw [this] at h; omega
  · rw [if_neg (by omega)]
    split
    · exact absurd ‹_› (e _)
    · rfl
theorem spec_l1Right.tot (s : ByteArray) (m : Int) (hs : s.size ≤ 1099511627776) : Tot (fun k => spec_l1Right.f k s m) (fun r => r = (s.data.toList.all isSignB && decide ((s.size : Int) ≤ m))) := by
  have key : ∀ d i : Nat, i + d = s.size → Tot (fun k => spec_l1Right.l0 k s m (i : Int)) (fun r => r = ((s.data.toList.drop i).all isSignB && decide ((s.size : Int) ≤ m))) := by
    intro d
    induction d with
    | zero =>
      intro i hi
      refine Tot.step (fun k => rfl) (Tot.neg (by omega) (Tot.ret ?_))
      rw [List.drop_of_length_le (by simp; omega)]; simp
    | succ d ih =>
      intro i hi
      obtain ⟨c, ec, eb⟩ := drop_cons_bt s i (by omega)
      refine Tot.step (fun k => rfl) (Tot.pos (by omega) (Tot.pos (by omega) ?_))
      rw [eb, spec_l1Big.is, spec_l1Small.is, ec, List.all_cons, isSignB_eq, w64 (by omega) (by omega)]
      simp only [Option.bind_some]
      refine Tot.ite (fun h => ?_) (fun h => Tot.ite (fun h2 => ?_) (fun h2 => Tot.ret ?_))
      · rw [h]; simpa using ih (i + 1) (by omega)
      · rw [h2]; simpa using ih (i + 1) (by omega)
      · simp [Bool.eq_false_iff.mpr h, Bool.eq_false_iff.mpr h2]
  simpa [spec_l1Right.f] using key s.size 0 (by omega)
theorem drop_cons_rd (l : List RuleS) (i : Nat) (h : i < l.length) : l.drop i = rd_T32 l (i : Int) :: l.drop (i + 1) := by
  rw [List.drop_eq_getElem_cons h]
  congr 1
  simp [rd_T32, List.getD_eq_getElem?_getD, List.getElem?_eq_getElem h]
theorem rule_eq_iff (x : RuleS) (a b : ByteArray) : (x.f0.toList == a.toList && (x.f1.toList == b.toList)) = true ↔ x = ⟨a, b⟩ := by
  rw [toList_beq, toList_beq, Bool.and_eq_true, decide_eq_true_eq, decide_eq_true_eq]
  cases x with | mk p q =>
  exact ⟨fun h => by obtain ⟨h1, h2⟩ := h; simp only at h1 h2; subst h1 h2; rfl, fun h => by injection h with h1 h2; exact ⟨h1, h2⟩⟩
theorem rule_eq_iff2 (x : RuleS) (a b : ByteArray) : (a.toList == x.f0.toList && (b.toList == x.f1.toList)) = true ↔ x = ⟨a, b⟩ := by
  rw [toList_beq, toList_beq, Bool.and_eq_true, decide_eq_true_eq, decide_eq_true_eq]
  cases x with | mk p q =>
  exact ⟨fun h => by obtain ⟨h1, h2⟩ := h; simp only at h1 h2; subst h1 h2; rfl, fun h => by injection h with h1 h2; exact ⟨h1.symm, h2.symm⟩⟩
theorem spec_l1Place.tot (l : List RuleS) (a b : ByteArray) (hl : l.length ≤ 1099511627776) : Tot (fun k => spec_l1Place.f k l a b) (fun r => (0 ≤ r ↔ (⟨a, b⟩ : RuleS) ∈ l) ∧ -1 ≤ r ∧ r < l.length) := by
  have key : ∀ d i : Nat, i + d = l.length → Tot (fun k => spec_l1Place.l0 k l (i : Int) a b) (fun r => (0 ≤ r ↔ (⟨a, b⟩ : RuleS) ∈ l.drop i) ∧ -1 ≤ r ∧ r < l.length) := by
    intro d
    induction d with
    | zero =>
      intro i hi
      refine Tot.step (fun k => rfl) (Tot.neg (by omega) (Tot.ret ?_))
      rw [List.drop_of_length_le (by omega)]; simp; omega
    | succ d ih =>
      intro i hi
      refine Tot.step (fun k => rfl) (Tot.pos (by omega) (Tot.pos (by omega) ?_))
      rw [drop_cons_rd l i (by omega), w64 (by omega) (by omega)]
      refine Tot.ite (fun h => Tot.ret ?_) (fun h => ?_)
      · have := (rule_eq_iff _ _ _).1 h
        rw [this]; simp; omega
      · have hn : ¬ rd_T32 l (i : Int) = ⟨a, b⟩ := fun e => h ((rule_eq_iff _ _ _).2 e)
        refine (ih (i + 1) (by omega)).mono fun r hr => ?_
        rw [List.mem_cons, hr.1]
        exact ⟨⟨.inr, fun h' => h'.resolve_left (fun e => hn e.symm)⟩, hr.2⟩
  simpa [spec_l1Place.f] using key l.length 0 (by omega)
theorem impl_Rule_136.tot (l : List RuleS) (a b : ByteArray) (hl : l.length ≤ 1099511627776) : Tot (fun k => impl_Rule_136.f k l a b) (fun r => r = true ↔ (⟨a, b⟩ : RuleS) ∈ l) := by
  have key : ∀ d i : Nat, i + d = l.length → Tot (fun k => impl_Rule_183.l0 k l (l.length : Int) (i : Int) a b) (fun r => 0 ≤ r ↔ (⟨a, b⟩ : RuleS) ∈ l.drop i) := by
    intro d
    induction d with
    | zero =>
      intro i hi
      refine Tot.step (fun k => rfl) (Tot.neg (by omega) (Tot.ret ?_))
      rw [List.drop_of_length_le (by omega)]; simp
    | succ d ih =>
      intro i hi
      refine Tot.step (fun k => rfl) (Tot.pos (by omega) (Tot.pos (by omega) (Tot.pos (by omega) ?_)))
      rw [drop_cons_rd l i (by omega), w64 (by omega) (by omega)]
      refine Tot.ite (fun h => Tot.ret ?_) (fun h => ?_)
      · have := (rule_eq_iff2 _ _ _).1 h
        rw [this]; simp
      · have hn : ¬ rd_T32 l (i : Int) = ⟨a, b⟩ := fun e => h ((rule_eq_iff2 _ _ _).2 e)
        refine (ih (i + 1) (by omega)).mono fun r hr => ?_
        rw [List.mem_cons, hr]
        exact ⟨.inr, fun h' => h'.resolve_left (fun e => hn e.symm)⟩
  unfold impl_Rule_136.f impl_Rule_183.f
  refine Tot.bind (key l.length 0 (by omega)) fun r hr => Tot.ret ?_
  rw [decide_eq_true_eq]; simpa using hr
/-! ### a grammar is right -/
def ruleOkB (seen : List RuleS) (x : RuleS) : Bool := oneBig x.f0 && (decide ((x.f1.size : Int) ≤ 4) && x.f1.data.toList.all isSignB) && !decide (x ∈ seen)
def rulesOkB (l : List RuleS) (i : Nat) : List RuleS → Bool
  | [] => true
  | x :: r => ruleOkB (l.take i) x && rulesOkB l (i + 1) r
def gramOkB (s : ByteArray) (l : List RuleS) : Bool := oneBig s && decide (l.length ≤ 8) && rulesOkB l 0 l
def SmallG (l : List RuleS) : Prop := l.length ≤ 1099511627776 ∧ ∀ x ∈ l, x.f0.size ≤ 1099511627776 ∧ x.f1.size ≤ 1099511627776
theorem mem_rd (l : List RuleS) (i : Nat) (h : i < l.length) : rd_T32 l (i : Int) ∈ l := by
  simp [rd_T32, List.getD_eq_getElem?_getD, List.getElem?_eq_getElem h]
theorem spec_GramOk.tot (s : ByteArray) (l : List RuleS) (hl : SmallG l) : Tot (fun k => spec_GramOk.f k s l) (fun r => r = gramOkB s l) := by
  have key : ∀ d i : Nat, i + d = l.length → Tot (fun k => spec_GramOk.l0 k (i : Int) s l) (fun r => r = rulesOkB l i (l.drop i)) := by
    intro d
    induction d with
    | zero =>
      intro i hi
      refine Tot.step (fun k => rfl) (Tot.neg (by omega) (Tot.ret ?_))
      rw [List.drop_of_length_le (by omega)]; rfl
    | succ d ih =>
      intro i hi
      have hm := mem_rd l i (by omega)
      have hsz := hl.2 _ hm
      have hlen := hl.1
      refine Tot.step (fun k => rfl) (Tot.pos (by omega) (Tot.pos (by omega) ?_))
      rw [drop_cons_rd l i (by omega), w64 (by omega) (by omega), spec_SignBig.is]
      simp only [Option.bind_some, rulesOkB, ruleOkB]
      refine Tot.ite (fun h => ?_) (fun h => Tot.ret (by simp [Bool.eq_false_iff.mpr h]))
      rw [h]
      refine Tot.bind (spec_l1Right.tot _ 4 hsz.2) ?_
      rintro _ rfl
      refine Tot.ite (fun h2 => ?_) (fun h2 => Tot.ret (by rw [Bool.and_comm] at h2; rw [Bool.eq_false_iff.mpr h2]; simp))
      rw [Bool.and_comm] at h2
      rw [h2]
      refine Tot.pos (by omega) ?_
      refine Tot.bind (spec_l1Place.tot _ _ _ (by rw [List.length_take]; omega)) ?_
      intro r hr
      have e : ((i : Int)).toNat = i := by omega
      rw [e] at hr
      refine Tot.ite (fun h3 => Tot.ret ?_) (fun h3 => ?_)
      · have := hr.1.1 (by omega); simp [this]
      · have : ¬ rd_T32 l (i : Int) ∈ l.take i := fun hh => h3 (hr.1.2 hh)
        simpa [this] using ih (i + 1) (by omega)
  unfold spec_GramOk.f
  rw [spec_SignBig.is]
  simp only [Option.bind_some, gramOkB]
  refine Tot.ite (fun h => ?_) (fun h => Tot.step (h := fun _ => some false) (fun k => rfl) (Tot.ret (by simp [Bool.eq_false_iff.mpr h])))
  rw [h]
  refine Tot.step (fun k => rfl) (Tot.ite (fun h2 => Tot.ret ?_) (fun h2 => ?_))
  · have : ¬ l.length ≤ 8 := by have := of_decide_eq_true h2; omega
    simp [this]
  · have : l.length ≤ 8 := by simp at h2; omega
    simpa [this] using key l.length 0 (by omega)
theorem impl_GramOk.tot (s : ByteArray) (l : List RuleS) (hl : SmallG l) : Tot (fun k => impl_GramOk.f k s l) (fun r => r = gramOkB s l) := by
  have key : ∀ d i : Nat, i + d = l.length → Tot (fun k => impl_GramOk.l0 k l (l.length : Int) (i : Int) s l) (fun r => r = rulesOkB l i (l.drop i)) := by
    intro d
    induction d with
    | zero =>
      intro i hi
      refine Tot.step (fun k => rfl) (Tot.neg (by omega) (Tot.ret ?_))
      rw [List.drop_of_length_le (by omega)]; rfl
    | succ d ih =>
      intro i hi
      have hlen := hl.1
      refine Tot.step (fun k => rfl) (Tot.pos (by omega) (Tot.pos (by omega) (Tot.pos (by omega) ?_)))
      rw [drop_cons_rd l i (by omega), w64 (by omega) (by omega), impl_SignBig.is]
      simp only [Option.bind_some, rulesOkB, ruleOkB, impl_areSigns.f, if_pos (show (4 : Int) ≤ 1000 by decide)]
      refine Tot.ite (fun h => ?_) (fun h => Tot.ret (by simp [Bool.eq_false_iff.mpr h]))
      rw [h]
      refine Tot.ite (fun h2 => ?_) (fun h2 => Tot.ret (by rw [Bool.eq_false_iff.mpr h2]; simp))
      rw [h2]
      refine Tot.pos (by omega) ?_
      refine Tot.bind (impl_Rule_136.tot _ _ _ (by rw [List.length_take]; omega)) ?_
      intro r hr
      have e : ((i : Int)).toNat = i := by omega
      rw [e] at hr
      refine Tot.ite (fun h3 => Tot.ret ?_) (fun h3 => ?_)
      · have := hr.1 h3; simp [this]
      · have : ¬ rd_T32 l (i : Int) ∈ l.take i := fun hh => h3 (hr.2 hh)
        simpa [this] using ih (i + 1) (by omega)
  unfold impl_GramOk.f
  rw [impl_SignBig.is]
  simp only [Option.bind_some, gramOkB]
  refine Tot.ite (fun h => ?_) (fun h => Tot.step (h := fun _ => some false) (fun k => rfl) (Tot.ret (by simp [Bool.eq_false_iff.mpr h])))
  rw [h]
  refine Tot.step (fun k => rfl) (Tot.ite (fun h2 => Tot.ret ?_) (fun h2 => ?_))
  · have : ¬ l.length ≤ 8 := by have := of_decide_eq_true h2; omega
    simp [this]
  · have : l.length ≤ 8 := by simp at h2; omega
    simpa [this] using key l.length 0 (by omega)
/-! ### a text is right -/
def textOkB (s : ByteArray) : Bool := decide ((s.size : Int) ≤ 8) && s.data.toList.all isSmallB
theorem impl_TextOk.is (s : ByteArray) : impl_TextOk.f s = some (textOkB s) := by
  unfold impl_TextOk.f impl_areSmalls.f
  rw [if_pos (by decide)]; rfl
theorem spec_TextOk.tot (s : ByteArray) (hs : s.size ≤ 1099511627776) : Tot (fun k => spec_TextOk.f k s) (fun r => r = textOkB s) := by
  have key : ∀ d i : Nat, i + d = s.size → Tot (fun k => spec_TextOk.l0 k s (i : Int)) (fun r => r = (decide ((s.size : Int) ≤ 8) && (s.data.toList.drop i).all isSmallB)) := by
    intro d
    induction d with
    | zero =>
      intro i hi
      refine Tot.step (fun k => rfl) (Tot.neg (by omega) (Tot.ret ?_))
      rw [List.drop_of_length_le (by simp; omega)]; simp
    | succ d ih =>
      intro i hi
      obtain ⟨c, ec, eb⟩ := drop_cons_bt s i (by omega)
      refine Tot.step (fun k => rfl) (Tot.pos (by omega) (Tot.pos (by omega) ?_))
      rw [eb, spec_l1Small.is, ec, List.all_cons, w64 (by omega) (by omega)]
      simp only [Option.bind_some]
      refine Tot.ite (fun h => ?_) (fun h => Tot.ret ?_)
      · rw [h]; simpa using ih (i + 1) (by omega)
      · simp [Bool.eq_false_iff.mpr h]
  simpa [textOkB, spec_TextOk.f] using key s.size 0 (by omega)
theorem impl_areBoth.tot (s : ByteArray) (l : List RuleS) (t : ByteArray) (hl : SmallG l) : Tot (fun k => impl_areBoth.f k s l t) (fun r => r = (gramOkB s l && textOkB t)) := by
  unfold impl_areBoth.f
  refine Tot.bind (impl_GramOk.tot s l hl) ?_
  rintro _ rfl
  rw [impl_TextOk.is]
  refine Tot.ite (fun h => Tot.ret (by rw [h]; rfl)) (fun h => Tot.ret (by simp [Bool.eq_false_iff.mpr h]))
end Go.Proofs.YtiibnkibckklgaaGreatDoor.P
namespace Go.Proofs.YtiibnkibckklgaaGreatDoor.P
set_option linter.unusedVariables false
set_option linter.unusedSimpArgs false
open Go.RowKit Go.Proofs.YtiibnkibckklgaaGreatDoorW.PrintWords
def RdB (s : List Int) : Prop := s.length ≤ 2000 ∧ ∀ x ∈ s, 0 ≤ x ∧ x ≤ 255
theorem RdB.bd {s : List Int} (h : RdB s) (i : Int) : 0 ≤ rd s i ∧ rd s i ≤ 255 := by
  unfold rd
  rw [List.getD_eq_getElem?_getD]
  by_cases hi : i.toNat < s.length
  · rw [List.getElem?_eq_getElem hi]; exact h.2 _ (List.getElem_mem hi)
  · rw [List.getElem?_eq_none (by omega)]; simp
theorem xor_nonneg {a b : Int} (ha : 0 ≤ a) (ha2 : a < 4611686018427387904) (hb : 0 ≤ b) (hb2 : b < 4611686018427387904) : 0 ≤ Go.bits .xor .i64 a b := by
  obtain ⟨m, rfl⟩ := Int.eq_ofNat_of_zero_le ha
  obtain ⟨n, rfl⟩ := Int.eq_ofNat_of_zero_le hb
  have hx : m ^^^ n < 2 ^ 62 := Nat.xor_lt_two_pow (by omega) (by omega)
  have h1 : (BitVec.ofInt 64 (m : Int)).toNat = m := by
    rw [BitVec.ofInt_natCast, BitVec.toNat_ofNat]; exact Nat.mod_eq_of_lt (by omega)
  have h2 : (BitVec.ofInt 64 (n : Int)).toNat = n := by
    rw [BitVec.ofInt_natCast, BitVec.toNat_ofNat]; exact Nat.mod_eq_of_lt (by omega)
  show 0 ≤ IntKind.i64.wrap ((BitVec.ofInt 64 (m : Int) ^^^ BitVec.ofInt 64 (n : Int)).toNat : Int)
  rw [BitVec.toNat_xor, h1, h2, IntKind.wrap_i64]
  omega
theorem tmod_bd {a n : Int} (ha : 0 ≤ a) (hn : 0 < n) : 0 ≤ Int.tmod a n ∧ Int.tmod a n < n := by
  rw [Int.tmod_eq_emod_of_nonneg ha]
  exact ⟨Int.emod_nonneg _ (by omega), Int.emod_lt_of_pos _ hn⟩
theorem tdiv_bd {a n : Int} (ha : 0 ≤ a) (hn : 0 < n) : 0 ≤ Int.tdiv a n ∧ Int.tdiv a n ≤ a := by
  rw [Int.tdiv_eq_ediv_of_nonneg ha]
  exact ⟨Int.ediv_nonneg ha (by omega), Int.ediv_le_self _ ha⟩
theorem spec_l17Rd_pick.tot {s : List Int} (hs : RdB s) {p n : Int} (h0 : 0 ≤ p) (h1 : p < 1000000000) (hn : 1 ≤ n) : Tot (fun k => spec_l17Rd_pick.f k s p n) (fun r => 0 ≤ r.1 ∧ r.1 < n ∧ r.2 = p + 1) := by
  unfold spec_l17Rd_pick.f
  refine Tot.neg (by omega) ?_
  refine Tot.step (fun k => by rw [spec_l17Rd_pick.j0]) ?_
  have e1 : wrap64 (p + 1) = p + 1 := w64 (by omega) (by omega)
  have e2 : wrap64 (p + 1 - 1) = p := by rw [show p + 1 - 1 = p by omega]; exact w64 (by omega) (by omega)
  rw [e1, e2]
  refine Tot.ite (fun _ => Tot.ret ⟨by simp, by simp only; omega, rfl⟩) (fun hne => ?_)
  have hl : 0 < (s.length : Int) := by
    rcases s with _ | ⟨a, s⟩
    · simp at hne
    · simp
  have hr := fun i => hs.bd i
  refine Tot.ite (fun h => Tot.pos h0 (Tot.neg (by omega) (Tot.ret ?_))) (fun h => ?_)
  · have := hr p
    rw [w64 (by omega) (by omega)]
    have := tmod_bd (a := rd s p) (n := n) (by omega) (by omega)
    exact ⟨this.1, this.2, rfl⟩
  · have hL := hs.1
    have b1 := tmod_bd (a := p) (n := s.length) h0 hl
    rw [w64 (x := p * 7) (by omega) (by omega), w64 (x := p * 7 + 3) (by omega) (by omega), w64 (x := p * 29) (by omega) (by omega)]
    have b2 := tmod_bd (a := p * 7 + 3) (n := s.length) (by omega) hl
    have b3 := tdiv_bd (a := p) (n := s.length) h0 hl
    have r1 := hr (Int.tmod p s.length)
    have r2 := hr (Int.tmod (p * 7 + 3) s.length)
    generalize Int.tmod p s.length = i at b1 r1 ⊢
    generalize Int.tmod (p * 7 + 3) s.length = j at b2 r2 ⊢
    generalize Int.tdiv p s.length = q at b3 ⊢
    refine Tot.neg (by omega) (Tot.pos b1.1 (Tot.pos b1.2 (Tot.pos b2.1 (Tot.pos b2.2 (Tot.neg (by omega) (Tot.ret ?_))))))
    generalize rd s i = u at r1 ⊢
    generalize rd s j = v at r2 ⊢
    rw [w64 (x := u) (by omega) (by omega), w64 (x := v) (by omega) (by omega), w64 (x := q) (by omega) (by omega), w64 (x := u * 131) (by omega) (by omega), w64 (x := v * 1117) (by omega) (by omega), w64 (x := q * 53) (by omega) (by omega),
      w64 (x := u * 131 + v * 1117) (by omega) (by omega), w64 (x := u * 131 + v * 1117 + p * 29) (by omega) (by omega), w64 (x := u * 131 + v * 1117 + p * 29 + q * 53) (by omega) (by omega)]
    have hx : 0 ≤ u * 131 + v * 1117 + p * 29 + q * 53 := by omega
    have hx2 : u * 131 + v * 1117 + p * 29 + q * 53 < 1000000000000 := by omega
    generalize u * 131 + v * 1117 + p * 29 + q * 53 = x at hx hx2 ⊢
    have b4 := tdiv_bd (a := x) (n := 64) hx (by omega)
    rw [w64 (x := Int.tdiv x 64) (by omega) (by omega)]
    have := tmod_bd (n := n) (xor_nonneg (a := x) (b := Int.tdiv x 64) hx (by omega) b4.1 (by omega)) (by omega)
    exact ⟨this.1, this.2, rfl⟩
theorem spec_l17Rd_of.tot {s : List Int} (hs : RdB s) {p : Int} (h0 : 0 ≤ p) (h1 : p < 1000000000) (l : List ByteArray) (hl : 1 ≤ l.length) : Tot (fun k => spec_l17Rd_of.f k s p l) (fun r => r.1 ∈ l ∧ r.2 = p + 1) := by
  unfold spec_l17Rd_of.f
  refine Tot.bind (spec_l17Rd_pick.tot hs h0 h1 (by omega)) fun r hr => ?_
  refine Tot.pos hr.1 (Tot.pos hr.2.1 (Tot.ret ⟨?_, hr.2.2⟩))
  unfold rdOf
  rw [List.getD_eq_getElem?_getD, List.getElem?_eq_getElem (by omega)]
  exact List.getElem_mem _
theorem spec_l17Rd_num.tot {s : List Int} (hs : RdB s) {p : Int} (h0 : 0 ≤ p) (h1 : p < 1000000000) (l : List Int) (hl : 1 ≤ l.length) : Tot (fun k => spec_l17Rd_num.f k s p l) (fun r => r.1 ∈ l ∧ r.2 = p + 1) := by
  unfold spec_l17Rd_num.f
  refine Tot.bind (spec_l17Rd_pick.tot hs h0 h1 (by omega)) fun r hr => ?_
  refine Tot.pos hr.1 (Tot.pos hr.2.1 (Tot.ret ⟨?_, hr.2.2⟩))
  unfold rd
  rw [List.getD_eq_getElem?_getD, List.getElem?_eq_getElem (by omega)]
  exact List.getElem_mem _
theorem spec_l1Signed.tot {s : List Int} (hs : RdB s) {p n : Int} (h0 : 0 ≤ p) (h1 : p < 100000000) (hn0 : 0 ≤ n) (hn : n ≤ 1000) :
    Tot (fun k => spec_l1Signed.f k s p n) (fun r => (r.1.size : Int) = n ∧ r.1.data.toList.all isSignB = true ∧ r.2 = p + n) := by
  have key : ∀ (d : Nat) (i q : Int) (t : ByteArray), i + d = n → 0 ≤ i → q = p + i → (t.size : Int) = i → t.data.toList.all isSignB = true →
      Tot (fun k => spec_l1Signed.l0 k n t i s q) (fun r => (r.1.size : Int) = n ∧ r.1.data.toList.all isSignB = true ∧ r.2 = p + n) := by
    intro d
    induction d with
    | zero =>
      intro i q t hi hi0 hq ht ha
      exact Tot.step (fun k => rfl) (Tot.neg (by omega) (Tot.ret ⟨by simp only; omega, ha, by simp only; omega⟩))
    | succ d ih =>
      intro i q t hi hi0 hq ht ha
      refine Tot.step (fun k => rfl) (Tot.pos (by omega) (Tot.bind (spec_l17Rd_of.tot hs (by omega) (by omega) _ (by decide)) fun r hr => ?_))
      have hz : r.1.size = 1 ∧ r.1.data.toList.all isSignB = true := by
        have := hr.1
        simp only [List.mem_cons, List.not_mem_nil, or_false] at this
        rcases this with h | h | h | h | h | h | h | h | h <;> rw [h] <;> decide
      refine Tot.pos (by omega) ?_
      rw [w64 (by omega) (by omega), hr.2]
      refine ih (i + 1) (q + 1) (t ++ r.1) (by omega) (by omega) (by omega) (by rw [ByteArray.size_append]; omega) ?_
      rw [ByteArray.data_append, Array.toList_append, List.all_append, ha, hz.2]; rfl
  exact key n.toNat 0 p ⟨#[]⟩ (by omega) (by omega) (by omega) rfl rfl
def Fine (x : RuleS) : Prop := oneBig x.f0 = true ∧ (x.f1.size : Int) ≤ 4 ∧ x.f1.data.toList.all isSignB = true
instance instFineDec : DecidablePred Fine := fun x => by unfold Fine; infer_instance
def FineG (g : ByteArray × List RuleS) : Prop := g.1 = ⟨#[65]⟩ ∧ g.2.length ≤ 8 ∧ (∀ x ∈ g.2, Fine x) ∧ g.2.Nodup
theorem spec_l1Base.tot (n : Int) : ∃ g, spec_l1Base.f n = some g ∧ FineG g := by
  unfold spec_l1Base.f
  repeat' split
  all_goals exact ⟨_, rfl, rfl, by decide, by decide, by decide⟩
theorem spec_l1Gram.tot {s : List Int} (hs : RdB s) {p : Int} (h0 : 0 ≤ p) (h1 : p < 10000000) :
    Tot (fun k => spec_l1Gram.f k s p) (fun r => FineG (r.1, r.2.1) ∧ p ≤ r.2.2 ∧ r.2.2 ≤ p + 100) := by
  have key : ∀ (d : Nat) (i q : Int) (l : List RuleS), i = d → d ≤ 5 → 0 ≤ q → q + 10 * d < 10001000 → l.length + d ≤ 5 → (∀ x ∈ l, Fine x) → l.Nodup →
      Tot (fun k => spec_l1Gram.l0 k i s q ⟨#[65]⟩ l) (fun r => FineG (r.1, r.2.1) ∧ q ≤ r.2.2 ∧ r.2.2 ≤ q + 10 * d) := by
    intro d
    induction d with
    | zero =>
      intro i q l hi hd hq0 hq hl hf hn
      exact Tot.step (fun k => rfl) (Tot.neg (by omega) (Tot.ret ⟨⟨rfl, by simp only; omega, hf, hn⟩, by simp only; omega, by simp only; omega⟩))
    | succ d ih =>
      intro i q l hi hd hq0 hq hl hf hn
      refine Tot.step (fun k => rfl) (Tot.pos (by omega) (Tot.bind (spec_l17Rd_of.tot hs (by omega) (by omega) _ (by decide)) fun a ha => ?_))
      refine Tot.bind (spec_l17Rd_num.tot hs (by omega) (by omega) _ (by decide)) fun b hb => ?_
      have hb2 : 0 ≤ b.1 ∧ b.1 ≤ 3 := by
        have := hb.1
        simp only [List.mem_cons, List.not_mem_nil, or_false] at this
        omega
      refine Tot.bind (spec_l1Signed.tot hs (by omega) (by omega) (by omega) (by omega)) fun c hc => ?_
      refine Tot.bind (spec_l1Place.tot l _ _ (by omega)) fun t ht => ?_
      have hx : Fine ⟨a.1, c.1⟩ := by
        refine ⟨?_, by simp only; omega, hc.2.1⟩
        have := ha.1
        simp only [List.mem_cons, List.not_mem_nil, or_false] at this
        simp only
        rcases this with h | h | h | h <;> rw [h] <;> decide
      rw [w64 (by omega) (by omega)]
      refine Tot.ite (fun h => Tot.pos (by omega) ?_) (fun h => ?_)
      · refine (ih (i - 1) c.2 _ (by omega) (by omega) (by omega) (by omega) (by simp; omega) ?_ ?_).mono fun r hr => ⟨hr.1, by omega, by omega⟩
        · intro x hm
          rcases List.mem_append.1 hm with hm | hm
          · exact hf x hm
          · rw [List.mem_singleton.1 hm]; exact hx
        · have hni : (⟨a.1, c.1⟩ : RuleS) ∉ l := fun hm => by have := ht.1.2 hm; omega
          rw [List.nodup_append]
          exact ⟨hn, by simp, fun x hx y hy => by rw [List.mem_singleton.1 hy]; rintro rfl; exact hni hx⟩
      · exact (ih (i - 1) c.2 l (by omega) (by omega) (by omega) (by omega) (by omega) hf hn).mono fun r hr => ⟨hr.1, by omega, by omega⟩
  unfold spec_l1Gram.f
  refine Tot.bind (spec_l17Rd_pick.tot hs h0 (by omega) (by omega)) fun a ha => ?_
  refine Tot.ite (fun h => ?_) (fun h => ?_)
  · refine Tot.bind (spec_l17Rd_num.tot hs (by omega) (by omega) _ (by decide)) fun b hb => ?_
    obtain ⟨g, hg, hfine⟩ := spec_l1Base.tot b.1
    rw [hg]
    exact Tot.ret ⟨hfine, by simp only; omega, by simp only; omega⟩
  · refine Tot.bind (spec_l17Rd_num.tot hs (by omega) (by omega) _ (by decide)) fun b hb => ?_
    have hb2 : 0 ≤ b.1 ∧ b.1 ≤ 5 := by
      have := hb.1
      simp only [List.mem_cons, List.not_mem_nil, or_false] at this
      omega
    refine (key b.1.toNat b.1 b.2 [] (by omega) (by omega) (by omega) (by omega) (by simp; omega) (by simp) (by simp)).mono fun r hr => ⟨hr.1, by omega, by omega⟩
def Meek (l : List RuleS) : Prop := l.length ≤ 9 ∧ ∀ x ∈ l, x.f0.size ≤ 5 ∧ x.f1.size ≤ 5
theorem FineG.meek {g : ByteArray × List RuleS} (h : FineG g) : Meek g.2 := by
  refine ⟨by have := h.2.1; omega, fun x hx => ?_⟩
  have hf := h.2.2.1 x hx
  refine ⟨?_, by have := hf.2.1; omega⟩
  rcases one_cases x.f0 with ⟨e, _⟩ | ⟨_, e⟩
  · omega
  · have := hf.1
    unfold oneBig at this
    split at this
    · exact absurd ‹_› (e _)
    · cases this
theorem Meek.small {l : List RuleS} (h : Meek l) : SmallG l := ⟨by have := h.1; omega, fun x hx => by have := h.2 x hx; omega⟩
theorem spec_l1Bent.tot {s : List Int} (hs : RdB s) {p : Int} (h0 : 0 ≤ p) (h1 : p < 10000000) (a : ByteArray) (ha : a.size ≤ 5) (l : List RuleS) (hl : Meek l) (hl8 : l.length ≤ 8) :
    Tot (fun k => spec_l1Bent.f k s p a l) (fun r => r.1.size ≤ 5 ∧ Meek r.2.1 ∧ p ≤ r.2.2 ∧ r.2.2 ≤ p + 100) := by
  have key : ∀ (d : Nat) (q : Int) (l : List RuleS), l.length + d = 9 → 0 ≤ q → q + 10 * d < 10001000 → Meek l →
      Tot (fun k => spec_l1Bent.l0 k s q a l) (fun r => r.1.size ≤ 5 ∧ Meek r.2.1 ∧ q ≤ r.2.2 ∧ r.2.2 ≤ q + 10 * d) := by
    intro d
    induction d with
    | zero =>
      intro q l hd hq0 hq hm
      exact Tot.step (fun k => rfl) (Tot.neg (by omega) (Tot.ret ⟨ha, hm, by simp only; omega, by simp only; omega⟩))
    | succ d ih =>
      intro q l hd hq0 hq hm
      refine Tot.step (fun k => rfl) (Tot.pos (by omega) (Tot.bind (spec_l1Signed.tot hs (by omega) (by omega) (by omega) (by omega)) fun c hc => Tot.pos (by omega) ?_))
      refine (ih c.2 _ (by simp; omega) (by omega) (by omega) ⟨by simp; omega, fun x hx => ?_⟩).mono fun r hr => ⟨hr.1, hr.2.1, by omega, by omega⟩
      rcases List.mem_append.1 hx with hx | hx
      · exact hm.2 x hx
      · rw [List.mem_singleton.1 hx]; simp only; exact ⟨by decide, by omega⟩
  unfold spec_l1Bent.f
  simp only [Option.bind_some, List.nil_append, List.length_nil, Nat.zero_add]
  have hlen := hl.1
  refine Tot.pos (by omega) (Tot.bind (spec_l17Rd_pick.tot hs h0 (by omega) (by omega)) fun b hb => ?_)
  have body : Tot (fun k => spec_l1Bent.j0 k (l.length : Int) ((l.length : Int) == 0) s b.2 a l) (fun r => r.1.size ≤ 5 ∧ Meek r.2.1 ∧ p ≤ r.2.2 ∧ r.2.2 ≤ p + 100) := by
    refine Tot.step (fun k => rfl) (Tot.ite (fun h => Tot.ret ⟨ha, hl, by simp only; omega, by simp only; omega⟩) (fun h => ?_))
    have hpos : 1 ≤ (l.length : Int) := by
      have : ¬ (l.length : Int) = 0 := by simpa using h
      omega
    refine Tot.bind (spec_l17Rd_pick.tot hs (by omega) (by omega) hpos) fun c hc => ?_
    refine Tot.bind (spec_l17Rd_pick.tot hs (by omega) (by omega) (by omega)) fun d hd => ?_
    have hmem : rd_T32 l c.1 ∈ l := by
      have := mem_rd l c.1.toNat (by omega)
      rwa [show ((c.1.toNat : Nat) : Int) = c.1 by omega] at this
    have hsz := hl.2 _ hmem
    refine Tot.ite (fun _ => ?_) (fun _ => Tot.ite (fun _ => ?_) (fun _ => Tot.ite (fun _ => ?_) (fun _ => Tot.ite (fun _ => ?_) (fun _ => ?_))))
    · refine Tot.bind (spec_l17Rd_of.tot hs (by omega) (by omega) _ (by decide)) fun e he => Tot.ret ⟨?_, hl, by simp only; omega, by simp only; omega⟩
      have := he.1
      simp only [List.mem_cons, List.not_mem_nil, or_false] at this
      simp only
      rcases this with h | h | h | h | h <;> rw [h] <;> decide
    · refine Tot.bind (spec_l17Rd_of.tot hs (by omega) (by omega) _ (by decide)) fun e he => Tot.pos hc.1 (Tot.pos hc.2.1 (Tot.ret ⟨ha, ⟨by simpa using hl.1, fun x hx => ?_⟩, by simp only; omega, by simp only; omega⟩))
      rcases List.mem_or_eq_of_mem_set hx with hx | hx
      · exact hl.2 x hx
      · have := he.1
        simp only [List.mem_cons, List.not_mem_nil, or_false] at this
        rw [hx]
        refine ⟨?_, hsz.2⟩
        simp only
        rcases this with h | h | h | h <;> rw [h] <;> decide
    · refine Tot.bind (spec_l17Rd_of.tot hs (by omega) (by omega) _ (by decide)) fun e he => Tot.pos hc.1 (Tot.pos hc.2.1 (Tot.ret ⟨ha, ⟨by simpa using hl.1, fun x hx => ?_⟩, by simp only; omega, by simp only; omega⟩))
      rcases List.mem_or_eq_of_mem_set hx with hx | hx
      · exact hl.2 x hx
      · have := he.1
        simp only [List.mem_cons, List.not_mem_nil, or_false] at this
        rw [hx]
        refine ⟨hsz.1, ?_⟩
        simp only
        rcases this with h | h | h | h | h <;> rw [h] <;> decide
    · refine Tot.pos hc.1 (Tot.pos hc.2.1 (Tot.pos (by omega) (Tot.ret ⟨ha, ⟨by simp; omega, fun x hx => ?_⟩, by simp only; omega, by simp only; omega⟩)))
      rcases List.mem_append.1 hx with hx | hx
      · exact hl.2 x hx
      · rw [List.mem_singleton.1 hx]; exact hsz
    · refine (key (9 - l.length) d.2 l (by omega) (by omega) (by omega) hl).mono fun r hr => ⟨hr.1, hr.2.1, by omega, by omega⟩
  refine Tot.ite (fun h => Tot.step (h := fun _ => some (a, l, b.2)) (fun k => rfl) (Tot.ret ⟨ha, hl, by simp only; omega, by simp only; omega⟩)) (fun h => body)
theorem spec_l17Open.tot (l : List Int) (h : ∀ x ∈ l, (Lit.int .u8 x).wf = true) : ∃ s, spec_l17Open.f l = some (s, 0) ∧ RdB s := by
  have hb : ∀ x ∈ l, 0 ≤ x ∧ x ≤ 255 := fun x hx => by
    have := h x hx
    simp [Lit.wf, IntKind.min, IntKind.max, IntKind.signed, IntKind.bits] at this
    omega
  unfold spec_l17Open.f
  by_cases hl : (l.length : Int) > 2000
  · rw [if_pos hl, if_pos (by omega)]
    exact ⟨_, rfl, by simp; omega, fun x hx => hb x (List.mem_of_mem_take hx)⟩
  · rw [if_neg hl]
    exact ⟨_, rfl, by omega, hb⟩
end Go.Proofs.YtiibnkibckklgaaGreatDoor.P
namespace Go.Proofs.YtiibnkibckklgaaGreatDoor.P
open Go.RowKit Go.Proofs.YtiibnkibckklgaaGreatDoorW.PrintWords Go.Proofs.YtiibnkibckklgaaGreatDoorW.PrintLast Go.Proofs.YtiibnkibckklgaaGreatDoorW.PrintMore
attribute [local go_sem] max2_int min2_int max_two min_two max_three min_three max_four min_four   -- for this text's walks alone
set_option linter.unusedVariables false
set_option linter.unusedSimpArgs false
/-! ### spec_DrawMendNext: function 51 -/
def spec_DrawMendNext.f (k : Nat) (l0 : List Int) : Option (ByteArray × (List (S32)) × ByteArray) := (spec_l4Draw.f k l0).bind fun bt102 => (some (bt102.1, bt102.2.1, bt102.2.2))
theorem spec_DrawMendNext.mono : ∀ a0 k, LeO (spec_DrawMendNext.f k a0) (spec_DrawMendNext.f (k + 1) a0) := by
 intro a0 k
 unfold spec_DrawMendNext.f
 repeat' first
   | (with_reducible exact spec_l4Draw.mono _ _)
   | (with_reducible exact LeO.refl _)
   | (with_reducible exact LeO.none _)
   | (with_reducible refine LeO.ite ?_ ?_)
   | (with_reducible refine LeO.bind ?_ (fun _ => ?_))
   | exact spec_l4Draw.mono _ _
   | exact LeO.none _
   | refine LeO.ite ?_ ?_
   | refine LeO.bind ?_ (fun _ => ?_)
set_option maxHeartbeats 8000000 in
set_option maxRecDepth 100000 in
theorem spec_DrawMendNext.calls (k : Nat) (A0 : Option Addr) (c0 : Nat) (l0 : List Int) (r1 : ByteArray) (r2 : List (S32)) (r3 : ByteArray) (w : World) (hr0 : Kd.C (Kd.int .u8) w A0 l0.length l0) (hc0 : l0.length ≤ c0) (h : spec_DrawMendNext.f k l0 = some (r1, r2, r3)) :
  Calls Tryz.prog 51 #[.slice A0 l0.length c0] w fun e w' => ∃ v1_ : Value, e = .returned (.tuple #[.agg #[.string r1, v1_], .string r3]) ∧ Kd.R k32 32 w' w.heap.size (fun _ => True) v1_ r2 ∧ Below w.heap.size w w' := by
 have hu25 := Tryz.underlying25
 have HR0 := Aside0.mk hr0
 have HC0 := Aside0.mk hc0
 clear hr0 hc0
 have HB := Aside0.mk (Below.refl w.heap.size w)
 have H : ((spec_l4Draw.f k l0).bind fun bt102 => (some (bt102.1, bt102.2.1, bt102.2.2))) = some (r1, r2, r3) := h
 clear h
 replace H := Option.bind_eq_some_iff.mp H
 obtain ⟨⟨t102, t103, t106⟩, A20, H⟩ := H
 replace H : (some (t102, t103, t106)) = some (r1, r2, r3) := H
 have A2 := Aside0.mk A20
 clear A20
 simp only [Option.some.injEq, Prod.mk.injEq] at H
 obtain ⟨rfl, rfl, rfl⟩ := H
 go_enter Tryz.func51, Tryz.ntmps51
 go_wp2_with (first | ((with_reducible refine gate_dst (N := 2) rfl ?_); refine box_event ?hg (N := 2) ?hd (cs := #[.string (⟨#[]⟩ : ByteArray), .slice none 0 0]) (t := 25) ?hr ?_; (case hd => rfl); (case hg => rfl); (case hr => first | (go_simp; done) | (go_simp; rfl)); intro gb101 hg w3 hbox hb; have n0_ := Aside0.mk (below_step (by repeat (first | (with_reducible first | exact HB.out | apply below_alloc | apply pw_below_drewN | apply below_drew1) | exact HB.out)) hb); have n1_ := Aside0.mk (hbox); have n2_ := Aside0.mk ((by rw [hg]; exact (below_size (by repeat (first | (with_reducible first | exact HB.out | apply below_alloc | apply pw_below_drewN | apply below_drew1) | exact HB.out))) : w.heap.size ≤ gb101)); have n3_ := Aside0.mk ((by rw [hg]; exact (below_size (by repeat (first | (with_reducible first | exact HB.out | apply below_alloc | apply pw_below_drewN | apply below_drew1) | exact HB.out))) : w.heap.size ≤ gb101)); clear HB; have HB := n0_; have BK101 := n1_; have GW101 := n2_; have GE101 := n3_; clear n0_ n1_ n2_ n3_; clear hb hbox hg) | ((with_reducible refine gate_callee (f := 104) rfl ?_); refine goesL_ (some 5) rfl rfl Tryz.func104 (by kernel_rfl) rfl #[.slice A0 l0.length c0] rfl (by (try simp only [List.map_toArray, List.map_cons, List.map_nil]); first | done | rfl | (simp only [List.length_drop, List.length_take]; rfl)) ?_; (with_reducible refine (spec_l4Draw.calls k _ _ l0 t102 t103 t106 _ ?side1 ?side2 A2.out).mono ?_); (case side1 => repeat (first | exact (Kd.C_below HR0.out HB.out) | (with_reducible refine Kd.C_alloc ?_ _) | (with_reducible refine Kd.C_drewN ?_ _) | (with_reducible refine Kd.C_drew ?_))); (case side2 => exact HC0.out); rintro e w4 ⟨v104, rfl, ho0, hb⟩; refine ⟨_, rfl, ?_⟩; have n0_ := Aside0.mk (Kd.R_lower ho0 (below_size (by repeat (first | (with_reducible first | exact HB.out | apply below_alloc | apply pw_below_drewN | apply below_drew1 | refine below_set ?_ GE101.out) | exact HB.out)))); have n1_ := Aside0.mk (blk_below (g := gb101) (o := .cells #[.string (⟨#[]⟩ : ByteArray), .slice none 0 0] 25 (0, 0)) (by (with_reducible repeat (first | refine blk_drewN ?_ _ | refine blk_drew ?_ | refine blk_alloc ?_ _)); exact BK101.out) hb); have n2_ := Aside0.mk (below_step (by repeat (first | (with_reducible first | exact HB.out | apply below_alloc | apply pw_below_drewN | apply below_drew1 | refine below_set ?_ GE101.out) | exact HB.out)) hb); clear BK101; clear HB; have HO105 := n0_; have BK101 := n1_; have HB := n2_; clear n0_ n1_ n2_; (try clear hb); (try clear hb2); (try clear hk); (try clear hi); (try clear ho0); have hcz5_0 : w4.cell? ⟨gb101, 0, none⟩ = some (.string (⟨#[]⟩ : ByteArray)) := (blk_cell BK101.out 0).trans rfl; have hcz5_1 : w4.cell? ⟨gb101, 1, none⟩ = some (.slice none 0 0) := (blk_cell BK101.out 1).trans rfl; have hfz5_0 := blk_frozen BK101.out 0; have hfz5_1 := blk_frozen BK101.out 1; obtain ⟨Ao6, co6, eo6⟩ := Kd.R_slice HO105.out; subst eo6))
 refine bodyPost_ret (results_ct rfl _ _ gb101 25 #[.string t102, .slice Ao6 t103.length co6] (0, 0) _ rfl (by (with_reducible repeat (first | refine blk_drewN ?_ _ | refine blk_drew ?_ | refine blk_alloc ?_ _)); refine blk_put (cs := #[.string t102, .slice none 0 0]) ?_ 1 _ rfl; (with_reducible repeat (first | refine blk_drewN ?_ _ | refine blk_drew ?_ | refine blk_alloc ?_ _)); refine blk_put (cs := #[.string (⟨#[]⟩ : ByteArray), .slice none 0 0]) ?_ 0 _ rfl; (with_reducible repeat (first | refine blk_drewN ?_ _ | refine blk_drew ?_ | refine blk_alloc ?_ _)); exact BK101.out) Tryz.underlying25 rfl (by kernel_rfl)) rfl ?_
 exact ⟨_, by first | rfl | (simp [errW_none, errW_some] <;> rfl) | (simp [*, errW_none, errW_some] <;> rfl), by (with_reducible repeat (first | apply Kd.R_alloc | apply Kd.R_drewN | apply Kd.R_drew)); exact Kd.R_mono (Kd.R_far (p := ⟨gb101, 1, none⟩) (Kd.R_far (p := ⟨gb101, 0, none⟩) (Kd.R_types HO105.out BK101.out (by decide)) (fun _ hk => hk.2) (.string t102)) (fun _ hk => hk.2) (.slice Ao6 t103.length co6)) (fun _ hk => trivial), by repeat (first | (with_reducible first | exact HB.out | apply below_alloc | apply pw_below_drewN | apply below_drew1 | refine below_set ?_ GE101.out) | exact HB.out)⟩
end Go.Proofs.YtiibnkibckklgaaGreatDoor.P
namespace Go.Proofs.YtiibnkibckklgaaGreatDoor.P
set_option linter.unusedVariables false
set_option linter.unusedSimpArgs false
open Go.RowKit Go.Proofs.YtiibnkibckklgaaGreatDoorW.PrintWords
abbrev TreeS := S60
theorem spec_l1For.tot (a : ByteArray) (l : List RuleS) (g : ByteArray) (hl : l.length ≤ 1000000) :
    Tot (fun k => spec_l1For.f k a l g) (fun r => r = ((List.range l.length).filter fun i : Nat => decide ((rd_T32 l (i : Int)).f0 = g)).map fun i : Nat => (i : Int)) := by
  have key : ∀ (d i : Nat) (out : List Int), i + d = l.length → out = ((List.range i).filter fun i : Nat => decide ((rd_T32 l (i : Int)).f0 = g)).map (fun i : Nat => (i : Int)) →
      Tot (fun k => spec_l1For.l0 k g out (i : Int) a l) (fun r => r = ((List.range l.length).filter fun i : Nat => decide ((rd_T32 l (i : Int)).f0 = g)).map fun i : Nat => (i : Int)) := by
    intro d
    induction d with
    | zero =>
      intro i out hi ho
      obtain rfl : i = l.length := by omega
      exact Tot.step (fun k => rfl) (Tot.neg (by omega) (Tot.ret ho))
    | succ d ih =>
      intro i out hi ho
      have hlen : out.length ≤ i := by
        rw [ho, List.length_map]
        exact Nat.le_trans (List.length_filter_le _ _) (by simp)
      refine Tot.step (fun k => rfl) (Tot.pos (by omega) (Tot.pos (by omega) ?_))
      rw [w64 (by omega) (by omega)]
      refine Tot.ite (fun h => Tot.pos (by omega) ?_) (fun h => ?_)
      · refine ih (i + 1) _ (by omega) ?_
        rw [List.range_succ, List.filter_append, List.map_append, ← ho]
        simp [(toList_eq_iff _ _).1 h]
      · refine ih (i + 1) _ (by omega) ?_
        rw [List.range_succ, List.filter_append, List.map_append, ← ho]
        have : ¬ (rd_T32 l (i : Int)).f0 = g := fun e => h ((toList_eq_iff _ _).2 e)
        simp [this]
  simpa [spec_l1For.f] using key l.length 0 [] (by omega) (by simp)
def TB : Nat → TreeS → Prop
  | 0, t => t.f2 = [] ∧ t.f0.size ≤ 5
  | d + 1, t => t.f0.size ≤ 5 ∧ t.f2.length ≤ 5 ∧ ∀ x ∈ t.f2, TB d x
theorem TB.leaf (d : Nat) {a : ByteArray} (ha : a.size ≤ 5) (n : Int) : TB d ⟨a, n, []⟩ := by
  cases d with
  | zero => exact ⟨rfl, ha⟩
  | succ d => exact ⟨ha, by simp, by simp⟩
theorem TB.size {d : Nat} {t : TreeS} (h : TB d t) : t.f0.size ≤ 5 := by cases d with | zero => exact h.2 | succ d => exact h.1
def cost : Nat → Nat | 0 => 1 | d + 1 => 6 * cost d + 2
theorem cost_pos (d : Nat) : 1 ≤ cost d := by cases d <;> simp [cost]
theorem cost_8 : cost 8 ≤ 4000000 := by decide
theorem cost_mono {d e : Nat} (h : d ≤ e) : cost d ≤ cost e := by
  induction h with
  | refl => exact Nat.le_refl _
  | step _ ih => simp only [cost]; omega
theorem spec_l3Any.tot {s : List Int} (hs : RdB s) (a : ByteArray) (l : List RuleS) (hl : Meek l) : ∀ (d : Nat), d ≤ 8 → ∀ (p : Int) (g : ByteArray), 0 ≤ p → p + cost d < 100000000 → g.size ≤ 5 →
    Tot (fun k => spec_l3Any.f k s p a l g (d : Int)) (fun r => TB d ⟨r.1, r.2.1, r.2.2.1⟩ ∧ r.1 = g ∧ p ≤ r.2.2.2 ∧ r.2.2.2 ≤ p + cost d) := by
  intro d
  induction d with
  | zero =>
    intro _ p g hp0 hp hg
    refine Tot.step (fun k => by rw [spec_l3Any.f]) ?_
    rw [spec_SignSmall.is]
    simp only [Option.bind_some]
    have done : ∀ q : Int, q = p → Tot (fun _ : Nat => some (g, (-1 : Int), ([] : List TreeS), q)) (fun r => TB 0 ⟨r.1, r.2.1, r.2.2.1⟩ ∧ r.1 = g ∧ p ≤ r.2.2.2 ∧ r.2.2.2 ≤ p + cost 0) :=
      fun q hq => Tot.ret ⟨TB.leaf 0 hg _, rfl, by simp only; omega, by simp only [cost]; omega⟩
    refine Tot.ite (fun _ => done p rfl) (fun _ => Tot.bind (spec_l1For.tot a l g (by have := hl.1; omega)) fun t ht => ?_)
    refine Tot.ite (fun _ => Tot.step (fun k => by rw [spec_l3Any.j0, if_pos rfl]) (done p rfl)) (fun _ => Tot.step (fun k => by rw [spec_l3Any.j0, if_pos (by simp)]) (done p rfl))
  | succ d ih =>
    intro hd p g hp0 hp hg
    have hc1 := cost_pos d
    have hcs : cost (d + 1) = 6 * cost d + 2 := rfl
    have hc9 : 6 * cost d + 2 ≤ 4000000 := by rw [← hcs]; exact Nat.le_trans (cost_mono hd) cost_8
    refine Tot.step (fun k => by rw [spec_l3Any.f]) ?_
    rw [spec_SignSmall.is]
    simp only [Option.bind_some]
    have done : ∀ q : Int, q = p → Tot (fun _ : Nat => some (g, (-1 : Int), ([] : List TreeS), q)) (fun r => TB (d + 1) ⟨r.1, r.2.1, r.2.2.1⟩ ∧ r.1 = g ∧ p ≤ r.2.2.2 ∧ r.2.2.2 ≤ p + cost (d + 1)) :=
      fun q hq => Tot.ret ⟨TB.leaf _ hg _, rfl, by simp only; omega, by simp only; omega⟩
    refine Tot.ite (fun _ => done p rfl) (fun _ => Tot.bind (spec_l1For.tot a l g (by have := hl.1; omega)) fun t ht => ?_)
    refine Tot.ite (fun _ => Tot.step (fun k => by rw [spec_l3Any.j0, if_pos rfl]) (done p rfl)) (fun hne => ?_)
    have htin : ∀ i : Int, i ∈ t → 0 ≤ i ∧ i < l.length := by
      intro i hi
      rw [ht, List.mem_map] at hi
      obtain ⟨j, hj, rfl⟩ := hi
      have := List.mem_range.1 (List.mem_filter.1 hj).1
      omega
    have htl : t.length ≤ 9 := by
      rw [ht, List.length_map]
      exact Nat.le_trans (List.length_filter_le _ _) (by simpa using hl.1)
    -- the parts, one behind the other
    have parts : ∀ (i q : Int) (_ : 0 ≤ i ∧ i < l.length) (_ : p ≤ q) (_ : q ≤ p + 1), Tot (fun k => spec_l3Any.l1 k ((d + 1 : Nat) : Int) i 0 s q a l g i []) (fun r => TB (d + 1) ⟨r.1, r.2.1, r.2.2.1⟩ ∧ r.1 = g ∧ p ≤ r.2.2.2 ∧ r.2.2.2 ≤ p + cost (d + 1)) := by
      intro i q hi hq1 hq2
      have hm : rd_T32 l i ∈ l := by
        have := mem_rd l i.toNat (by omega)
        rwa [show ((i.toNat : Nat) : Int) = i by omega] at this
      have hsz := (hl.2 _ hm).2
      generalize hR : (rd_T32 l i).f1 = R at hsz
      have key : ∀ (e j : Nat) (q' : Int) (kids : List TreeS), j + e = R.size → p ≤ q' → q' ≤ p + 1 + j * cost d → kids.length = j → (∀ x ∈ kids, TB d x) →
          Tot (fun k => spec_l3Any.l1 k ((d + 1 : Nat) : Int) i (j : Int) s q' a l g i kids) (fun r => TB (d + 1) ⟨r.1, r.2.1, r.2.2.1⟩ ∧ r.1 = g ∧ p ≤ r.2.2.2 ∧ r.2.2.2 ≤ p + cost (d + 1)) := by
        intro e
        induction e with
        | zero =>
          intro j q' kids hj h1 h2 hk hkd
          refine Tot.step (fun k => by rw [spec_l3Any.l1]) (Tot.pos hi.1 (Tot.pos hi.2 ?_))
          rw [hR]
          refine Tot.neg (by omega) (Tot.ret ⟨⟨hg, by simp only; omega, hkd⟩, rfl, by simp only; omega, ?_⟩)
          have : j * cost d ≤ 5 * cost d := Nat.mul_le_mul_right _ (by omega)
          simp only; omega
        | succ e ih2 =>
          intro j q' kids hj h1 h2 hk hkd
          refine Tot.step (fun k => by rw [spec_l3Any.l1]) (Tot.pos hi.1 (Tot.pos hi.2 ?_))
          rw [hR, w64 (x := (j : Int) + 1) (by omega) (by omega), show wrap64 (((d + 1 : Nat) : Int) - 1) = (d : Int) by rw [w64 (by omega) (by omega)]; omega]
          have hjc : j * cost d ≤ 4 * cost d := Nat.mul_le_mul_right _ (by omega)
          refine Tot.pos (by omega) (Tot.pos (by omega) (Tot.pos (by omega) (Tot.pos (by omega) (Tot.bind (ih (by omega) q' _ (by omega) (by omega) ?_) fun r hr => Tot.pos (by omega) ?_))))
          · rw [ByteArray.size_extract]; omega
          · have hjs : (j + 1) * cost d = j * cost d + cost d := Nat.succ_mul _ _
            refine ih2 (j + 1) r.2.2.2 _ (by omega) (by omega) (by have := hr.2.2.2; omega) (by simp; omega) ?_
            intro x hx
            rcases List.mem_append.1 hx with hx | hx
            · exact hkd x hx
            · rw [List.mem_singleton.1 hx]; exact hr.1
      exact key R.size 0 q [] (by omega) hq1 (by omega) rfl (by simp)
    -- the shortest of the rules
    have short : ∀ (e j : Nat) (i q : Int), j + e = t.length → (0 ≤ i ∧ i < l.length) → p ≤ q → q ≤ p + 1 →
        Tot (fun k => spec_l3Any.l0 k g ((d + 1 : Nat) : Int) t i (j : Int) s q a l) (fun r => TB (d + 1) ⟨r.1, r.2.1, r.2.2.1⟩ ∧ r.1 = g ∧ p ≤ r.2.2.2 ∧ r.2.2.2 ≤ p + cost (d + 1)) := by
      intro e
      induction e with
      | zero =>
        intro j i q hj hi h1 h2
        exact Tot.step (fun k => by rw [spec_l3Any.l0]) (Tot.neg (by omega) (Tot.step (fun k => by rw [spec_l3Any.j2]) (parts i q hi h1 h2)))
      | succ e ih2 =>
        intro j i q hj hi h1 h2
        have hmem : rd t (j : Int) ∈ t := by
          unfold rd
          rw [List.getD_eq_getElem?_getD, List.getElem?_eq_getElem (by omega)]
          exact List.getElem_mem _
        have hin := htin _ hmem
        refine Tot.step (fun k => by rw [spec_l3Any.l0]) (Tot.pos (by omega) (Tot.pos (by omega) (Tot.pos hin.1 (Tot.pos hin.2 (Tot.pos hi.1 (Tot.pos hi.2 ?_))))))
        rw [w64 (x := (j : Int) + 1) (by omega) (by omega)]
        exact Tot.ite (fun _ => ih2 (j + 1) _ q (by omega) hin h1 h2) (fun _ => ih2 (j + 1) i q (by omega) hi h1 h2)
    rw [show decide (((d + 1 : Nat) : Int) < 1) = false by simp; omega]
    refine Tot.step (fun k => by rw [spec_l3Any.j0, if_neg (by simp)]) (Tot.bind (spec_l17Rd_pick.tot hs hp0 (by omega) (by omega)) fun r hr => Tot.pos hr.1 (Tot.pos hr.2.1 ?_))
    have hmem : rd t r.1 ∈ t := by
      unfold rd
      rw [List.getD_eq_getElem?_getD, List.getElem?_eq_getElem (by omega)]
      exact List.getElem_mem _
    exact Tot.ite (fun _ => short t.length 0 _ _ (by omega) (htin _ hmem) (by omega) (by omega)) (fun _ => Tot.step (fun k => by rw [spec_l3Any.j2]) (parts _ _ (htin _ hmem) (by omega) (by omega)))
def wide : Nat → Nat | 0 => 5 | d + 1 => 5 * wide d + 5
theorem wide_pos (d : Nat) : 5 ≤ wide d := by cases d <;> simp [wide]
theorem wide_mono {d e : Nat} (h : d ≤ e) : wide d ≤ wide e := by
  induction h with
  | refl => exact Nat.le_refl _
  | step _ ih => simp only [wide]; omega
theorem wide_le (d : Nat) (h : d ≤ 20) : wide d ≤ 1000000000000000 := Nat.le_trans (wide_mono h) (by decide)
theorem rd_tree_mem (l : List TreeS) (i : Nat) (h : i < l.length) : rd_T60 l (i : Int) ∈ l := by
  simp [rd_T60, List.getD_eq_getElem?_getD, List.getElem?_eq_getElem h]
theorem spec_l3Yield.tot : ∀ (d : Nat), d ≤ 20 → ∀ t : TreeS, TB d t → Tot (fun k => spec_l3Yield.f k t.f0 t.f1 t.f2) (fun r => r.size ≤ wide d) := by
  intro d
  induction d with
  | zero =>
    intro _ t h
    refine Tot.step (fun k => by rw [spec_l3Yield.f]) ?_
    rw [spec_SignSmall.is, h.1]
    simp only [Option.bind_some]
    refine Tot.ite (fun _ => Tot.ret h.2) (fun _ => Tot.step (fun k => by rw [spec_l3Yield.l0]) (Tot.neg (by simp) (Tot.ret (Nat.zero_le _))))
  | succ d ih =>
    intro hd t h
    have hw := wide_le (d + 1) hd
    have hws : wide (d + 1) = 5 * wide d + 5 := rfl
    refine Tot.step (fun k => by rw [spec_l3Yield.f]) ?_
    rw [spec_SignSmall.is]
    simp only [Option.bind_some]
    refine Tot.ite (fun _ => Tot.ret (by have := h.1; have := wide_pos (d + 1); omega)) (fun _ => ?_)
    have hlen := h.2.1
    have key : ∀ (e j : Nat) (out : ByteArray), j + e = t.f2.length → out.size ≤ j * wide d → Tot (fun k => spec_l3Yield.l0 k out (j : Int) t.f0 t.f1 t.f2) (fun r => r.size ≤ wide (d + 1)) := by
      intro e
      induction e with
      | zero =>
        intro j out hj ho
        have : j * wide d ≤ 5 * wide d := Nat.mul_le_mul_right _ (by omega)
        exact Tot.step (fun k => by rw [spec_l3Yield.l0]) (Tot.neg (by omega) (Tot.ret (by omega)))
      | succ e ih2 =>
        intro j out hj ho
        refine Tot.step (fun k => by rw [spec_l3Yield.l0]) (Tot.pos (by omega) (Tot.pos (by omega) (Tot.bind (ih (by omega) _ (h.2.2 _ (rd_tree_mem t.f2 j (by omega)))) fun r hr => ?_)))
        have hjs : (j + 1) * wide d = j * wide d + wide d := Nat.succ_mul _ _
        have : j * wide d ≤ 5 * wide d := Nat.mul_le_mul_right _ (by omega)
        rw [w64 (x := (j : Int) + 1) (by omega) (by omega)]
        exact Tot.pos (by omega) (ih2 (j + 1) _ (by omega) (by rw [ByteArray.size_append]; omega))
    exact key t.f2.length 0 _ (by omega) (by simp; rfl)
theorem spec_l4Text.tot {s : List Int} (hs : RdB s) {p n : Int} (h0 : 0 ≤ p) (h1 : p < 100000000) (hn0 : 0 ≤ n) (hn : n ≤ 1000) :
    Tot (fun k => spec_l4Text.f k s p n) (fun r => (r.1.size : Int) = n ∧ r.1.data.toList.all isSmallB = true ∧ r.2 = p + n) := by
  have key : ∀ (d : Nat) (i q : Int) (t : ByteArray), i + d = n → 0 ≤ i → q = p + i → (t.size : Int) = i → t.data.toList.all isSmallB = true →
      Tot (fun k => spec_l4Text.l0 k n t i s q) (fun r => (r.1.size : Int) = n ∧ r.1.data.toList.all isSmallB = true ∧ r.2 = p + n) := by
    intro d
    induction d with
    | zero =>
      intro i q t hi hi0 hq ht ha
      exact Tot.step (fun k => rfl) (Tot.neg (by omega) (Tot.ret ⟨by simp only; omega, ha, by simp only; omega⟩))
    | succ d ih =>
      intro i q t hi hi0 hq ht ha
      refine Tot.step (fun k => rfl) (Tot.pos (by omega) (Tot.bind (spec_l17Rd_of.tot hs (by omega) (by omega) _ (by decide)) fun r hr => ?_))
      have hz : r.1.size = 1 ∧ r.1.data.toList.all isSmallB = true := by
        have := hr.1
        simp only [List.mem_cons, List.not_mem_nil, or_false] at this
        rcases this with h | h | h | h | h | h <;> rw [h] <;> decide
      refine Tot.pos (by omega) ?_
      rw [w64 (by omega) (by omega), hr.2]
      refine ih (i + 1) (q + 1) (t ++ r.1) (by omega) (by omega) (by omega) (by rw [ByteArray.size_append]; omega) ?_
      rw [ByteArray.data_append, Array.toList_append, List.all_append, ha, hz.2]; rfl
  exact key n.toNat 0 p ⟨#[]⟩ (by omega) (by omega) (by omega) rfl rfl
theorem spec_l4Some.tot {s : List Int} (hs : RdB s) {p : Int} (h0 : 0 ≤ p) (h1 : p < 10000000) (a : ByteArray) (ha : a.size ≤ 5) (l : List RuleS) (hl : Meek l) :
    Tot (fun k => spec_l4Some.f k s p a l) (fun r => r.1.size ≤ 1000000000000) := by
  have rest : ∀ q : Int, 0 ≤ q → q < 50000000 → Tot (fun k => spec_l4Some.j1 k s q) (fun r => r.1.size ≤ 1000000000000) := by
    intro q hq0 hq
    refine Tot.step (fun k => by rw [spec_l4Some.j1]) (Tot.bind (spec_l17Rd_pick.tot hs hq0 (by omega) (by omega)) fun b hb => Tot.bind (spec_l4Text.tot hs (by omega) (by omega) (by omega) (by omega)) fun c hc => Tot.bind (spec_l17Rd_pick.tot hs (by omega) (by omega) (by omega)) fun d hd => ?_)
    refine Tot.ite (fun _ => Tot.bind (spec_l17Rd_of.tot hs (by omega) (by omega) _ (by decide)) fun e he => ?_) (fun _ => Tot.ret (by simp only; omega))
    have hz : e.1.size ≤ 9 := by
      have := he.1
      simp only [List.mem_cons, List.not_mem_nil, or_false] at this
      rcases this with h | h | h | h <;> rw [h] <;> decide
    exact Tot.pos (by omega) (Tot.ret (by simp only; rw [ByteArray.size_append]; omega))
  have take : ∀ q : Int, 0 ≤ q → q < 20000000 → Tot (fun k => spec_l4Some.j0 k true s q a l) (fun r => r.1.size ≤ 1000000000000) := by
    intro q hq0 hq
    refine Tot.step (fun k => by rw [spec_l4Some.j0, if_pos rfl]) (Tot.bind (spec_l17Rd_num.tot hs hq0 (by omega) _ (by decide)) fun b hb => ?_)
    obtain ⟨n, hn, hn8⟩ : ∃ n : Nat, b.1 = (n : Int) ∧ n ≤ 8 := by
      have := hb.1
      simp only [List.mem_cons, List.not_mem_nil, or_false] at this
      exact ⟨b.1.toNat, by omega, by omega⟩
    have hc : cost n ≤ 4000000 := Nat.le_trans (cost_mono hn8) cost_8
    rw [hn]
    refine Tot.bind (spec_l3Any.tot hs a l hl n hn8 _ a (by omega) (by omega) ha) fun t ht => ?_
    refine Tot.bind (spec_l3Yield.tot n (by omega) ⟨t.1, t.2.1, t.2.2.1⟩ ht.1) fun y hy => ?_
    have hw : wide n ≤ 1000000000 := Nat.le_trans (wide_mono hn8) (by decide)
    refine Tot.bind (spec_TextOk.tot y (by omega)) fun z hz => ?_
    exact Tot.ite (fun _ => Tot.ret (by simp only; omega)) (fun _ => rest _ (by omega) (by omega))
  have none_ : ∀ q : Int, 0 ≤ q → q < 20000000 → Tot (fun k => spec_l4Some.j0 k false s q a l) (fun r => r.1.size ≤ 1000000000000) :=
    fun q hq0 hq => Tot.step (fun k => by rw [spec_l4Some.j0, if_neg (by simp)]) (rest q hq0 (by omega))
  unfold spec_l4Some.f
  refine Tot.bind (spec_GramOk.tot a l hl.small) fun b hb => Tot.ite (fun _ => Tot.bind (spec_l17Rd_pick.tot hs h0 (by omega) (by omega)) fun c hc => ?_) (fun _ => none_ p h0 (by omega))
  by_cases h : c.1 > 0
  · rw [decide_eq_true h]; exact take _ (by omega) (by omega)
  · rw [decide_eq_false h]; exact none_ _ (by omega) (by omega)
theorem spec_l4Draw.tot (code : List Int) (h : ∀ x ∈ code, (Lit.int .u8 x).wf = true) : Tot (fun k => spec_l4Draw.f k code) (fun r => r.1.size ≤ 5 ∧ Meek r.2.1 ∧ r.2.2.size ≤ 1000000000000) := by
  obtain ⟨s, e, hs⟩ := spec_l17Open.tot code h
  unfold spec_l4Draw.f
  rw [e]
  simp only [Option.bind_some]
  refine Tot.bind (spec_l1Gram.tot hs (by omega) (by omega)) fun g hg => ?_
  refine Tot.bind (spec_l1Bent.tot hs (by omega) (by omega) g.1 (by have := hg.1.1; simp only at this; rw [this]; decide) g.2.1 hg.1.meek hg.1.2.1) fun b hb => ?_
  refine Tot.bind (spec_l4Some.tot hs (by omega) (by omega) b.1 hb.1 b.2.1 hb.2.1) fun t ht => Tot.ret ⟨hb.1, hb.2.1, ht⟩
theorem spec_DrawMendNext.tot (code : List Int) (h : ∀ x ∈ code, (Lit.int .u8 x).wf = true) : Tot (fun k => spec_DrawMendNext.f k code) (fun r => r.1.size ≤ 5 ∧ Meek r.2.1 ∧ r.2.2.size ≤ 1000000000000) := by
  unfold spec_DrawMendNext.f
  exact Tot.bind (spec_l4Draw.tot code h) fun r hr => Tot.ret hr
end Go.Proofs.YtiibnkibckklgaaGreatDoor.P
namespace Go.Proofs.YtiibnkibckklgaaGreatDoor.P
set_option linter.unusedVariables false
set_option linter.unusedSimpArgs false
open Go.RowKit Go.Proofs.YtiibnkibckklgaaGreatDoorW.PrintWords
theorem spec_DrawAllTrees.tot (code : List Int) (h : ∀ x ∈ code, (Lit.int .u8 x).wf = true) : Tot (fun k => spec_DrawAllTrees.f k code) (fun r => r.1.size ≤ 5 ∧ Meek r.2.1 ∧ r.2.2.size ≤ 1000000000000) := by
  unfold spec_DrawAllTrees.f
  exact Tot.bind (spec_l4Draw.tot code h) fun r hr => Tot.ret hr
theorem FnAllBent : laws_FnAllBent.Pure := by
  intro code _ _ hb
  apply Tot.ends (g := fun k => laws_FnAllBent.f k code)
  unfold laws_FnAllBent.f
  refine Tot.ite (fun _ => Tot.ret rfl) (fun _ => Tot.bind (spec_DrawAllTrees.tot code hb) ?_)
  rintro ⟨s, l, t⟩ ⟨h1, h2, h3⟩
  have hsm := h2.small
  have ht : t.size ≤ 1099511627776 := by simp only at h3; omega
  have rest : ∀ x : Bool, (x = false → (gramOkB s l && textOkB t) = false) → Tot (fun k => laws_FnAllBent.j0 k t (textOkB t) x s l) (fun r => r = true) := by
    intro x hx
    refine Tot.step (fun k => by rw [laws_FnAllBent.j0]) (Tot.ite (fun _ => Tot.bind (spec_TextOk.tot t ht) ?_) (fun e => ?_))
    · rintro _ rfl
      exact Tot.ret (by simp)
    · have hBoth : Tot (fun k => impl_areBoth.f k s l t) (fun r => r = false) := by
        have := impl_areBoth.tot s l t hsm
        rwa [hx (Bool.eq_false_iff.mpr e)] at this
      refine Tot.bind (P := fun r => r = false) ?_ ?_
      · unfold impl_AllIs.f
        refine Tot.bind hBoth ?_
        rintro _ rfl
        exact Tot.ret rfl
      rintro _ rfl
      refine Tot.neg (by simp) (Tot.bind (P := fun r => r = []) ?_ ?_)
      · unfold impl_AllTrees.f
        refine Tot.bind hBoth ?_
        rintro _ rfl
        exact Tot.ret rfl
      rintro _ rfl
      refine Tot.pos (by simp) (Tot.bind (P := fun r => r = []) ?_ ?_)
      · unfold impl_AllParts.f
        refine Tot.bind hBoth ?_
        rintro _ rfl
        exact Tot.ret rfl
      rintro _ rfl
      exact Tot.ret rfl
  simp only [impl_TextOk.is, Option.bind_some]
  refine Tot.bind (spec_TextOk.tot t ht) ?_
  rintro _ rfl
  refine Tot.neg (by simp) (Tot.ite (fun e => Tot.bind (spec_GramOk.tot s l hsm) ?_) (fun e => rest false (fun _ => by rw [Bool.eq_false_iff.mpr e, Bool.and_false])))
  rintro _ rfl
  exact rest _ (fun h => by rw [h, Bool.false_and])
end Go.Proofs.YtiibnkibckklgaaGreatDoor.P
