-- Joined texts of a claim (wip/tools/bundle2.py).
import Derived.Test.YtiibnkibckklgaaDoorJAllLongerCAllLonger1
import Derived.Shelf.SlGeneric
import Derived.Ground.NamesProg
import Derived.Shelf.Strings.SlTrimAscii
import Derived.Lib.Hide
import Derived.Maps.OwnSet
import Derived.DeepKeys4
namespace Go.Proofs.YtiibnkibckklgaaDoor.P
open Go.RowKit Go.Proofs.YtiibnkibckklgaaDoorW.PrintWords Go.Proofs.YtiibnkibckklgaaDoorW.PrintLast Go.Proofs.YtiibnkibckklgaaDoorW.PrintMore
attribute [local go_sem] max2_int min2_int max_two min_two max_three min_three max_four min_four
set_option linter.unusedVariables false
set_option linter.unusedSimpArgs false
theorem q37_1 {p : Prop} (h : p := by repeat (first | (with_reducible first | exact HB.out | apply below_alloc | apply pw_below_drewN | apply below_drew1 | refine below_set ?_ GE101.out) | exact HB.out)) : p := h
theorem q37_2 {p : Prop} (h : p := by (with_reducible repeat (first | refine blk_drewN ?_ _ | refine blk_drew ?_ | refine blk_alloc ?_ _)); refine blk_put (cs := #[.string (⟨#[65]⟩ : ByteArray), .slice none 0 0]) ?_ 1 _ rfl; (with_reducible repeat (first | refine blk_drewN ?_ _ | refine blk_drew ?_ | refine blk_alloc ?_ _)); refine blk_put (cs := #[.string (⟨#[]⟩ : ByteArray), .slice none 0 0]) ?_ 0 _ rfl; (with_reducible repeat (first | refine blk_drewN ?_ _ | refine blk_drew ?_ | refine blk_alloc ?_ _)); exact BK101.out) : p := h
theorem q37_3 {p : Prop} (h : p := by (with_reducible repeat (first | refine blk_drewN ?_ _ | refine blk_drew ?_ | refine blk_alloc ?_ _)); exact BK101.out) : p := h
/-! ### spec_l1Base: function 137 -/
def spec_l1Base.f (a0 : Int) : Option (ByteArray × (List (S46))) := if a0 = 0 then (some ((⟨#[65]⟩ : ByteArray), (([(⟨(⟨#[65]⟩ : ByteArray), (⟨#[97, 65, 98]⟩ : ByteArray)⟩ : S46), (⟨(⟨#[65]⟩ : ByteArray), (⟨#[]⟩ : ByteArray)⟩ : S46)] : List (S46))))) else (if a0 = 1 then (some ((⟨#[65]⟩ : ByteArray), (([(⟨(⟨#[65]⟩ : ByteArray), (⟨#[65, 98, 66]⟩ : ByteArray)⟩ : S46), (⟨(⟨#[65]⟩ : ByteArray), (⟨#[66]⟩ : ByteArray)⟩ : S46), (⟨(⟨#[66]⟩ : ByteArray), (⟨#[97]⟩ : ByteArray)⟩ : S46), (⟨(⟨#[66]⟩ : ByteArray), (⟨#[99, 65, 100]⟩ : ByteArray)⟩ : S46)] : List (S46))))) else (if a0 = 2 then (some ((⟨#[65]⟩ : ByteArray), (([(⟨(⟨#[65]⟩ : ByteArray), (⟨#[65, 98, 65]⟩ : ByteArray)⟩ : S46), (⟨(⟨#[65]⟩ : ByteArray), (⟨#[97]⟩ : ByteArray)⟩ : S46)] : List (S46))))) else (if a0 = 3 then (some ((⟨#[65]⟩ : ByteArray), (([(⟨(⟨#[65]⟩ : ByteArray), (⟨#[66, 67]⟩ : ByteArray)⟩ : S46), (⟨(⟨#[66]⟩ : ByteArray), (⟨#[97, 66]⟩ : ByteArray)⟩ : S46), (⟨(⟨#[66]⟩ : ByteArray), (⟨#[]⟩ : ByteArray)⟩ : S46), (⟨(⟨#[67]⟩ : ByteArray), (⟨#[98]⟩ : ByteArray)⟩ : S46), (⟨(⟨#[67]⟩ : ByteArray), (⟨#[68]⟩ : ByteArray)⟩ : S46), (⟨(⟨#[68]⟩ : ByteArray), (⟨#[68, 99]⟩ : ByteArray)⟩ : S46)] : List (S46))))) else (if a0 = 4 then (some ((⟨#[65]⟩ : ByteArray), (([(⟨(⟨#[65]⟩ : ByteArray), (⟨#[97, 66]⟩ : ByteArray)⟩ : S46), (⟨(⟨#[65]⟩ : ByteArray), (⟨#[98, 65]⟩ : ByteArray)⟩ : S46), (⟨(⟨#[66]⟩ : ByteArray), (⟨#[65]⟩ : ByteArray)⟩ : S46), (⟨(⟨#[66]⟩ : ByteArray), (⟨#[99]⟩ : ByteArray)⟩ : S46), (⟨(⟨#[66]⟩ : ByteArray), (⟨#[66]⟩ : ByteArray)⟩ : S46)] : List (S46))))) else (if a0 = 5 then (some ((⟨#[65]⟩ : ByteArray), (([(⟨(⟨#[65]⟩ : ByteArray), (⟨#[97, 65]⟩ : ByteArray)⟩ : S46), (⟨(⟨#[65]⟩ : ByteArray), (⟨#[97, 65, 98, 65]⟩ : ByteArray)⟩ : S46), (⟨(⟨#[65]⟩ : ByteArray), (⟨#[99]⟩ : ByteArray)⟩ : S46)] : List (S46))))) else (if a0 = 6 then (some ((⟨#[65]⟩ : ByteArray), (([(⟨(⟨#[65]⟩ : ByteArray), (⟨#[66, 66]⟩ : ByteArray)⟩ : S46), (⟨(⟨#[66]⟩ : ByteArray), (⟨#[97, 66]⟩ : ByteArray)⟩ : S46), (⟨(⟨#[66]⟩ : ByteArray), (⟨#[98]⟩ : ByteArray)⟩ : S46)] : List (S46))))) else (some ((⟨#[65]⟩ : ByteArray), (([] : List (S46)))))))))))
set_option maxHeartbeats 8000000 in
set_option maxRecDepth 100000 in
theorem spec_l1Base.calls (a0 : Int) (r1 : ByteArray) (r2 : List (S46)) (w : World) (h : spec_l1Base.f a0 = some (r1, r2)) :
  Calls Tryd.prog 137 #[.int .i64 a0] w fun e w' => ∃ v1_ : Value, e = .returned (.agg #[.string r1, v1_]) ∧ Kd.R k46 46 w' w.heap.size (fun _ => True) v1_ r2 ∧ Below w.heap.size w w' := by
 have hu25 := Tryd.underlying25
 have hu46 := Tryd.underlying46
 have HB := Aside0.mk (Below.refl w.heap.size w)
 have H : (if a0 = 0 then (some ((⟨#[65]⟩ : ByteArray), (([(⟨(⟨#[65]⟩ : ByteArray), (⟨#[97, 65, 98]⟩ : ByteArray)⟩ : S46), (⟨(⟨#[65]⟩ : ByteArray), (⟨#[]⟩ : ByteArray)⟩ : S46)] : List (S46))))) else (if a0 = 1 then (some ((⟨#[65]⟩ : ByteArray), (([(⟨(⟨#[65]⟩ : ByteArray), (⟨#[65, 98, 66]⟩ : ByteArray)⟩ : S46), (⟨(⟨#[65]⟩ : ByteArray), (⟨#[66]⟩ : ByteArray)⟩ : S46), (⟨(⟨#[66]⟩ : ByteArray), (⟨#[97]⟩ : ByteArray)⟩ : S46), (⟨(⟨#[66]⟩ : ByteArray), (⟨#[99, 65, 100]⟩ : ByteArray)⟩ : S46)] : List (S46))))) else (if a0 = 2 then (some ((⟨#[65]⟩ : ByteArray), (([(⟨(⟨#[65]⟩ : ByteArray), (⟨#[65, 98, 65]⟩ : ByteArray)⟩ : S46), (⟨(⟨#[65]⟩ : ByteArray), (⟨#[97]⟩ : ByteArray)⟩ : S46)] : List (S46))))) else (if a0 = 3 then (some ((⟨#[65]⟩ : ByteArray), (([(⟨(⟨#[65]⟩ : ByteArray), (⟨#[66, 67]⟩ : ByteArray)⟩ : S46), (⟨(⟨#[66]⟩ : ByteArray), (⟨#[97, 66]⟩ : ByteArray)⟩ : S46), (⟨(⟨#[66]⟩ : ByteArray), (⟨#[]⟩ : ByteArray)⟩ : S46), (⟨(⟨#[67]⟩ : ByteArray), (⟨#[98]⟩ : ByteArray)⟩ : S46), (⟨(⟨#[67]⟩ : ByteArray), (⟨#[68]⟩ : ByteArray)⟩ : S46), (⟨(⟨#[68]⟩ : ByteArray), (⟨#[68, 99]⟩ : ByteArray)⟩ : S46)] : List (S46))))) else (if a0 = 4 then (some ((⟨#[65]⟩ : ByteArray), (([(⟨(⟨#[65]⟩ : ByteArray), (⟨#[97, 66]⟩ : ByteArray)⟩ : S46), (⟨(⟨#[65]⟩ : ByteArray), (⟨#[98, 65]⟩ : ByteArray)⟩ : S46), (⟨(⟨#[66]⟩ : ByteArray), (⟨#[65]⟩ : ByteArray)⟩ : S46), (⟨(⟨#[66]⟩ : ByteArray), (⟨#[99]⟩ : ByteArray)⟩ : S46), (⟨(⟨#[66]⟩ : ByteArray), (⟨#[66]⟩ : ByteArray)⟩ : S46)] : List (S46))))) else (if a0 = 5 then (some ((⟨#[65]⟩ : ByteArray), (([(⟨(⟨#[65]⟩ : ByteArray), (⟨#[97, 65]⟩ : ByteArray)⟩ : S46), (⟨(⟨#[65]⟩ : ByteArray), (⟨#[97, 65, 98, 65]⟩ : ByteArray)⟩ : S46), (⟨(⟨#[65]⟩ : ByteArray), (⟨#[99]⟩ : ByteArray)⟩ : S46)] : List (S46))))) else (if a0 = 6 then (some ((⟨#[65]⟩ : ByteArray), (([(⟨(⟨#[65]⟩ : ByteArray), (⟨#[66, 66]⟩ : ByteArray)⟩ : S46), (⟨(⟨#[66]⟩ : ByteArray), (⟨#[97, 66]⟩ : ByteArray)⟩ : S46), (⟨(⟨#[66]⟩ : ByteArray), (⟨#[98]⟩ : ByteArray)⟩ : S46)] : List (S46))))) else (some ((⟨#[65]⟩ : ByteArray), (([] : List (S46)))))))))))) = some (r1, r2) := h
 clear h
 by_cases c2 : a0 = 0
 ·rw [if_pos c2] at H
  have c2b0 : (a0 == 0) = true := beq_iff_eq.mpr c2
  have c2b1 : (a0 != 0) = false := bne_eq_false_iff_eq.mpr c2
  clear c2
  obtain ⟨y102, hy102⟩ : ∃ y_ : List (S46), y_ = (([(⟨(⟨#[65]⟩ : ByteArray), (⟨#[97, 65, 98]⟩ : ByteArray)⟩ : S46), (⟨(⟨#[65]⟩ : ByteArray), (⟨#[]⟩ : ByteArray)⟩ : S46)] : List (S46))) := ⟨_, rfl⟩
  replace H : (some ((⟨#[65]⟩ : ByteArray), y102)) = some (r1, r2) := by first | (rw [hy102]; with_reducible exact H) | (have H2_ := (Option.bind_some _ _).symm.trans H; rw [hy102]; with_reducible exact H2_) | (have H2_ := (Option.bind_some _ _).symm.trans H; with_reducible exact H2_) | with_reducible exact H | (rw [hy102]; exact H) | exact H
  have Ny102 := Aside0.mk hy102
  clear hy102
  simp only [Option.some.injEq, Prod.mk.injEq] at H
  obtain ⟨rfl, rfl⟩ := H
  go_enter Tryd.func137, Tryd.ntmps137
  go_wp2_with (first | ((with_reducible refine gate_dst (N := 2) rfl ?_); refine box_event ?hg (N := 2) ?hd (cs := #[.string (⟨#[]⟩ : ByteArray), .slice none 0 0]) (t := 25) ?hr ?_; (case hd => rfl); (case hg => rfl); (case hr => first | (go_simp; done) | (go_simp; rfl)); intro gb101 hg w3 hbox hb; refine rn4 (below_step q37_1 hb) (hbox) ((by rw [hg]; exact (below_size q37_1) : w.heap.size ≤ gb101)) ((by rw [hg]; exact (below_size q37_1) : w.heap.size ≤ gb101)) ?_; clear HB; intro HB BK101 GW101 GE101; clear hb hbox hg) | ((with_reducible refine gate_dst (N := 8) rfl ?_); refine Kd.R_lit k46 _ 46 ?hg (N := 8) ?hd (xs := ([(⟨(⟨#[65]⟩ : ByteArray), (⟨#[97, 65, 98]⟩ : ByteArray)⟩ : S46), (⟨(⟨#[65]⟩ : ByteArray), (⟨#[]⟩ : ByteArray)⟩ : S46)] : List (S46))) (inner := [.string (⟨#[65]⟩ : ByteArray), .string (⟨#[97, 65, 98]⟩ : ByteArray), .string (⟨#[65]⟩ : ByteArray), .string (⟨#[]⟩ : ByteArray)]) (ok := fun _ => True) (okp := fun _ => True) ?hr ?hp (fun _ hk => hk) trivial (Below.refl _ _) (Nat.le_refl _) (by simp) ?_; (case hd => rfl); (case hg => rfl); (case hr => first | (go_simp; done) | (go_simp; rfl)); (case hp => exact (Reps.c2 (show Kd.M k46 _ _ _ (⟨(⟨#[65]⟩ : ByteArray), (⟨#[97, 65, 98]⟩ : ByteArray)⟩ : S46) [.string (⟨#[65]⟩ : ByteArray), .string (⟨#[97, 65, 98]⟩ : ByteArray)] from (k46_mkM _ _ _ (⟨(⟨#[65]⟩ : ByteArray), (⟨#[97, 65, 98]⟩ : ByteArray)⟩ : S46) )) (Reps.c2 (show Kd.M k46 _ _ _ (⟨(⟨#[65]⟩ : ByteArray), (⟨#[]⟩ : ByteArray)⟩ : S46) [.string (⟨#[65]⟩ : ByteArray), .string (⟨#[]⟩ : ByteArray)] from (k46_mkM _ _ _ (⟨(⟨#[65]⟩ : ByteArray), (⟨#[]⟩ : ByteArray)⟩ : S46) )) (Reps.none _ _)))); intro v103 w4 ho5 hb hg_ hnew_; clear hg_ hnew_; (first | rw [← Ny102.out] at ho5 | (simp only [Int.reduceToNat] at ho5; rw [← Ny102.out] at ho5)); refine rn3 (Kd.R_lower ho5 (below_size q37_1)) (blk_below (g := gb101) (o := .cells #[.string (⟨#[]⟩ : ByteArray), .slice none 0 0] 25 (0, 0)) q37_3 hb) (below_step q37_1 hb) ?_; clear BK101 HB; intro HO104 BK101 HB; clear hb ho5; obtain ⟨Ao6, co6, eo6⟩ := Kd.R_slice HO104.out; subst eo6; have hcz7_0 : w4.cell? ⟨gb101, 0, none⟩ = some (.string (⟨#[]⟩ : ByteArray)) := (blk_cell BK101.out 0).trans rfl; have hcz7_1 : w4.cell? ⟨gb101, 1, none⟩ = some (.slice none 0 0) := (blk_cell BK101.out 1).trans rfl; have hfz7_0 := blk_frozen BK101.out 0; have hfz7_1 := blk_frozen BK101.out 1))
  refine bodyPost_ret (results_cell_row rfl _ _ gb101 25 #[.string (⟨#[65]⟩ : ByteArray), .slice Ao6 y102.length co6] (0, 0) _ rfl q37_2 Tryd.underlying25 rfl (by kernel_rfl)) rfl ?_
  exact ⟨_, by first | rfl | (simp [errW_none, errW_some] <;> rfl) | (simp [*, errW_none, errW_some] <;> rfl), by (with_reducible repeat (first | apply Kd.R_alloc | apply Kd.R_drewN | apply Kd.R_drew)); exact Kd.R_mono (Kd.R_far (p := ⟨gb101, 1, none⟩) (Kd.R_far (p := ⟨gb101, 0, none⟩) (Kd.R_types HO104.out BK101.out (by decide)) (fun _ hk => hk.2) (.string (⟨#[65]⟩ : ByteArray))) (fun _ hk => hk.2) (.slice Ao6 y102.length co6)) (fun _ hk => trivial), by repeat (first | (with_reducible first | exact HB.out | apply below_alloc | apply pw_below_drewN | apply below_drew1 | refine below_set ?_ GE101.out) | exact HB.out)⟩
 rw [if_neg c2] at H
 have c2b0 : (a0 == 0) = false := beq_eq_false_iff_ne.mpr c2
 have c2b1 : (a0 != 0) = true := bne_iff_ne.mpr c2
 by_cases c8 : a0 = 1
 ·rw [if_pos c8] at H
  have c8b0 : (a0 == 1) = true := beq_iff_eq.mpr c8
  have c8b1 : (a0 != 1) = false := bne_eq_false_iff_eq.mpr c8
  clear c8
  obtain ⟨y105, hy105⟩ : ∃ y_ : List (S46), y_ = (([(⟨(⟨#[65]⟩ : ByteArray), (⟨#[65, 98, 66]⟩ : ByteArray)⟩ : S46), (⟨(⟨#[65]⟩ : ByteArray), (⟨#[66]⟩ : ByteArray)⟩ : S46), (⟨(⟨#[66]⟩ : ByteArray), (⟨#[97]⟩ : ByteArray)⟩ : S46), (⟨(⟨#[66]⟩ : ByteArray), (⟨#[99, 65, 100]⟩ : ByteArray)⟩ : S46)] : List (S46))) := ⟨_, rfl⟩
  replace H : (some ((⟨#[65]⟩ : ByteArray), y105)) = some (r1, r2) := by first | (rw [hy105]; with_reducible exact H) | (have H2_ := (Option.bind_some _ _).symm.trans H; rw [hy105]; with_reducible exact H2_) | (have H2_ := (Option.bind_some _ _).symm.trans H; with_reducible exact H2_) | with_reducible exact H | (rw [hy105]; exact H) | exact H
  have Ny105 := Aside0.mk hy105
  clear hy105
  simp only [Option.some.injEq, Prod.mk.injEq] at H
  obtain ⟨rfl, rfl⟩ := H
  go_enter Tryd.func137, Tryd.ntmps137
  go_wp2_with (first | ((with_reducible refine gate_dst (N := 2) rfl ?_); refine box_event ?hg (N := 2) ?hd (cs := #[.string (⟨#[]⟩ : ByteArray), .slice none 0 0]) (t := 25) ?hr ?_; (case hd => rfl); (case hg => rfl); (case hr => first | (go_simp; done) | (go_simp; rfl)); intro gb101 hg w9 hbox hb; refine rn4 (below_step q37_1 hb) (hbox) ((by rw [hg]; exact (below_size q37_1) : w.heap.size ≤ gb101)) ((by rw [hg]; exact (below_size q37_1) : w.heap.size ≤ gb101)) ?_; clear HB; intro HB BK101 GW101 GE101; clear hb hbox hg) | ((with_reducible refine gate_dst (N := 16) rfl ?_); refine Kd.R_lit k46 _ 46 ?hg (N := 16) ?hd (xs := ([(⟨(⟨#[65]⟩ : ByteArray), (⟨#[65, 98, 66]⟩ : ByteArray)⟩ : S46), (⟨(⟨#[65]⟩ : ByteArray), (⟨#[66]⟩ : ByteArray)⟩ : S46), (⟨(⟨#[66]⟩ : ByteArray), (⟨#[97]⟩ : ByteArray)⟩ : S46), (⟨(⟨#[66]⟩ : ByteArray), (⟨#[99, 65, 100]⟩ : ByteArray)⟩ : S46)] : List (S46))) (inner := [.string (⟨#[65]⟩ : ByteArray), .string (⟨#[65, 98, 66]⟩ : ByteArray), .string (⟨#[65]⟩ : ByteArray), .string (⟨#[66]⟩ : ByteArray), .string (⟨#[66]⟩ : ByteArray), .string (⟨#[97]⟩ : ByteArray), .string (⟨#[66]⟩ : ByteArray), .string (⟨#[99, 65, 100]⟩ : ByteArray)]) (ok := fun _ => True) (okp := fun _ => True) ?hr ?hp (fun _ hk => hk) trivial (Below.refl _ _) (Nat.le_refl _) (by simp) ?_; (case hd => rfl); (case hg => rfl); (case hr => first | (go_simp; done) | (go_simp; rfl)); (case hp => exact (Reps.c2 (show Kd.M k46 _ _ _ (⟨(⟨#[65]⟩ : ByteArray), (⟨#[65, 98, 66]⟩ : ByteArray)⟩ : S46) [.string (⟨#[65]⟩ : ByteArray), .string (⟨#[65, 98, 66]⟩ : ByteArray)] from (k46_mkM _ _ _ (⟨(⟨#[65]⟩ : ByteArray), (⟨#[65, 98, 66]⟩ : ByteArray)⟩ : S46) )) (Reps.c2 (show Kd.M k46 _ _ _ (⟨(⟨#[65]⟩ : ByteArray), (⟨#[66]⟩ : ByteArray)⟩ : S46) [.string (⟨#[65]⟩ : ByteArray), .string (⟨#[66]⟩ : ByteArray)] from (k46_mkM _ _ _ (⟨(⟨#[65]⟩ : ByteArray), (⟨#[66]⟩ : ByteArray)⟩ : S46) )) (Reps.c2 (show Kd.M k46 _ _ _ (⟨(⟨#[66]⟩ : ByteArray), (⟨#[97]⟩ : ByteArray)⟩ : S46) [.string (⟨#[66]⟩ : ByteArray), .string (⟨#[97]⟩ : ByteArray)] from (k46_mkM _ _ _ (⟨(⟨#[66]⟩ : ByteArray), (⟨#[97]⟩ : ByteArray)⟩ : S46) )) (Reps.c2 (show Kd.M k46 _ _ _ (⟨(⟨#[66]⟩ : ByteArray), (⟨#[99, 65, 100]⟩ : ByteArray)⟩ : S46) [.string (⟨#[66]⟩ : ByteArray), .string (⟨#[99, 65, 100]⟩ : ByteArray)] from (k46_mkM _ _ _ (⟨(⟨#[66]⟩ : ByteArray), (⟨#[99, 65, 100]⟩ : ByteArray)⟩ : S46) )) (Reps.none _ _)))))); intro v106 w10 ho11 hb hg_ hnew_; clear hg_ hnew_; (first | rw [← Ny105.out] at ho11 | (simp only [Int.reduceToNat] at ho11; rw [← Ny105.out] at ho11)); refine rn3 (Kd.R_lower ho11 (below_size q37_1)) (blk_below (g := gb101) (o := .cells #[.string (⟨#[]⟩ : ByteArray), .slice none 0 0] 25 (0, 0)) q37_3 hb) (below_step q37_1 hb) ?_; clear BK101 HB; intro HO107 BK101 HB; clear hb ho11; obtain ⟨Ao12, co12, eo12⟩ := Kd.R_slice HO107.out; subst eo12; have hcz13_0 : w10.cell? ⟨gb101, 0, none⟩ = some (.string (⟨#[]⟩ : ByteArray)) := (blk_cell BK101.out 0).trans rfl; have hcz13_1 : w10.cell? ⟨gb101, 1, none⟩ = some (.slice none 0 0) := (blk_cell BK101.out 1).trans rfl; have hfz13_0 := blk_frozen BK101.out 0; have hfz13_1 := blk_frozen BK101.out 1))
  refine bodyPost_ret (results_cell_row rfl _ _ gb101 25 #[.string (⟨#[65]⟩ : ByteArray), .slice Ao12 y105.length co12] (0, 0) _ rfl q37_2 Tryd.underlying25 rfl (by kernel_rfl)) rfl ?_
  exact ⟨_, by first | rfl | (simp [errW_none, errW_some] <;> rfl) | (simp [*, errW_none, errW_some] <;> rfl), by (with_reducible repeat (first | apply Kd.R_alloc | apply Kd.R_drewN | apply Kd.R_drew)); exact Kd.R_mono (Kd.R_far (p := ⟨gb101, 1, none⟩) (Kd.R_far (p := ⟨gb101, 0, none⟩) (Kd.R_types HO107.out BK101.out (by decide)) (fun _ hk => hk.2) (.string (⟨#[65]⟩ : ByteArray))) (fun _ hk => hk.2) (.slice Ao12 y105.length co12)) (fun _ hk => trivial), by repeat (first | (with_reducible first | exact HB.out | apply below_alloc | apply pw_below_drewN | apply below_drew1 | refine below_set ?_ GE101.out) | exact HB.out)⟩
 rw [if_neg c8] at H
 have c8b0 : (a0 == 1) = false := beq_eq_false_iff_ne.mpr c8
 have c8b1 : (a0 != 1) = true := bne_iff_ne.mpr c8
 by_cases c14 : a0 = 2
 ·rw [if_pos c14] at H
  have c14b0 : (a0 == 2) = true := beq_iff_eq.mpr c14
  have c14b1 : (a0 != 2) = false := bne_eq_false_iff_eq.mpr c14
  clear c14
  obtain ⟨y108, hy108⟩ : ∃ y_ : List (S46), y_ = (([(⟨(⟨#[65]⟩ : ByteArray), (⟨#[65, 98, 65]⟩ : ByteArray)⟩ : S46), (⟨(⟨#[65]⟩ : ByteArray), (⟨#[97]⟩ : ByteArray)⟩ : S46)] : List (S46))) := ⟨_, rfl⟩
  replace H : (some ((⟨#[65]⟩ : ByteArray), y108)) = some (r1, r2) := by first | (rw [hy108]; with_reducible exact H) | (have H2_ := (Option.bind_some _ _).symm.trans H; rw [hy108]; with_reducible exact H2_) | (have H2_ := (Option.bind_some _ _).symm.trans H; with_reducible exact H2_) | with_reducible exact H | (rw [hy108]; exact H) | exact H
  have Ny108 := Aside0.mk hy108
  clear hy108
  simp only [Option.some.injEq, Prod.mk.injEq] at H
  obtain ⟨rfl, rfl⟩ := H
  go_enter Tryd.func137, Tryd.ntmps137
  go_wp2_with (first | ((with_reducible refine gate_dst (N := 2) rfl ?_); refine box_event ?hg (N := 2) ?hd (cs := #[.string (⟨#[]⟩ : ByteArray), .slice none 0 0]) (t := 25) ?hr ?_; (case hd => rfl); (case hg => rfl); (case hr => first | (go_simp; done) | (go_simp; rfl)); intro gb101 hg w15 hbox hb; refine rn4 (below_step q37_1 hb) (hbox) ((by rw [hg]; exact (below_size q37_1) : w.heap.size ≤ gb101)) ((by rw [hg]; exact (below_size q37_1) : w.heap.size ≤ gb101)) ?_; clear HB; intro HB BK101 GW101 GE101; clear hb hbox hg) | ((with_reducible refine gate_dst (N := 22) rfl ?_); refine Kd.R_lit k46 _ 46 ?hg (N := 22) ?hd (xs := ([(⟨(⟨#[65]⟩ : ByteArray), (⟨#[65, 98, 65]⟩ : ByteArray)⟩ : S46), (⟨(⟨#[65]⟩ : ByteArray), (⟨#[97]⟩ : ByteArray)⟩ : S46)] : List (S46))) (inner := [.string (⟨#[65]⟩ : ByteArray), .string (⟨#[65, 98, 65]⟩ : ByteArray), .string (⟨#[65]⟩ : ByteArray), .string (⟨#[97]⟩ : ByteArray)]) (ok := fun _ => True) (okp := fun _ => True) ?hr ?hp (fun _ hk => hk) trivial (Below.refl _ _) (Nat.le_refl _) (by simp) ?_; (case hd => rfl); (case hg => rfl); (case hr => first | (go_simp; done) | (go_simp; rfl)); (case hp => exact (Reps.c2 (show Kd.M k46 _ _ _ (⟨(⟨#[65]⟩ : ByteArray), (⟨#[65, 98, 65]⟩ : ByteArray)⟩ : S46) [.string (⟨#[65]⟩ : ByteArray), .string (⟨#[65, 98, 65]⟩ : ByteArray)] from (k46_mkM _ _ _ (⟨(⟨#[65]⟩ : ByteArray), (⟨#[65, 98, 65]⟩ : ByteArray)⟩ : S46) )) (Reps.c2 (show Kd.M k46 _ _ _ (⟨(⟨#[65]⟩ : ByteArray), (⟨#[97]⟩ : ByteArray)⟩ : S46) [.string (⟨#[65]⟩ : ByteArray), .string (⟨#[97]⟩ : ByteArray)] from (k46_mkM _ _ _ (⟨(⟨#[65]⟩ : ByteArray), (⟨#[97]⟩ : ByteArray)⟩ : S46) )) (Reps.none _ _)))); intro v109 w16 ho17 hb hg_ hnew_; clear hg_ hnew_; (first | rw [← Ny108.out] at ho17 | (simp only [Int.reduceToNat] at ho17; rw [← Ny108.out] at ho17)); refine rn3 (Kd.R_lower ho17 (below_size q37_1)) (blk_below (g := gb101) (o := .cells #[.string (⟨#[]⟩ : ByteArray), .slice none 0 0] 25 (0, 0)) q37_3 hb) (below_step q37_1 hb) ?_; clear BK101 HB; intro HO110 BK101 HB; clear hb ho17; obtain ⟨Ao18, co18, eo18⟩ := Kd.R_slice HO110.out; subst eo18; have hcz19_0 : w16.cell? ⟨gb101, 0, none⟩ = some (.string (⟨#[]⟩ : ByteArray)) := (blk_cell BK101.out 0).trans rfl; have hcz19_1 : w16.cell? ⟨gb101, 1, none⟩ = some (.slice none 0 0) := (blk_cell BK101.out 1).trans rfl; have hfz19_0 := blk_frozen BK101.out 0; have hfz19_1 := blk_frozen BK101.out 1))
  refine bodyPost_ret (results_cell_row rfl _ _ gb101 25 #[.string (⟨#[65]⟩ : ByteArray), .slice Ao18 y108.length co18] (0, 0) _ rfl q37_2 Tryd.underlying25 rfl (by kernel_rfl)) rfl ?_
  exact ⟨_, by first | rfl | (simp [errW_none, errW_some] <;> rfl) | (simp [*, errW_none, errW_some] <;> rfl), by (with_reducible repeat (first | apply Kd.R_alloc | apply Kd.R_drewN | apply Kd.R_drew)); exact Kd.R_mono (Kd.R_far (p := ⟨gb101, 1, none⟩) (Kd.R_far (p := ⟨gb101, 0, none⟩) (Kd.R_types HO110.out BK101.out (by decide)) (fun _ hk => hk.2) (.string (⟨#[65]⟩ : ByteArray))) (fun _ hk => hk.2) (.slice Ao18 y108.length co18)) (fun _ hk => trivial), by repeat (first | (with_reducible first | exact HB.out | apply below_alloc | apply pw_below_drewN | apply below_drew1 | refine below_set ?_ GE101.out) | exact HB.out)⟩
 rw [if_neg c14] at H
 have c14b0 : (a0 == 2) = false := beq_eq_false_iff_ne.mpr c14
 have c14b1 : (a0 != 2) = true := bne_iff_ne.mpr c14
 by_cases c20 : a0 = 3
 ·rw [if_pos c20] at H
  have c20b0 : (a0 == 3) = true := beq_iff_eq.mpr c20
  have c20b1 : (a0 != 3) = false := bne_eq_false_iff_eq.mpr c20
  clear c20
  obtain ⟨y111, hy111⟩ : ∃ y_ : List (S46), y_ = (([(⟨(⟨#[65]⟩ : ByteArray), (⟨#[66, 67]⟩ : ByteArray)⟩ : S46), (⟨(⟨#[66]⟩ : ByteArray), (⟨#[97, 66]⟩ : ByteArray)⟩ : S46), (⟨(⟨#[66]⟩ : ByteArray), (⟨#[]⟩ : ByteArray)⟩ : S46), (⟨(⟨#[67]⟩ : ByteArray), (⟨#[98]⟩ : ByteArray)⟩ : S46), (⟨(⟨#[67]⟩ : ByteArray), (⟨#[68]⟩ : ByteArray)⟩ : S46), (⟨(⟨#[68]⟩ : ByteArray), (⟨#[68, 99]⟩ : ByteArray)⟩ : S46)] : List (S46))) := ⟨_, rfl⟩
  replace H : (some ((⟨#[65]⟩ : ByteArray), y111)) = some (r1, r2) := by first | (rw [hy111]; with_reducible exact H) | (have H2_ := (Option.bind_some _ _).symm.trans H; rw [hy111]; with_reducible exact H2_) | (have H2_ := (Option.bind_some _ _).symm.trans H; with_reducible exact H2_) | with_reducible exact H | (rw [hy111]; exact H) | exact H
  have Ny111 := Aside0.mk hy111
  clear hy111
  simp only [Option.some.injEq, Prod.mk.injEq] at H
  obtain ⟨rfl, rfl⟩ := H
  go_enter Tryd.func137, Tryd.ntmps137
  go_wp2_with (first | ((with_reducible refine gate_dst (N := 2) rfl ?_); refine box_event ?hg (N := 2) ?hd (cs := #[.string (⟨#[]⟩ : ByteArray), .slice none 0 0]) (t := 25) ?hr ?_; (case hd => rfl); (case hg => rfl); (case hr => first | (go_simp; done) | (go_simp; rfl)); intro gb101 hg w21 hbox hb; refine rn4 (below_step q37_1 hb) (hbox) ((by rw [hg]; exact (below_size q37_1) : w.heap.size ≤ gb101)) ((by rw [hg]; exact (below_size q37_1) : w.heap.size ≤ gb101)) ?_; clear HB; intro HB BK101 GW101 GE101; clear hb hbox hg) | ((with_reducible refine gate_dst (N := 32) rfl ?_); refine Kd.R_lit k46 _ 46 ?hg (N := 32) ?hd (xs := ([(⟨(⟨#[65]⟩ : ByteArray), (⟨#[66, 67]⟩ : ByteArray)⟩ : S46), (⟨(⟨#[66]⟩ : ByteArray), (⟨#[97, 66]⟩ : ByteArray)⟩ : S46), (⟨(⟨#[66]⟩ : ByteArray), (⟨#[]⟩ : ByteArray)⟩ : S46), (⟨(⟨#[67]⟩ : ByteArray), (⟨#[98]⟩ : ByteArray)⟩ : S46), (⟨(⟨#[67]⟩ : ByteArray), (⟨#[68]⟩ : ByteArray)⟩ : S46), (⟨(⟨#[68]⟩ : ByteArray), (⟨#[68, 99]⟩ : ByteArray)⟩ : S46)] : List (S46))) (inner := [.string (⟨#[65]⟩ : ByteArray), .string (⟨#[66, 67]⟩ : ByteArray), .string (⟨#[66]⟩ : ByteArray), .string (⟨#[97, 66]⟩ : ByteArray), .string (⟨#[66]⟩ : ByteArray), .string (⟨#[]⟩ : ByteArray), .string (⟨#[67]⟩ : ByteArray), .string (⟨#[98]⟩ : ByteArray), .string (⟨#[67]⟩ : ByteArray), .string (⟨#[68]⟩ : ByteArray), .string (⟨#[68]⟩ : ByteArray), .string (⟨#[68, 99]⟩ : ByteArray)]) (ok := fun _ => True) (okp := fun _ => True) ?hr ?hp (fun _ hk => hk) trivial (Below.refl _ _) (Nat.le_refl _) (by simp) ?_; (case hd => rfl); (case hg => rfl); (case hr => first | (go_simp; done) | (go_simp; rfl)); (case hp => exact (Reps.c2 (show Kd.M k46 _ _ _ (⟨(⟨#[65]⟩ : ByteArray), (⟨#[66, 67]⟩ : ByteArray)⟩ : S46) [.string (⟨#[65]⟩ : ByteArray), .string (⟨#[66, 67]⟩ : ByteArray)] from (k46_mkM _ _ _ (⟨(⟨#[65]⟩ : ByteArray), (⟨#[66, 67]⟩ : ByteArray)⟩ : S46) )) (Reps.c2 (show Kd.M k46 _ _ _ (⟨(⟨#[66]⟩ : ByteArray), (⟨#[97, 66]⟩ : ByteArray)⟩ : S46) [.string (⟨#[66]⟩ : ByteArray), .string (⟨#[97, 66]⟩ : ByteArray)] from (k46_mkM _ _ _ (⟨(⟨#[66]⟩ : ByteArray), (⟨#[97, 66]⟩ : ByteArray)⟩ : S46) )) (Reps.c2 (show Kd.M k46 _ _ _ (⟨(⟨#[66]⟩ : ByteArray), (⟨#[]⟩ : ByteArray)⟩ : S46) [.string (⟨#[66]⟩ : ByteArray), .string (⟨#[]⟩ : ByteArray)] from (k46_mkM _ _ _ (⟨(⟨#[66]⟩ : ByteArray), (⟨#[]⟩ : ByteArray)⟩ : S46) )) (Reps.c2 (show Kd.M k46 _ _ _ (⟨(⟨#[67]⟩ : ByteArray), (⟨#[98]⟩ : ByteArray)⟩ : S46) [.string (⟨#[67]⟩ : ByteArray), .string (⟨#[98]⟩ : ByteArray)] from (k46_mkM _ _ _ (⟨(⟨#[67]⟩ : ByteArray), (⟨#[98]⟩ : ByteArray)⟩ : S46) )) (Reps.c2 (show Kd.M k46 _ _ _ (⟨(⟨#[67]⟩ : ByteArray), (⟨#[68]⟩ : ByteArray)⟩ : S46) [.string (⟨#[67]⟩ : ByteArray), .string (⟨#[68]⟩ : ByteArray)] from (k46_mkM _ _ _ (⟨(⟨#[67]⟩ : ByteArray), (⟨#[68]⟩ : ByteArray)⟩ : S46) )) (Reps.c2 (show Kd.M k46 _ _ _ (⟨(⟨#[68]⟩ : ByteArray), (⟨#[68, 99]⟩ : ByteArray)⟩ : S46) [.string (⟨#[68]⟩ : ByteArray), .string (⟨#[68, 99]⟩ : ByteArray)] from (k46_mkM _ _ _ (⟨(⟨#[68]⟩ : ByteArray), (⟨#[68, 99]⟩ : ByteArray)⟩ : S46) )) (Reps.none _ _)))))))); intro v112 w22 ho23 hb hg_ hnew_; clear hg_ hnew_; (first | rw [← Ny111.out] at ho23 | (simp only [Int.reduceToNat] at ho23; rw [← Ny111.out] at ho23)); refine rn3 (Kd.R_lower ho23 (below_size q37_1)) (blk_below (g := gb101) (o := .cells #[.string (⟨#[]⟩ : ByteArray), .slice none 0 0] 25 (0, 0)) q37_3 hb) (below_step q37_1 hb) ?_; clear BK101 HB; intro HO113 BK101 HB; clear hb ho23; obtain ⟨Ao24, co24, eo24⟩ := Kd.R_slice HO113.out; subst eo24; have hcz25_0 : w22.cell? ⟨gb101, 0, none⟩ = some (.string (⟨#[]⟩ : ByteArray)) := (blk_cell BK101.out 0).trans rfl; have hcz25_1 : w22.cell? ⟨gb101, 1, none⟩ = some (.slice none 0 0) := (blk_cell BK101.out 1).trans rfl; have hfz25_0 := blk_frozen BK101.out 0; have hfz25_1 := blk_frozen BK101.out 1))
  refine bodyPost_ret (results_cell_row rfl _ _ gb101 25 #[.string (⟨#[65]⟩ : ByteArray), .slice Ao24 y111.length co24] (0, 0) _ rfl q37_2 Tryd.underlying25 rfl (by kernel_rfl)) rfl ?_
  exact ⟨_, by first | rfl | (simp [errW_none, errW_some] <;> rfl) | (simp [*, errW_none, errW_some] <;> rfl), by (with_reducible repeat (first | apply Kd.R_alloc | apply Kd.R_drewN | apply Kd.R_drew)); exact Kd.R_mono (Kd.R_far (p := ⟨gb101, 1, none⟩) (Kd.R_far (p := ⟨gb101, 0, none⟩) (Kd.R_types HO113.out BK101.out (by decide)) (fun _ hk => hk.2) (.string (⟨#[65]⟩ : ByteArray))) (fun _ hk => hk.2) (.slice Ao24 y111.length co24)) (fun _ hk => trivial), by repeat (first | (with_reducible first | exact HB.out | apply below_alloc | apply pw_below_drewN | apply below_drew1 | refine below_set ?_ GE101.out) | exact HB.out)⟩
 rw [if_neg c20] at H
 have c20b0 : (a0 == 3) = false := beq_eq_false_iff_ne.mpr c20
 have c20b1 : (a0 != 3) = true := bne_iff_ne.mpr c20
 by_cases c26 : a0 = 4
 ·rw [if_pos c26] at H
  have c26b0 : (a0 == 4) = true := beq_iff_eq.mpr c26
  have c26b1 : (a0 != 4) = false := bne_eq_false_iff_eq.mpr c26
  clear c26
  obtain ⟨y114, hy114⟩ : ∃ y_ : List (S46), y_ = (([(⟨(⟨#[65]⟩ : ByteArray), (⟨#[97, 66]⟩ : ByteArray)⟩ : S46), (⟨(⟨#[65]⟩ : ByteArray), (⟨#[98, 65]⟩ : ByteArray)⟩ : S46), (⟨(⟨#[66]⟩ : ByteArray), (⟨#[65]⟩ : ByteArray)⟩ : S46), (⟨(⟨#[66]⟩ : ByteArray), (⟨#[99]⟩ : ByteArray)⟩ : S46), (⟨(⟨#[66]⟩ : ByteArray), (⟨#[66]⟩ : ByteArray)⟩ : S46)] : List (S46))) := ⟨_, rfl⟩
  replace H : (some ((⟨#[65]⟩ : ByteArray), y114)) = some (r1, r2) := by first | (rw [hy114]; with_reducible exact H) | (have H2_ := (Option.bind_some _ _).symm.trans H; rw [hy114]; with_reducible exact H2_) | (have H2_ := (Option.bind_some _ _).symm.trans H; with_reducible exact H2_) | with_reducible exact H | (rw [hy114]; exact H) | exact H
  have Ny114 := Aside0.mk hy114
  clear hy114
  simp only [Option.some.injEq, Prod.mk.injEq] at H
  obtain ⟨rfl, rfl⟩ := H
  go_enter Tryd.func137, Tryd.ntmps137
  go_wp2_with (first | ((with_reducible refine gate_dst (N := 2) rfl ?_); refine box_event ?hg (N := 2) ?hd (cs := #[.string (⟨#[]⟩ : ByteArray), .slice none 0 0]) (t := 25) ?hr ?_; (case hd => rfl); (case hg => rfl); (case hr => first | (go_simp; done) | (go_simp; rfl)); intro gb101 hg w27 hbox hb; refine rn4 (below_step q37_1 hb) (hbox) ((by rw [hg]; exact (below_size q37_1) : w.heap.size ≤ gb101)) ((by rw [hg]; exact (below_size q37_1) : w.heap.size ≤ gb101)) ?_; clear HB; intro HB BK101 GW101 GE101; clear hb hbox hg) | ((with_reducible refine gate_dst (N := 41) rfl ?_); refine Kd.R_lit k46 _ 46 ?hg (N := 41) ?hd (xs := ([(⟨(⟨#[65]⟩ : ByteArray), (⟨#[97, 66]⟩ : ByteArray)⟩ : S46), (⟨(⟨#[65]⟩ : ByteArray), (⟨#[98, 65]⟩ : ByteArray)⟩ : S46), (⟨(⟨#[66]⟩ : ByteArray), (⟨#[65]⟩ : ByteArray)⟩ : S46), (⟨(⟨#[66]⟩ : ByteArray), (⟨#[99]⟩ : ByteArray)⟩ : S46), (⟨(⟨#[66]⟩ : ByteArray), (⟨#[66]⟩ : ByteArray)⟩ : S46)] : List (S46))) (inner := [.string (⟨#[65]⟩ : ByteArray), .string (⟨#[97, 66]⟩ : ByteArray), .string (⟨#[65]⟩ : ByteArray), .string (⟨#[98, 65]⟩ : ByteArray), .string (⟨#[66]⟩ : ByteArray), .string (⟨#[65]⟩ : ByteArray), .string (⟨#[66]⟩ : ByteArray), .string (⟨#[99]⟩ : ByteArray), .string (⟨#[66]⟩ : ByteArray), .string (⟨#[66]⟩ : ByteArray)]) (ok := fun _ => True) (okp := fun _ => True) ?hr ?hp (fun _ hk => hk) trivial (Below.refl _ _) (Nat.le_refl _) (by simp) ?_; (case hd => rfl); (case hg => rfl); (case hr => first | (go_simp; done) | (go_simp; rfl)); (case hp => exact (Reps.c2 (show Kd.M k46 _ _ _ (⟨(⟨#[65]⟩ : ByteArray), (⟨#[97, 66]⟩ : ByteArray)⟩ : S46) [.string (⟨#[65]⟩ : ByteArray), .string (⟨#[97, 66]⟩ : ByteArray)] from (k46_mkM _ _ _ (⟨(⟨#[65]⟩ : ByteArray), (⟨#[97, 66]⟩ : ByteArray)⟩ : S46) )) (Reps.c2 (show Kd.M k46 _ _ _ (⟨(⟨#[65]⟩ : ByteArray), (⟨#[98, 65]⟩ : ByteArray)⟩ : S46) [.string (⟨#[65]⟩ : ByteArray), .string (⟨#[98, 65]⟩ : ByteArray)] from (k46_mkM _ _ _ (⟨(⟨#[65]⟩ : ByteArray), (⟨#[98, 65]⟩ : ByteArray)⟩ : S46) )) (Reps.c2 (show Kd.M k46 _ _ _ (⟨(⟨#[66]⟩ : ByteArray), (⟨#[65]⟩ : ByteArray)⟩ : S46) [.string (⟨#[66]⟩ : ByteArray), .string (⟨#[65]⟩ : ByteArray)] from (k46_mkM _ _ _ (⟨(⟨#[66]⟩ : ByteArray), (⟨#[65]⟩ : ByteArray)⟩ : S46) )) (Reps.c2 (show Kd.M k46 _ _ _ (⟨(⟨#[66]⟩ : ByteArray), (⟨#[99]⟩ : ByteArray)⟩ : S46) [.string (⟨#[66]⟩ : ByteArray), .string (⟨#[99]⟩ : ByteArray)] from (k46_mkM _ _ _ (⟨(⟨#[66]⟩ : ByteArray), (⟨#[99]⟩ : ByteArray)⟩ : S46) )) (Reps.c2 (show Kd.M k46 _ _ _ (⟨(⟨#[66]⟩ : ByteArray), (⟨#[66]⟩ : ByteArray)⟩ : S46) [.string (⟨#[66]⟩ : ByteArray), .string (⟨#[66]⟩ : ByteArray)] from (k46_mkM _ _ _ (⟨(⟨#[66]⟩ : ByteArray), (⟨#[66]⟩ : ByteArray)⟩ : S46) )) (Reps.none _ _))))))); intro v115 w28 ho29 hb hg_ hnew_; clear hg_ hnew_; (first | rw [← Ny114.out] at ho29 | (simp only [Int.reduceToNat] at ho29; rw [← Ny114.out] at ho29)); refine rn3 (Kd.R_lower ho29 (below_size q37_1)) (blk_below (g := gb101) (o := .cells #[.string (⟨#[]⟩ : ByteArray), .slice none 0 0] 25 (0, 0)) q37_3 hb) (below_step q37_1 hb) ?_; clear BK101 HB; intro HO116 BK101 HB; clear hb ho29; obtain ⟨Ao30, co30, eo30⟩ := Kd.R_slice HO116.out; subst eo30; have hcz31_0 : w28.cell? ⟨gb101, 0, none⟩ = some (.string (⟨#[]⟩ : ByteArray)) := (blk_cell BK101.out 0).trans rfl; have hcz31_1 : w28.cell? ⟨gb101, 1, none⟩ = some (.slice none 0 0) := (blk_cell BK101.out 1).trans rfl; have hfz31_0 := blk_frozen BK101.out 0; have hfz31_1 := blk_frozen BK101.out 1))
  refine bodyPost_ret (results_cell_row rfl _ _ gb101 25 #[.string (⟨#[65]⟩ : ByteArray), .slice Ao30 y114.length co30] (0, 0) _ rfl q37_2 Tryd.underlying25 rfl (by kernel_rfl)) rfl ?_
  exact ⟨_, by first | rfl | (simp [errW_none, errW_some] <;> rfl) | (simp [*, errW_none, errW_some] <;> rfl), by (with_reducible repeat (first | apply Kd.R_alloc | apply Kd.R_drewN | apply Kd.R_drew)); exact Kd.R_mono (Kd.R_far (p := ⟨gb101, 1, none⟩) (Kd.R_far (p := ⟨gb101, 0, none⟩) (Kd.R_types HO116.out BK101.out (by decide)) (fun _ hk => hk.2) (.string (⟨#[65]⟩ : ByteArray))) (fun _ hk => hk.2) (.slice Ao30 y114.length co30)) (fun _ hk => trivial), by repeat (first | (with_reducible first | exact HB.out | apply below_alloc | apply pw_below_drewN | apply below_drew1 | refine below_set ?_ GE101.out) | exact HB.out)⟩
 rw [if_neg c26] at H
 have c26b0 : (a0 == 4) = false := beq_eq_false_iff_ne.mpr c26
 have c26b1 : (a0 != 4) = true := bne_iff_ne.mpr c26
 by_cases c32 : a0 = 5
 ·rw [if_pos c32] at H
  have c32b0 : (a0 == 5) = true := beq_iff_eq.mpr c32
  have c32b1 : (a0 != 5) = false := bne_eq_false_iff_eq.mpr c32
  clear c32
  obtain ⟨y117, hy117⟩ : ∃ y_ : List (S46), y_ = (([(⟨(⟨#[65]⟩ : ByteArray), (⟨#[97, 65]⟩ : ByteArray)⟩ : S46), (⟨(⟨#[65]⟩ : ByteArray), (⟨#[97, 65, 98, 65]⟩ : ByteArray)⟩ : S46), (⟨(⟨#[65]⟩ : ByteArray), (⟨#[99]⟩ : ByteArray)⟩ : S46)] : List (S46))) := ⟨_, rfl⟩
  replace H : (some ((⟨#[65]⟩ : ByteArray), y117)) = some (r1, r2) := by first | (rw [hy117]; with_reducible exact H) | (have H2_ := (Option.bind_some _ _).symm.trans H; rw [hy117]; with_reducible exact H2_) | (have H2_ := (Option.bind_some _ _).symm.trans H; with_reducible exact H2_) | with_reducible exact H | (rw [hy117]; exact H) | exact H
  have Ny117 := Aside0.mk hy117
  clear hy117
  simp only [Option.some.injEq, Prod.mk.injEq] at H
  obtain ⟨rfl, rfl⟩ := H
  go_enter Tryd.func137, Tryd.ntmps137
  go_wp2_with (first | ((with_reducible refine gate_dst (N := 2) rfl ?_); refine box_event ?hg (N := 2) ?hd (cs := #[.string (⟨#[]⟩ : ByteArray), .slice none 0 0]) (t := 25) ?hr ?_; (case hd => rfl); (case hg => rfl); (case hr => first | (go_simp; done) | (go_simp; rfl)); intro gb101 hg w33 hbox hb; refine rn4 (below_step q37_1 hb) (hbox) ((by rw [hg]; exact (below_size q37_1) : w.heap.size ≤ gb101)) ((by rw [hg]; exact (below_size q37_1) : w.heap.size ≤ gb101)) ?_; clear HB; intro HB BK101 GW101 GE101; clear hb hbox hg) | ((with_reducible refine gate_dst (N := 48) rfl ?_); refine Kd.R_lit k46 _ 46 ?hg (N := 48) ?hd (xs := ([(⟨(⟨#[65]⟩ : ByteArray), (⟨#[97, 65]⟩ : ByteArray)⟩ : S46), (⟨(⟨#[65]⟩ : ByteArray), (⟨#[97, 65, 98, 65]⟩ : ByteArray)⟩ : S46), (⟨(⟨#[65]⟩ : ByteArray), (⟨#[99]⟩ : ByteArray)⟩ : S46)] : List (S46))) (inner := [.string (⟨#[65]⟩ : ByteArray), .string (⟨#[97, 65]⟩ : ByteArray), .string (⟨#[65]⟩ : ByteArray), .string (⟨#[97, 65, 98, 65]⟩ : ByteArray), .string (⟨#[65]⟩ : ByteArray), .string (⟨#[99]⟩ : ByteArray)]) (ok := fun _ => True) (okp := fun _ => True) ?hr ?hp (fun _ hk => hk) trivial (Below.refl _ _) (Nat.le_refl _) (by simp) ?_; (case hd => rfl); (case hg => rfl); (case hr => first | (go_simp; done) | (go_simp; rfl)); (case hp => exact (Reps.c2 (show Kd.M k46 _ _ _ (⟨(⟨#[65]⟩ : ByteArray), (⟨#[97, 65]⟩ : ByteArray)⟩ : S46) [.string (⟨#[65]⟩ : ByteArray), .string (⟨#[97, 65]⟩ : ByteArray)] from (k46_mkM _ _ _ (⟨(⟨#[65]⟩ : ByteArray), (⟨#[97, 65]⟩ : ByteArray)⟩ : S46) )) (Reps.c2 (show Kd.M k46 _ _ _ (⟨(⟨#[65]⟩ : ByteArray), (⟨#[97, 65, 98, 65]⟩ : ByteArray)⟩ : S46) [.string (⟨#[65]⟩ : ByteArray), .string (⟨#[97, 65, 98, 65]⟩ : ByteArray)] from (k46_mkM _ _ _ (⟨(⟨#[65]⟩ : ByteArray), (⟨#[97, 65, 98, 65]⟩ : ByteArray)⟩ : S46) )) (Reps.c2 (show Kd.M k46 _ _ _ (⟨(⟨#[65]⟩ : ByteArray), (⟨#[99]⟩ : ByteArray)⟩ : S46) [.string (⟨#[65]⟩ : ByteArray), .string (⟨#[99]⟩ : ByteArray)] from (k46_mkM _ _ _ (⟨(⟨#[65]⟩ : ByteArray), (⟨#[99]⟩ : ByteArray)⟩ : S46) )) (Reps.none _ _))))); intro v118 w34 ho35 hb hg_ hnew_; clear hg_ hnew_; (first | rw [← Ny117.out] at ho35 | (simp only [Int.reduceToNat] at ho35; rw [← Ny117.out] at ho35)); refine rn3 (Kd.R_lower ho35 (below_size q37_1)) (blk_below (g := gb101) (o := .cells #[.string (⟨#[]⟩ : ByteArray), .slice none 0 0] 25 (0, 0)) q37_3 hb) (below_step q37_1 hb) ?_; clear BK101 HB; intro HO119 BK101 HB; clear hb ho35; obtain ⟨Ao36, co36, eo36⟩ := Kd.R_slice HO119.out; subst eo36; have hcz37_0 : w34.cell? ⟨gb101, 0, none⟩ = some (.string (⟨#[]⟩ : ByteArray)) := (blk_cell BK101.out 0).trans rfl; have hcz37_1 : w34.cell? ⟨gb101, 1, none⟩ = some (.slice none 0 0) := (blk_cell BK101.out 1).trans rfl; have hfz37_0 := blk_frozen BK101.out 0; have hfz37_1 := blk_frozen BK101.out 1))
  refine bodyPost_ret (results_cell_row rfl _ _ gb101 25 #[.string (⟨#[65]⟩ : ByteArray), .slice Ao36 y117.length co36] (0, 0) _ rfl q37_2 Tryd.underlying25 rfl (by kernel_rfl)) rfl ?_
  exact ⟨_, by first | rfl | (simp [errW_none, errW_some] <;> rfl) | (simp [*, errW_none, errW_some] <;> rfl), by (with_reducible repeat (first | apply Kd.R_alloc | apply Kd.R_drewN | apply Kd.R_drew)); exact Kd.R_mono (Kd.R_far (p := ⟨gb101, 1, none⟩) (Kd.R_far (p := ⟨gb101, 0, none⟩) (Kd.R_types HO119.out BK101.out (by decide)) (fun _ hk => hk.2) (.string (⟨#[65]⟩ : ByteArray))) (fun _ hk => hk.2) (.slice Ao36 y117.length co36)) (fun _ hk => trivial), by repeat (first | (with_reducible first | exact HB.out | apply below_alloc | apply pw_below_drewN | apply below_drew1 | refine below_set ?_ GE101.out) | exact HB.out)⟩
 rw [if_neg c32] at H
 have c32b0 : (a0 == 5) = false := beq_eq_false_iff_ne.mpr c32
 have c32b1 : (a0 != 5) = true := bne_iff_ne.mpr c32
 by_cases c38 : a0 = 6
 ·rw [if_pos c38] at H
  have c38b0 : (a0 == 6) = true := beq_iff_eq.mpr c38
  have c38b1 : (a0 != 6) = false := bne_eq_false_iff_eq.mpr c38
  clear c38
  obtain ⟨y120, hy120⟩ : ∃ y_ : List (S46), y_ = (([(⟨(⟨#[65]⟩ : ByteArray), (⟨#[66, 66]⟩ : ByteArray)⟩ : S46), (⟨(⟨#[66]⟩ : ByteArray), (⟨#[97, 66]⟩ : ByteArray)⟩ : S46), (⟨(⟨#[66]⟩ : ByteArray), (⟨#[98]⟩ : ByteArray)⟩ : S46)] : List (S46))) := ⟨_, rfl⟩
  replace H : (some ((⟨#[65]⟩ : ByteArray), y120)) = some (r1, r2) := by first | (rw [hy120]; with_reducible exact H) | (have H2_ := (Option.bind_some _ _).symm.trans H; rw [hy120]; with_reducible exact H2_) | (have H2_ := (Option.bind_some _ _).symm.trans H; with_reducible exact H2_) | with_reducible exact H | (rw [hy120]; exact H) | exact H
  have Ny120 := Aside0.mk hy120
  clear hy120
  simp only [Option.some.injEq, Prod.mk.injEq] at H
  obtain ⟨rfl, rfl⟩ := H
  go_enter Tryd.func137, Tryd.ntmps137
  go_wp2_with (first | ((with_reducible refine gate_dst (N := 2) rfl ?_); refine box_event ?hg (N := 2) ?hd (cs := #[.string (⟨#[]⟩ : ByteArray), .slice none 0 0]) (t := 25) ?hr ?_; (case hd => rfl); (case hg => rfl); (case hr => first | (go_simp; done) | (go_simp; rfl)); intro gb101 hg w39 hbox hb; refine rn4 (below_step q37_1 hb) (hbox) ((by rw [hg]; exact (below_size q37_1) : w.heap.size ≤ gb101)) ((by rw [hg]; exact (below_size q37_1) : w.heap.size ≤ gb101)) ?_; clear HB; intro HB BK101 GW101 GE101; clear hb hbox hg) | ((with_reducible refine gate_dst (N := 55) rfl ?_); refine Kd.R_lit k46 _ 46 ?hg (N := 55) ?hd (xs := ([(⟨(⟨#[65]⟩ : ByteArray), (⟨#[66, 66]⟩ : ByteArray)⟩ : S46), (⟨(⟨#[66]⟩ : ByteArray), (⟨#[97, 66]⟩ : ByteArray)⟩ : S46), (⟨(⟨#[66]⟩ : ByteArray), (⟨#[98]⟩ : ByteArray)⟩ : S46)] : List (S46))) (inner := [.string (⟨#[65]⟩ : ByteArray), .string (⟨#[66, 66]⟩ : ByteArray), .string (⟨#[66]⟩ : ByteArray), .string (⟨#[97, 66]⟩ : ByteArray), .string (⟨#[66]⟩ : ByteArray), .string (⟨#[98]⟩ : ByteArray)]) (ok := fun _ => True) (okp := fun _ => True) ?hr ?hp (fun _ hk => hk) trivial (Below.refl _ _) (Nat.le_refl _) (by simp) ?_; (case hd => rfl); (case hg => rfl); (case hr => first | (go_simp; done) | (go_simp; rfl)); (case hp => exact (Reps.c2 (show Kd.M k46 _ _ _ (⟨(⟨#[65]⟩ : ByteArray), (⟨#[66, 66]⟩ : ByteArray)⟩ : S46) [.string (⟨#[65]⟩ : ByteArray), .string (⟨#[66, 66]⟩ : ByteArray)] from (k46_mkM _ _ _ (⟨(⟨#[65]⟩ : ByteArray), (⟨#[66, 66]⟩ : ByteArray)⟩ : S46) )) (Reps.c2 (show Kd.M k46 _ _ _ (⟨(⟨#[66]⟩ : ByteArray), (⟨#[97, 66]⟩ : ByteArray)⟩ : S46) [.string (⟨#[66]⟩ : ByteArray), .string (⟨#[97, 66]⟩ : ByteArray)] from (k46_mkM _ _ _ (⟨(⟨#[66]⟩ : ByteArray), (⟨#[97, 66]⟩ : ByteArray)⟩ : S46) )) (Reps.c2 (show Kd.M k46 _ _ _ (⟨(⟨#[66]⟩ : ByteArray), (⟨#[98]⟩ : ByteArray)⟩ : S46) [.string (⟨#[66]⟩ : ByteArray), .string (⟨#[98]⟩ : ByteArray)] from (k46_mkM _ _ _ (⟨(⟨#[66]⟩ : ByteArray), (⟨#[98]⟩ : ByteArray)⟩ : S46) )) (Reps.none _ _))))); intro v121 w40 ho41 hb hg_ hnew_; clear hg_ hnew_; (first | rw [← Ny120.out] at ho41 | (simp only [Int.reduceToNat] at ho41; rw [← Ny120.out] at ho41)); refine rn3 (Kd.R_lower ho41 (below_size q37_1)) (blk_below (g := gb101) (o := .cells #[.string (⟨#[]⟩ : ByteArray), .slice none 0 0] 25 (0, 0)) q37_3 hb) (below_step q37_1 hb) ?_; clear BK101 HB; intro HO122 BK101 HB; clear hb ho41; obtain ⟨Ao42, co42, eo42⟩ := Kd.R_slice HO122.out; subst eo42; have hcz43_0 : w40.cell? ⟨gb101, 0, none⟩ = some (.string (⟨#[]⟩ : ByteArray)) := (blk_cell BK101.out 0).trans rfl; have hcz43_1 : w40.cell? ⟨gb101, 1, none⟩ = some (.slice none 0 0) := (blk_cell BK101.out 1).trans rfl; have hfz43_0 := blk_frozen BK101.out 0; have hfz43_1 := blk_frozen BK101.out 1))
  refine bodyPost_ret (results_cell_row rfl _ _ gb101 25 #[.string (⟨#[65]⟩ : ByteArray), .slice Ao42 y120.length co42] (0, 0) _ rfl q37_2 Tryd.underlying25 rfl (by kernel_rfl)) rfl ?_
  exact ⟨_, by first | rfl | (simp [errW_none, errW_some] <;> rfl) | (simp [*, errW_none, errW_some] <;> rfl), by (with_reducible repeat (first | apply Kd.R_alloc | apply Kd.R_drewN | apply Kd.R_drew)); exact Kd.R_mono (Kd.R_far (p := ⟨gb101, 1, none⟩) (Kd.R_far (p := ⟨gb101, 0, none⟩) (Kd.R_types HO122.out BK101.out (by decide)) (fun _ hk => hk.2) (.string (⟨#[65]⟩ : ByteArray))) (fun _ hk => hk.2) (.slice Ao42 y120.length co42)) (fun _ hk => trivial), by repeat (first | (with_reducible first | exact HB.out | apply below_alloc | apply pw_below_drewN | apply below_drew1 | refine below_set ?_ GE101.out) | exact HB.out)⟩
 rw [if_neg c38] at H
 have c38b0 : (a0 == 6) = false := beq_eq_false_iff_ne.mpr c38
 have c38b1 : (a0 != 6) = true := bne_iff_ne.mpr c38
 obtain ⟨y123, hy123⟩ : ∃ y_ : List (S46), y_ = (([] : List (S46))) := ⟨_, rfl⟩
 replace H : (some ((⟨#[65]⟩ : ByteArray), y123)) = some (r1, r2) := by first | (rw [hy123]; with_reducible exact H) | (have H2_ := (Option.bind_some _ _).symm.trans H; rw [hy123]; with_reducible exact H2_) | (have H2_ := (Option.bind_some _ _).symm.trans H; with_reducible exact H2_) | with_reducible exact H | (rw [hy123]; exact H) | exact H
 have Ny123 := Aside0.mk hy123
 clear hy123
 simp only [Option.some.injEq, Prod.mk.injEq] at H
 obtain ⟨rfl, rfl⟩ := H
 go_enter Tryd.func137, Tryd.ntmps137
 go_wp2_with (first | ((with_reducible refine gate_dst (N := 2) rfl ?_); refine box_event ?hg (N := 2) ?hd (cs := #[.string (⟨#[]⟩ : ByteArray), .slice none 0 0]) (t := 25) ?hr ?_; (case hd => rfl); (case hg => rfl); (case hr => first | (go_simp; done) | (go_simp; rfl)); intro gb101 hg w44 hbox hb; refine rn4 (below_step q37_1 hb) (hbox) ((by rw [hg]; exact (below_size q37_1) : w.heap.size ≤ gb101)) ((by rw [hg]; exact (below_size q37_1) : w.heap.size ≤ gb101)) ?_; clear HB; intro HB BK101 GW101 GE101; clear hb hbox hg) | ((with_reducible refine gate_dst (N := 57) rfl ?_); refine Kd.R_lit k46 _ 46 ?hg (N := 57) ?hd (xs := ([] : List (S46))) (inner := []) (ok := fun _ => True) (okp := fun _ => True) ?hr ?hp (fun _ hk => hk) trivial (Below.refl _ _) (Nat.le_refl _) (by simp) ?_; (case hd => rfl); (case hg => rfl); (case hr => first | (go_simp; done) | (go_simp; rfl)); (case hp => exact (Reps.none _ _)); intro v124 w45 ho46 hb hg_ hnew_; clear hg_ hnew_; (first | rw [← Ny123.out] at ho46 | (simp only [Int.reduceToNat] at ho46; rw [← Ny123.out] at ho46)); refine rn3 (Kd.R_lower ho46 (below_size q37_1)) (blk_below (g := gb101) (o := .cells #[.string (⟨#[]⟩ : ByteArray), .slice none 0 0] 25 (0, 0)) q37_3 hb) (below_step q37_1 hb) ?_; clear BK101 HB; intro HO125 BK101 HB; clear hb ho46; obtain ⟨Ao47, co47, eo47⟩ := Kd.R_slice HO125.out; subst eo47; have hcz48_0 : w45.cell? ⟨gb101, 0, none⟩ = some (.string (⟨#[]⟩ : ByteArray)) := (blk_cell BK101.out 0).trans rfl; have hcz48_1 : w45.cell? ⟨gb101, 1, none⟩ = some (.slice none 0 0) := (blk_cell BK101.out 1).trans rfl; have hfz48_0 := blk_frozen BK101.out 0; have hfz48_1 := blk_frozen BK101.out 1))
 refine bodyPost_ret (results_cell_row rfl _ _ gb101 25 #[.string (⟨#[65]⟩ : ByteArray), .slice Ao47 y123.length co47] (0, 0) _ rfl q37_2 Tryd.underlying25 rfl (by kernel_rfl)) rfl ?_
 exact ⟨_, by first | rfl | (simp [errW_none, errW_some] <;> rfl) | (simp [*, errW_none, errW_some] <;> rfl), by (with_reducible repeat (first | apply Kd.R_alloc | apply Kd.R_drewN | apply Kd.R_drew)); exact Kd.R_mono (Kd.R_far (p := ⟨gb101, 1, none⟩) (Kd.R_far (p := ⟨gb101, 0, none⟩) (Kd.R_types HO125.out BK101.out (by decide)) (fun _ hk => hk.2) (.string (⟨#[65]⟩ : ByteArray))) (fun _ hk => hk.2) (.slice Ao47 y123.length co47)) (fun _ hk => trivial), by repeat (first | (with_reducible first | exact HB.out | apply below_alloc | apply pw_below_drewN | apply below_drew1 | refine below_set ?_ GE101.out) | exact HB.out)⟩
theorem q38_1 {p : Prop} (h : p := by repeat (first | (with_reducible first | exact HI0.out | apply IsS132.alloc | apply IsS132.drewN | apply IsS132.drew | apply IsS132.set_1 | refine IsS132.far ?_ NB0_101.out _ | refine IsS132.far ?_ NB0_116.out _ | refine IsS132.far ?_ NB0_134.out _) | exact HI0.out)) : p := h
theorem q38_2 {p : Prop} (h : p := by repeat (first | (with_reducible first | exact HK.out | apply KeepBut.set_ | apply keep_drewN | apply keep_drew | apply keep_alloc | refine keep_far ?_ GW101.out _ | refine keep_far ?_ GW116.out _ | refine keep_far ?_ GW134.out _) | exact HK.out)) : p := h
theorem q38_3 {p : Prop} (h : p := by repeat (first | (with_reducible first | exact HB.out | apply below_alloc | apply pw_below_drewN | apply below_drew1 | refine below_set ?_ (IsS132.ge HI0.out) | refine below_set ?_ GE101.out | refine below_set ?_ GE116.out | refine below_set ?_ GE134.out) | exact HB.out)) : p := h
theorem q38_4 {p : Prop} (h : p := by (with_reducible repeat (first | refine blk_drewN ?_ _ | refine blk_drew ?_ | refine blk_alloc ?_ _)); exact BK101.out) : p := h
theorem q38_5 {p : Prop} (h : p := by (with_reducible repeat (first | refine blk_drewN ?_ _ | refine blk_drew ?_ | refine blk_alloc ?_ _)); exact BK116.out) : p := h
theorem q38_6 {p : Prop} (h : p := by (try simp only [List.map_toArray, List.map_cons, List.map_nil]); first | done | rfl | (simp only [List.length_drop, List.length_take]; rfl)) : p := h
theorem q38_7 {p : Prop} (h : p := by (with_reducible repeat (first | apply Kd.R_alloc | apply Kd.R_drewN | apply Kd.R_drew)); exact HO_117001.out) : p := h
theorem q38_8 {p : Prop} (h : p := by (with_reducible repeat (first | apply Kd.R_alloc | apply Kd.R_drewN | apply Kd.R_drew)); exact (Kd.R_mono (Kd.R_far (p := ⟨gb134, 1, none⟩) (Kd.R_far (p := ⟨gb134, 0, none⟩) (Kd.R_mono HO_117001.out (fun k_ hk => (⟨hk, hk.2⟩ : _ ∧ k_ ≠ gb134))) (fun _ hk => hk.2) (.string t125)) (fun _ hk => hk.2) (.string t132)) (fun _ h_ => h_.1))) : p := h
theorem q38_9 {p : Prop} (h : p := by (with_reducible repeat (first | apply Kd.R_alloc | apply Kd.R_drewN | apply Kd.R_drew)); exact HO124.out) : p := h
theorem q38_10 {p : Prop} (h : p := by (with_reducible repeat (first | apply Kd.R_alloc | apply Kd.R_drewN | apply Kd.R_drew)); exact HO129.out) : p := h
theorem q38_11 {p : Prop} (h : p := by (with_reducible repeat (first | refine blk_drewN ?_ _ | refine blk_drew ?_ | refine blk_alloc ?_ _)); refine blk_put (cs := #[.string t125, .string (⟨#[]⟩ : ByteArray)]) ?_ 1 _ rfl; (with_reducible repeat (first | refine blk_drewN ?_ _ | refine blk_drew ?_ | refine blk_alloc ?_ _)); refine blk_put (cs := #[.string (⟨#[]⟩ : ByteArray), .string (⟨#[]⟩ : ByteArray)]) ?_ 0 _ rfl; (with_reducible repeat (first | refine blk_drewN ?_ _ | refine blk_drew ?_ | refine blk_alloc ?_ _)); exact BK134.out) : p := h
theorem q38_12 {p : Prop} (h : p := by (with_reducible repeat (first | refine blk_drewN ?_ _ | refine blk_drew ?_ | refine blk_alloc ?_ _)); refine blk_far ?_ NB101_134.out _; (with_reducible repeat (first | refine blk_drewN ?_ _ | refine blk_drew ?_ | refine blk_alloc ?_ _)); refine blk_far ?_ NB101_134.out _; (with_reducible repeat (first | refine blk_drewN ?_ _ | refine blk_drew ?_ | refine blk_alloc ?_ _)); exact BK101.out) : p := h
theorem q38_13 {p : Prop} (h : p := by (with_reducible repeat (first | refine blk_drewN ?_ _ | refine blk_drew ?_ | refine blk_alloc ?_ _)); refine blk_far ?_ NB116_134.out _; (with_reducible repeat (first | refine blk_drewN ?_ _ | refine blk_drew ?_ | refine blk_alloc ?_ _)); refine blk_far ?_ NB116_134.out _; (with_reducible repeat (first | refine blk_drewN ?_ _ | refine blk_drew ?_ | refine blk_alloc ?_ _)); exact BK116.out) : p := h
theorem q38_14 {p : Prop} (h : p := by (with_reducible repeat (first | apply Kd.R_alloc | apply Kd.R_drewN | apply Kd.R_drew)); exact (Kd.R_mono (Kd.R_far (p := ⟨gb134, 1, none⟩) (Kd.R_far (p := ⟨gb134, 0, none⟩) (Kd.R_types HO124.out BK134.out (by decide)) (fun _ hk => hk.2) (.string t125)) (fun _ hk => hk.2) (.string t132)) (fun _ h_ => h_.1))) : p := h
theorem q38_15 {p : Prop} (h : p := by (with_reducible repeat (first | apply Kd.R_alloc | apply Kd.R_drewN | apply Kd.R_drew)); exact (Kd.R_mono (Kd.R_far (p := ⟨gb134, 1, none⟩) (Kd.R_far (p := ⟨gb134, 0, none⟩) (Kd.R_types HO129.out BK134.out (by decide)) (fun _ hk => hk.2) (.string t125)) (fun _ hk => hk.2) (.string t132)) (fun _ h_ => h_.1))) : p := h
theorem q38_16 {p : Prop} (h : p := by repeat (first | exact (Kd.R_reads' HO124.out).2.2 | (with_reducible refine Kd.C_alloc ?_ _) | (with_reducible refine Kd.C_drewN ?_ _) | (with_reducible refine Kd.C_drew ?_))) : p := h
theorem q38_17 {p : Prop} (h : p := by repeat (first | exact (Kd.R_reads' HO129.out).2.2 | (with_reducible refine Kd.C_alloc ?_ _) | (with_reducible refine Kd.C_drewN ?_ _) | (with_reducible refine Kd.C_drew ?_))) : p := h
theorem q38_18 {p : Prop} (h : p := by (with_reducible repeat (first | refine blk_drewN ?_ _ | refine blk_drew ?_ | refine blk_alloc ?_ _)); exact BK134.out) : p := h
theorem q38_19 {p : Prop} (h : p := by (with_reducible repeat (first | apply Kd.R_alloc | apply Kd.R_drewN | apply Kd.R_drew)); exact HO106.out) : p := h
theorem q38_20 {p : Prop} (h : p := by (with_reducible repeat (first | apply Kd.R_alloc | apply Kd.R_drewN | apply Kd.R_drew)); exact HO115.out) : p := h
theorem q38_21 {p : Prop} (h : p := by first | rfl | (simp; done) | (simp [*]; done)) : p := h
/-! ### spec_l1Gram: function 100 -/
def spec_l1Gram.l0 : Nat → Int → List Int → Int → ByteArray → List (S46) → Option (ByteArray × (List (S46)) × Int)
 | 0, _, _, _, _, _ => none
 | k + 1, x4, x1000, x1001, x117000, x117001 => if x4 > 0 then ((spec_l17Rd_of.f k x1000 x1001 (([(⟨#[65]⟩ : ByteArray), (⟨#[65]⟩ : ByteArray), (⟨#[66]⟩ : ByteArray), (⟨#[67]⟩ : ByteArray)] : List ByteArray))).bind fun bt125 => ((spec_l17Rd_num.f k x1000 bt125.2 (([1, 2, 2, 0, 3] : List Int))).bind fun bt130 => ((spec_l1Signed.f k x1000 bt130.2 bt130.1).bind fun bt132 => ((spec_l1Place.f k x117001 bt125.1 bt132.1).bind fun t135 => (if t135 < 0 then (if x117001.length < 4398046511104 then (spec_l1Gram.l0 k (wrap64 (x4 - 1)) x1000 bt132.2 x117000 (x117001 ++ [(⟨bt125.1, bt132.1⟩ : S46)])) else (none)) else (spec_l1Gram.l0 k (wrap64 (x4 - 1)) x1000 bt132.2 x117000 x117001)))))) else (some (x117000, x117001, x1001))
def spec_l1Gram.f (k : Nat) (s0_0 : List Int) (s0_1 : Int) : Option (ByteArray × (List (S46)) × Int) := (spec_l17Rd_pick.f k s0_0 s0_1 5).bind fun bt102 => (if bt102.1 > 0 then ((spec_l17Rd_num.f k s0_0 bt102.2 (([0, 1, 2, 3, 4, 5, 6, 1, 6, 7] : List Int))).bind fun bt107 => ((spec_l1Base.f bt107.1).bind fun bt109 => (some (bt109.1, bt109.2, bt107.2)))) else ((spec_l17Rd_num.f k s0_0 bt102.2 (([3, 4, 2, 5] : List Int))).bind fun bt120 => (spec_l1Gram.l0 k bt120.1 s0_0 bt120.2 (⟨#[65]⟩ : ByteArray) (([] : List (S46))))))
theorem spec_l1Gram.mono_l : ∀ k, (∀ y0 y1 y2 y3 y4, LeO (spec_l1Gram.l0 k y0 y1 y2 y3 y4) (spec_l1Gram.l0 (k + 1) y0 y1 y2 y3 y4))
 | 0 => fun _ _ _ _ _ r h => by simp [spec_l1Gram.l0] at h
 | k + 1 => by
  have ih0 := spec_l1Gram.mono_l k
  intro y0 y1 y2 y3 y4
  unfold spec_l1Gram.l0
  repeat' first
  | (with_reducible exact ih0 _ _ _ _ _)
  | (with_reducible exact spec_l17Rd_num.mono _ _ _ _)
  | (with_reducible exact spec_l17Rd_of.mono _ _ _ _)
  | (with_reducible exact spec_l17Rd_pick.mono _ _ _ _)
  | (with_reducible exact spec_l1Place.mono _ _ _ _)
  | (with_reducible exact spec_l1Signed.mono _ _ _ _)
  | (with_reducible exact LeO.refl _)
  | (with_reducible exact LeO.none _)
  | (with_reducible refine LeO.ite ?_ ?_)
  | (with_reducible refine LeO.bind ?_ (fun _ => ?_))
  | exact ih0 _ _ _ _ _
  | exact spec_l17Rd_num.mono _ _ _ _
  | exact spec_l17Rd_of.mono _ _ _ _
  | exact spec_l17Rd_pick.mono _ _ _ _
  | exact spec_l1Place.mono _ _ _ _
  | exact spec_l1Signed.mono _ _ _ _
  | exact LeO.none _
  | refine LeO.ite ?_ ?_
  | refine LeO.bind ?_ (fun _ => ?_)
theorem spec_l1Gram.mono : ∀ a0 a1 k, LeO (spec_l1Gram.f k a0 a1) (spec_l1Gram.f (k + 1) a0 a1) := by
 intro a0 a1 k
 have ih0 := spec_l1Gram.mono_l k
 unfold spec_l1Gram.f
 repeat' first
   | (with_reducible exact ih0 _ _ _ _ _)
   | (with_reducible exact spec_l17Rd_num.mono _ _ _ _)
   | (with_reducible exact spec_l17Rd_of.mono _ _ _ _)
   | (with_reducible exact spec_l17Rd_pick.mono _ _ _ _)
   | (with_reducible exact spec_l1Place.mono _ _ _ _)
   | (with_reducible exact spec_l1Signed.mono _ _ _ _)
   | (with_reducible exact LeO.refl _)
   | (with_reducible exact LeO.none _)
   | (with_reducible refine LeO.ite ?_ ?_)
   | (with_reducible refine LeO.bind ?_ (fun _ => ?_))
   | exact ih0 _ _ _ _ _
   | exact spec_l17Rd_num.mono _ _ _ _
   | exact spec_l17Rd_of.mono _ _ _ _
   | exact spec_l17Rd_pick.mono _ _ _ _
   | exact spec_l1Place.mono _ _ _ _
   | exact spec_l1Signed.mono _ _ _ _
   | exact LeO.none _
   | refine LeO.ite ?_ ?_
   | refine LeO.bind ?_ (fun _ => ?_)
set_option maxHeartbeats 8000000 in
set_option maxRecDepth 100000 in
theorem spec_l1Gram.calls (k : Nat) (g : Nat) (s0_0 : List Int) (s0_1 : Int) (r1 : ByteArray) (r2 : List (S46)) (r3 : Int) (w0 w : World) (hI : IsS132 w0 w g s0_0 s0_1) (hB : Below w0.heap.size w0 w) (h : spec_l1Gram.f k s0_0 s0_1 = some (r1, r2, r3)) :
  Calls Tryd.prog 100 #[.pointer (some ⟨g, 0, none⟩)] w fun e w' => ∃ v1_ : Value, e = .returned (.agg #[.string r1, v1_]) ∧ Kd.R k46 46 w' w.heap.size (fun _ => True) v1_ r2 ∧ IsS132 w0 w' g s0_0 r3 ∧ Below w0.heap.size w0 w' ∧ KeepBut w w' g none := by
 have hu25 := Tryd.underlying25
 have hu46 := Tryd.underlying46
 have HI0 := Aside0.mk hI
 have HK := Aside0.mk (KeepBut.refl w g none)
 have HL := Aside0.mk hB.size
 clear hI
 have HW0 := Aside0.mk hB.size
 have HB := Aside0.mk hB
 clear hB
 have H : ((spec_l17Rd_pick.f k s0_0 s0_1 5).bind fun bt102 => (if bt102.1 > 0 then ((spec_l17Rd_num.f k s0_0 bt102.2 (([0, 1, 2, 3, 4, 5, 6, 1, 6, 7] : List Int))).bind fun bt107 => ((spec_l1Base.f bt107.1).bind fun bt109 => (some (bt109.1, bt109.2, bt107.2)))) else ((spec_l17Rd_num.f k s0_0 bt102.2 (([3, 4, 2, 5] : List Int))).bind fun bt120 => (spec_l1Gram.l0 k bt120.1 s0_0 bt120.2 (⟨#[65]⟩ : ByteArray) (([] : List (S46))))))) = some (r1, r2, r3) := h
 clear h
 replace H := Option.bind_eq_some_iff.mp H
 obtain ⟨⟨t102, t103⟩, A20, H⟩ := H
 replace H : (if t102 > 0 then ((spec_l17Rd_num.f k s0_0 t103 (([0, 1, 2, 3, 4, 5, 6, 1, 6, 7] : List Int))).bind fun bt107 => ((spec_l1Base.f bt107.1).bind fun bt109 => (some (bt109.1, bt109.2, bt107.2)))) else ((spec_l17Rd_num.f k s0_0 t103 (([3, 4, 2, 5] : List Int))).bind fun bt120 => (spec_l1Gram.l0 k bt120.1 s0_0 bt120.2 (⟨#[65]⟩ : ByteArray) (([] : List (S46)))))) = some (r1, r2, r3) := H
 have A2 := Aside0.mk A20
 clear A20
 by_cases c3 : t102 > 0
 ·rw [if_pos c3] at H
  have c3b0 : decide (0 < t102) = true := decide_eq_true c3
  clear c3
  obtain ⟨y104, hy104⟩ : ∃ y_ : List Int, y_ = (([0, 1, 2, 3, 4, 5, 6, 1, 6, 7] : List Int)) := ⟨_, rfl⟩
  replace H : ((spec_l17Rd_num.f k s0_0 t103 y104).bind fun bt107 => ((spec_l1Base.f bt107.1).bind fun bt109 => (some (bt109.1, bt109.2, bt107.2)))) = some (r1, r2, r3) := by first | (rw [hy104]; with_reducible exact H) | (have H2_ := (Option.bind_some _ _).symm.trans H; rw [hy104]; with_reducible exact H2_) | (have H2_ := (Option.bind_some _ _).symm.trans H; with_reducible exact H2_) | with_reducible exact H | (rw [hy104]; exact H) | exact H
  have Ny104 := Aside0.mk hy104
  clear hy104
  replace H := Option.bind_eq_some_iff.mp H
  obtain ⟨⟨t107, t108⟩, A40, H⟩ := H
  replace H : ((spec_l1Base.f t107).bind fun bt109 => (some (bt109.1, bt109.2, t108))) = some (r1, r2, r3) := H
  have A4 := Aside0.mk A40
  clear A40
  replace H := Option.bind_eq_some_iff.mp H
  obtain ⟨⟨t109, t110⟩, A50, H⟩ := H
  replace H : (some (t109, t110, t108)) = some (r1, r2, r3) := H
  have A5 := Aside0.mk A50
  clear A50
  simp only [Option.some.injEq, Prod.mk.injEq] at H
  obtain ⟨rfl, rfl, rfl⟩ := H
  go_enter Tryd.func100, Tryd.ntmps100
  go_wp2_with (first | ((with_reducible refine gate_dst (N := 2) rfl ?_); refine box_event ?hg (N := 2) ?hd (cs := #[.string (⟨#[]⟩ : ByteArray), .slice none 0 0]) (t := 25) ?hr ?_; (case hd => rfl); (case hg => rfl); (case hr => first | (go_simp; done) | (go_simp; rfl)); intro gb101 hg w6 hbox hb; refine rn8 (IsS132.below q38_1 hb) (KeepBut.trans q38_2 (KeepBut.of_below hb g none) (.inl rfl)) (below_step q38_3 hb) (hbox) ((by rw [hg]; exact (keep_size (w := w) (g := g) (row := none) q38_2) : w.heap.size ≤ gb101)) ((Nat.le_trans HW0.out (by rw [hg]; exact (keep_size (w := w) (g := g) (row := none) q38_2) : w.heap.size ≤ gb101) : w0.heap.size ≤ gb101)) ((by rw [hg]; exact Nat.ne_of_lt (IsS132.lt (show IsS132 w0 _ g s0_0 s0_1 from q38_1)) : g ≠ gb101)) ((by rw [hg]; exact Nat.ne_of_gt (IsS132.lt (show IsS132 w0 _ g s0_0 s0_1 from q38_1)) : gb101 ≠ g)) ?_; clear HI0 HK HB; intro HI0 HK HB BK101 GW101 GE101 NB0_101 NB101_0; clear hb hbox hg) | ((with_reducible refine gate_callee (f := 84) rfl ?_); refine goesL_ (some 7) rfl rfl Tryd.func84 (by kernel_rfl) rfl #[.pointer (some ⟨g, 0, none⟩), .int .i64 5] rfl q38_6 ?_; (with_reducible refine (spec_l17Rd_pick.calls k g s0_0 s0_1 5 t102 t103 w0 _ ?side1 ?side2 A2.out).mono ?_); (case side1 => exact q38_1); (case side2 => exact q38_3); rintro e w7 ⟨rfl, hi, hb, hk⟩; refine ⟨_, rfl, ?_⟩; refine rn4 (KeepBut.blk hk (g' := gb101) (o := .cells #[.string (⟨#[]⟩ : ByteArray), .slice none 0 0] 25 (0, 0)) q38_4 NB101_0.out (by simp)) (KeepBut.trans q38_2 hk (.inl rfl)) (hb) (hi) ?_; clear BK101 HK HB HI0; intro BK101 HK HB HI0; (try clear hb); (try clear hb2); (try clear hk); (try clear hi)) | ((with_reducible refine gate_dst (N := 10) rfl ?_); refine Kd.R_lit (Kd.int .i64) _ 3 ?hg (N := 10) ?hd (xs := ([0, 1, 2, 3, 4, 5, 6, 1, 6, 7] : List Int)) (inner := [.int .i64 0, .int .i64 1, .int .i64 2, .int .i64 3, .int .i64 4, .int .i64 5, .int .i64 6, .int .i64 1, .int .i64 6, .int .i64 7]) (ok := fun _ => True) (okp := fun _ => True) ?hr ?hp (fun _ hk => hk) trivial (Below.refl _ _) (Nat.le_refl _) (by simp) ?_; (case hd => rfl); (case hg => rfl); (case hr => first | (go_simp; done) | (go_simp; rfl)); (case hp => exact (Reps.one (show Kd.M (Kd.int .i64) _ _ _ 0 [.int .i64 0] from rfl) (Reps.one (show Kd.M (Kd.int .i64) _ _ _ 1 [.int .i64 1] from rfl) (Reps.one (show Kd.M (Kd.int .i64) _ _ _ 2 [.int .i64 2] from rfl) (Reps.one (show Kd.M (Kd.int .i64) _ _ _ 3 [.int .i64 3] from rfl) (Reps.one (show Kd.M (Kd.int .i64) _ _ _ 4 [.int .i64 4] from rfl) (Reps.one (show Kd.M (Kd.int .i64) _ _ _ 5 [.int .i64 5] from rfl) (Reps.one (show Kd.M (Kd.int .i64) _ _ _ 6 [.int .i64 6] from rfl) (Reps.one (show Kd.M (Kd.int .i64) _ _ _ 1 [.int .i64 1] from rfl) (Reps.one (show Kd.M (Kd.int .i64) _ _ _ 6 [.int .i64 6] from rfl) (Reps.one (show Kd.M (Kd.int .i64) _ _ _ 7 [.int .i64 7] from rfl) (Reps.none _ _)))))))))))); intro v105 w8 ho9 hb hg_ hnew_; clear hg_ hnew_; (first | rw [← Ny104.out] at ho9 | (simp only [Int.reduceToNat] at ho9; rw [← Ny104.out] at ho9)); refine rn5 (Kd.R_lower ho9 (keep_size (w := w) (g := g) (row := none) q38_2)) (IsS132.below q38_1 hb) (blk_below (g := gb101) (o := .cells #[.string (⟨#[]⟩ : ByteArray), .slice none 0 0] 25 (0, 0)) q38_4 hb) (KeepBut.trans q38_2 (KeepBut.of_below hb g none) (.inl rfl)) (below_step q38_3 hb) ?_; clear HI0 BK101 HK HB; intro HO106 HI0 BK101 HK HB; clear hb ho9; obtain ⟨Ao10, co10, eo10⟩ := Kd.R_slice HO106.out; subst eo10) | ((with_reducible refine gate_callee (f := 101) rfl ?_); refine goesL_ (some 11) rfl rfl Tryd.func101 (by kernel_rfl) rfl #[.pointer (some ⟨g, 0, none⟩), .slice Ao10 y104.length co10] rfl q38_6 ?_; (with_reducible refine (spec_l17Rd_num.calls k g s0_0 t103 _ _ y104 t107 t108 w0 _ ?side1 ?side2 ?side3 ?side4 ?side5 A4.out).mono ?_); (case side1 => exact q38_1); (case side2 => exact q38_3); (case side3 => repeat (first | exact (Kd.R_reads' HO106.out).2.2 | (with_reducible refine Kd.C_alloc ?_ _) | (with_reducible refine Kd.C_drewN ?_ _) | (with_reducible refine Kd.C_drew ?_))); (case side4 => exact (Kd.R_reads' HO106.out).2.1); (case side5 => exact far_slice (IsS132.own_ne HI0.out HO106.out (by decide))); rintro e w11 ⟨rfl, hi, hb, hk⟩; refine ⟨_, rfl, ?_⟩; refine rn5 (KeepBut.blk hk (g' := gb101) (o := .cells #[.string (⟨#[]⟩ : ByteArray), .slice none 0 0] 25 (0, 0)) q38_4 NB101_0.out (by simp)) (Kd.R_mono (Kd.R_keep (IsS132.apart (show IsS132 w0 _ g s0_0 t103 from q38_1) q38_19 (by decide)) hk (fun _ h => h.2)) (fun _ h => h.1)) (KeepBut.trans q38_2 hk (.inl rfl)) (hb) (hi) ?_; clear BK101 HO106 HK HB HI0; intro BK101 HO106 HK HB HI0; (try clear hb); (try clear hb2); (try clear hk); (try clear hi)) | ((with_reducible refine gate_callee (f := 137) rfl ?_); refine goesL_ (some 12) rfl rfl Tryd.func137 (by kernel_rfl) rfl #[.int .i64 t107] rfl q38_6 ?_; (with_reducible refine (spec_l1Base.calls t107 t109 t110 _ A5.out).mono ?_); rintro e w12 ⟨v111, rfl, ho0, hb⟩; refine ⟨_, rfl, ?_⟩; refine rn6 (Kd.R_below q38_19 hb) (Kd.R_lower ho0 (keep_size (w := w) (g := g) (row := none) q38_2)) (IsS132.below q38_1 hb) (blk_below (g := gb101) (o := .cells #[.string (⟨#[]⟩ : ByteArray), .slice none 0 0] 25 (0, 0)) q38_4 hb) (KeepBut.trans q38_2 (KeepBut.of_below hb g none) (.inl rfl)) (below_step q38_3 hb) ?_; clear HO106 HI0 BK101 HK HB; intro HO106 HO112 HI0 BK101 HK HB; (try clear hb); (try clear hb2); (try clear hk); (try clear hi); (try clear ho0); have hnb13 := NB101_0.out; have hnc13 := NB0_101.out; have hcz14_0 : w12.cell? ⟨gb101, 0, none⟩ = some (.string (⟨#[]⟩ : ByteArray)) := (blk_cell BK101.out 0).trans rfl; have hcz14_1 : w12.cell? ⟨gb101, 1, none⟩ = some (.slice none 0 0) := (blk_cell BK101.out 1).trans rfl; have hfz14_0 := blk_frozen BK101.out 0; have hfz14_1 := blk_frozen BK101.out 1; obtain ⟨Ao15, co15, eo15⟩ := Kd.R_slice HO112.out; subst eo15))
  refine bodyPost_ret (results_cell_row rfl _ _ gb101 25 #[.string t109, .slice Ao15 t110.length co15] (0, 0) _ rfl (by (with_reducible repeat (first | refine blk_drewN ?_ _ | refine blk_drew ?_ | refine blk_alloc ?_ _)); refine blk_put (cs := #[.string t109, .slice none 0 0]) ?_ 1 _ rfl; (with_reducible repeat (first | refine blk_drewN ?_ _ | refine blk_drew ?_ | refine blk_alloc ?_ _)); refine blk_put (cs := #[.string (⟨#[]⟩ : ByteArray), .slice none 0 0]) ?_ 0 _ rfl; (with_reducible repeat (first | refine blk_drewN ?_ _ | refine blk_drew ?_ | refine blk_alloc ?_ _)); exact BK101.out) Tryd.underlying25 rfl (by kernel_rfl)) rfl ?_
  exact ⟨_, by first | rfl | (simp [errW_none, errW_some] <;> rfl) | (simp [*, errW_none, errW_some] <;> rfl), by (with_reducible repeat (first | apply Kd.R_alloc | apply Kd.R_drewN | apply Kd.R_drew)); exact Kd.R_mono (Kd.R_far (p := ⟨gb101, 1, none⟩) (Kd.R_far (p := ⟨gb101, 0, none⟩) (Kd.R_types HO112.out BK101.out (by decide)) (fun _ hk => hk.2) (.string t109)) (fun _ hk => hk.2) (.slice Ao15 t110.length co15)) (fun _ hk => trivial), by repeat (first | (with_reducible first | exact HI0.out | apply IsS132.alloc | apply IsS132.drewN | apply IsS132.drew | apply IsS132.set_1 | refine IsS132.far ?_ NB0_101.out _ | refine IsS132.far ?_ NB0_116.out _ | refine IsS132.far ?_ NB0_134.out _) | exact HI0.out), by repeat (first | (with_reducible first | exact HB.out | apply below_alloc | apply pw_below_drewN | apply below_drew1 | refine below_set ?_ (IsS132.ge HI0.out) | refine below_set ?_ GE101.out | refine below_set ?_ GE116.out | refine below_set ?_ GE134.out) | exact HB.out), by repeat (first | (with_reducible first | exact HK.out | apply KeepBut.set_ | apply keep_drewN | apply keep_drew | apply keep_alloc | refine keep_far ?_ GW101.out _ | refine keep_far ?_ GW116.out _ | refine keep_far ?_ GW134.out _) | exact HK.out)⟩
 rw [if_neg c3] at H
 have c3b0 : decide (0 < t102) = false := decide_eq_false c3
 clear c3
 obtain ⟨y113, hy113⟩ : ∃ y_ : List (S46), y_ = (([] : List (S46))) := ⟨_, rfl⟩
 replace H : ((spec_l17Rd_num.f k s0_0 t103 (([3, 4, 2, 5] : List Int))).bind fun bt120 => (spec_l1Gram.l0 k bt120.1 s0_0 bt120.2 (⟨#[65]⟩ : ByteArray) y113)) = some (r1, r2, r3) := by first | (rw [hy113]; with_reducible exact H) | (have H2_ := (Option.bind_some _ _).symm.trans H; rw [hy113]; with_reducible exact H2_) | (have H2_ := (Option.bind_some _ _).symm.trans H; with_reducible exact H2_) | with_reducible exact H | (rw [hy113]; exact H) | exact H
 have Ny113 := Aside0.mk hy113
 clear hy113
 obtain ⟨y117, hy117⟩ : ∃ y_ : List Int, y_ = (([3, 4, 2, 5] : List Int)) := ⟨_, rfl⟩
 replace H : ((spec_l17Rd_num.f k s0_0 t103 y117).bind fun bt120 => (spec_l1Gram.l0 k bt120.1 s0_0 bt120.2 (⟨#[65]⟩ : ByteArray) y113)) = some (r1, r2, r3) := by first | (rw [hy117]; with_reducible exact H) | (have H2_ := (Option.bind_some _ _).symm.trans H; rw [hy117]; with_reducible exact H2_) | (have H2_ := (Option.bind_some _ _).symm.trans H; with_reducible exact H2_) | with_reducible exact H | (rw [hy117]; exact H) | exact H
 have Ny117 := Aside0.mk hy117
 clear hy117
 replace H := Option.bind_eq_some_iff.mp H
 obtain ⟨⟨t120, t121⟩, A160, H⟩ := H
 replace H : (spec_l1Gram.l0 k t120 s0_0 t121 (⟨#[65]⟩ : ByteArray) y113) = some (r1, r2, r3) := H
 have A16 := Aside0.mk A160
 clear A160
 have H' := Aside0.mk H
 clear H
 go_enter Tryd.func100, Tryd.ntmps100
 go_wp2_with (first | ((with_reducible refine gate_dst (N := 2) rfl ?_); refine box_event ?hg (N := 2) ?hd (cs := #[.string (⟨#[]⟩ : ByteArray), .slice none 0 0]) (t := 25) ?hr ?_; (case hd => rfl); (case hg => rfl); (case hr => first | (go_simp; done) | (go_simp; rfl)); intro gb101 hg w17 hbox hb; refine rn8 (IsS132.below q38_1 hb) (KeepBut.trans q38_2 (KeepBut.of_below hb g none) (.inl rfl)) (below_step q38_3 hb) (hbox) ((by rw [hg]; exact (keep_size (w := w) (g := g) (row := none) q38_2) : w.heap.size ≤ gb101)) ((Nat.le_trans HW0.out (by rw [hg]; exact (keep_size (w := w) (g := g) (row := none) q38_2) : w.heap.size ≤ gb101) : w0.heap.size ≤ gb101)) ((by rw [hg]; exact Nat.ne_of_lt (IsS132.lt (show IsS132 w0 _ g s0_0 s0_1 from q38_1)) : g ≠ gb101)) ((by rw [hg]; exact Nat.ne_of_gt (IsS132.lt (show IsS132 w0 _ g s0_0 s0_1 from q38_1)) : gb101 ≠ g)) ?_; clear HI0 HK HB; intro HI0 HK HB BK101 GW101 GE101 NB0_101 NB101_0; clear hb hbox hg) | ((with_reducible refine gate_callee (f := 84) rfl ?_); refine goesL_ (some 7) rfl rfl Tryd.func84 (by kernel_rfl) rfl #[.pointer (some ⟨g, 0, none⟩), .int .i64 5] rfl q38_6 ?_; (with_reducible refine (spec_l17Rd_pick.calls k g s0_0 s0_1 5 t102 t103 w0 _ ?side1 ?side2 A2.out).mono ?_); (case side1 => exact q38_1); (case side2 => exact q38_3); rintro e w18 ⟨rfl, hi, hb, hk⟩; refine ⟨_, rfl, ?_⟩; refine rn4 (KeepBut.blk hk (g' := gb101) (o := .cells #[.string (⟨#[]⟩ : ByteArray), .slice none 0 0] 25 (0, 0)) q38_4 NB101_0.out (by simp)) (KeepBut.trans q38_2 hk (.inl rfl)) (hb) (hi) ?_; clear BK101 HK HB HI0; intro BK101 HK HB HI0; (try clear hb); (try clear hb2); (try clear hk); (try clear hi)) | ((with_reducible refine gate_dst (N := 13) rfl ?_); refine Kd.R_lit k46 _ 46 ?hg (N := 13) ?hd (xs := ([] : List (S46))) (inner := []) (ok := fun _ => True) (okp := fun _ => True) ?hr ?hp (fun _ hk => hk) trivial (Below.refl _ _) (Nat.le_refl _) (by simp) ?_; (case hd => rfl); (case hg => rfl); (case hr => first | (go_simp; done) | (go_simp; rfl)); (case hp => exact (Reps.none _ _)); intro v114 w19 ho20 hb hg_ hnew_; clear hg_ hnew_; (first | rw [← Ny113.out] at ho20 | (simp only [Int.reduceToNat] at ho20; rw [← Ny113.out] at ho20)); refine rn5 (Kd.R_lower ho20 (keep_size (w := w) (g := g) (row := none) q38_2)) (IsS132.below q38_1 hb) (blk_below (g := gb101) (o := .cells #[.string (⟨#[]⟩ : ByteArray), .slice none 0 0] 25 (0, 0)) q38_4 hb) (KeepBut.trans q38_2 (KeepBut.of_below hb g none) (.inl rfl)) (below_step q38_3 hb) ?_; clear HI0 BK101 HK HB; intro HO115 HI0 BK101 HK HB; clear hb ho20; obtain ⟨Ao21, co21, eo21⟩ := Kd.R_slice HO115.out; subst eo21) | ((with_reducible refine gate_dst (N := 3) rfl ?_); refine box_event ?hg (N := 3) ?hd (cs := #[.string (⟨#[]⟩ : ByteArray), .slice none 0 0]) (t := 25) ?hr ?_; (case hd => rfl); (case hg => rfl); (case hr => first | (go_simp; done) | (go_simp; rfl)); intro gb116 hg w22 hbox hb; refine rn12 (Kd.R_below q38_20 hb) (IsS132.below q38_1 hb) (blk_below (g := gb101) (o := .cells #[.string (⟨#[]⟩ : ByteArray), .slice none 0 0] 25 (0, 0)) q38_4 hb) (KeepBut.trans q38_2 (KeepBut.of_below hb g none) (.inl rfl)) (below_step q38_3 hb) (hbox) ((by rw [hg]; exact (keep_size (w := w) (g := g) (row := none) q38_2) : w.heap.size ≤ gb116)) ((Nat.le_trans HW0.out (by rw [hg]; exact (keep_size (w := w) (g := g) (row := none) q38_2) : w.heap.size ≤ gb116) : w0.heap.size ≤ gb116)) ((by rw [hg]; exact Nat.ne_of_lt (blk_lt (g := gb101) (o := .cells #[.string (⟨#[]⟩ : ByteArray), .slice none 0 0] 25 (0, 0)) q38_4) : gb101 ≠ gb116)) ((by rw [hg]; exact Nat.ne_of_gt (blk_lt (g := gb101) (o := .cells #[.string (⟨#[]⟩ : ByteArray), .slice none 0 0] 25 (0, 0)) q38_4) : gb116 ≠ gb101)) ((by rw [hg]; exact Nat.ne_of_lt (IsS132.lt (show IsS132 w0 _ g s0_0 t103 from q38_1)) : g ≠ gb116)) ((by rw [hg]; exact Nat.ne_of_gt (IsS132.lt (show IsS132 w0 _ g s0_0 t103 from q38_1)) : gb116 ≠ g)) ?_; clear HO115 HI0 BK101 HK HB; intro HO115 HI0 BK101 HK HB BK116 GW116 GE116 NB101_116 NB116_101 NB0_116 NB116_0; clear hb hbox hg; have hnb23 := NB116_101.out; have hnc23 := NB101_116.out; have hnb24 := NB116_0.out; have hnc24 := NB0_116.out; have hcz25_0 : w22.cell? ⟨gb116, 0, none⟩ = some (.string (⟨#[]⟩ : ByteArray)) := (blk_cell BK116.out 0).trans rfl; have hcz25_1 : w22.cell? ⟨gb116, 1, none⟩ = some (.slice none 0 0) := (blk_cell BK116.out 1).trans rfl; have hfz25_0 := blk_frozen BK116.out 0; have hfz25_1 := blk_frozen BK116.out 1) | ((with_reducible refine gate_dst (N := 16) rfl ?_); refine Kd.R_lit (Kd.int .i64) _ 3 ?hg (N := 16) ?hd (xs := ([3, 4, 2, 5] : List Int)) (inner := [.int .i64 3, .int .i64 4, .int .i64 2, .int .i64 5]) (ok := fun _ => True) (okp := fun _ => True) ?hr ?hp (fun _ hk => hk) trivial (Below.refl _ _) (Nat.le_refl _) (by simp) ?_; (case hd => rfl); (case hg => rfl); (case hr => first | (go_simp; done) | (go_simp; rfl)); (case hp => exact (Reps.one (show Kd.M (Kd.int .i64) _ _ _ 3 [.int .i64 3] from rfl) (Reps.one (show Kd.M (Kd.int .i64) _ _ _ 4 [.int .i64 4] from rfl) (Reps.one (show Kd.M (Kd.int .i64) _ _ _ 2 [.int .i64 2] from rfl) (Reps.one (show Kd.M (Kd.int .i64) _ _ _ 5 [.int .i64 5] from rfl) (Reps.none _ _)))))); intro v118 w26 ho27 hb hg_ hnew_; clear hg_ hnew_; (first | rw [← Ny117.out] at ho27 | (simp only [Int.reduceToNat] at ho27; rw [← Ny117.out] at ho27)); refine rn7 (Kd.R_below (by (with_reducible repeat (first | apply Kd.R_alloc | apply Kd.R_drewN | apply Kd.R_drew)); exact (Kd.R_mono (Kd.R_far (p := ⟨gb116, 1, none⟩) (Kd.R_far (p := ⟨gb116, 0, none⟩) (Kd.R_types HO115.out BK116.out (by decide)) (fun _ hk => hk.2) (.string (⟨#[65]⟩ : ByteArray))) (fun _ hk => hk.2) (.slice Ao21 y113.length co21)) (fun _ h_ => h_.1))) hb) (Kd.R_lower ho27 (keep_size (w := w) (g := g) (row := none) q38_2)) (IsS132.below (show IsS132 w0 ((w22.setCell ⟨gb116, 0, none⟩ (.string (⟨#[65]⟩ : ByteArray))).setCell ⟨gb116, 1, none⟩ (.slice Ao21 y113.length co21)) g s0_0 t103 from q38_1) hb) (blk_below (g := gb101) (o := .cells #[.string (⟨#[]⟩ : ByteArray), .slice none 0 0] 25 (0, 0)) (by (with_reducible repeat (first | refine blk_drewN ?_ _ | refine blk_drew ?_ | refine blk_alloc ?_ _)); refine blk_far ?_ NB101_116.out _; (with_reducible repeat (first | refine blk_drewN ?_ _ | refine blk_drew ?_ | refine blk_alloc ?_ _)); refine blk_far ?_ NB101_116.out _; (with_reducible repeat (first | refine blk_drewN ?_ _ | refine blk_drew ?_ | refine blk_alloc ?_ _)); exact BK101.out) hb) (blk_below (g := gb116) (o := .cells #[.string (⟨#[65]⟩ : ByteArray), .slice Ao21 y113.length co21] 25 (0, 0)) (by (with_reducible repeat (first | refine blk_drewN ?_ _ | refine blk_drew ?_ | refine blk_alloc ?_ _)); refine blk_put (cs := #[.string (⟨#[65]⟩ : ByteArray), .slice none 0 0]) ?_ 1 _ rfl; (with_reducible repeat (first | refine blk_drewN ?_ _ | refine blk_drew ?_ | refine blk_alloc ?_ _)); refine blk_put (cs := #[.string (⟨#[]⟩ : ByteArray), .slice none 0 0]) ?_ 0 _ rfl; (with_reducible repeat (first | refine blk_drewN ?_ _ | refine blk_drew ?_ | refine blk_alloc ?_ _)); exact BK116.out) hb) (KeepBut.trans q38_2 (KeepBut.of_below hb g none) (.inl rfl)) (below_step q38_3 hb) ?_; clear HO115 HI0 BK101 BK116 HK HB; intro HO115 HO119 HI0 BK101 BK116 HK HB; clear hb ho27; obtain ⟨Ao28, co28, eo28⟩ := Kd.R_slice HO119.out; subst eo28) | ((with_reducible refine gate_callee (f := 101) rfl ?_); refine goesL_ (some 17) rfl rfl Tryd.func101 (by kernel_rfl) rfl #[.pointer (some ⟨g, 0, none⟩), .slice Ao28 y117.length co28] rfl q38_6 ?_; (with_reducible refine (spec_l17Rd_num.calls k g s0_0 t103 _ _ y117 t120 t121 w0 _ ?side1 ?side2 ?side3 ?side4 ?side5 A16.out).mono ?_); (case side1 => exact q38_1); (case side2 => exact q38_3); (case side3 => repeat (first | exact (Kd.R_reads' HO119.out).2.2 | (with_reducible refine Kd.C_alloc ?_ _) | (with_reducible refine Kd.C_drewN ?_ _) | (with_reducible refine Kd.C_drew ?_))); (case side4 => exact (Kd.R_reads' HO119.out).2.1); (case side5 => exact far_slice (IsS132.own_ne HI0.out HO119.out (by decide))); rintro e w29 ⟨rfl, hi, hb, hk⟩; refine ⟨_, rfl, ?_⟩; refine rn7 (KeepBut.blk hk (g' := gb101) (o := .cells #[.string (⟨#[]⟩ : ByteArray), .slice none 0 0] 25 (0, 0)) q38_4 NB101_0.out (by simp)) (Kd.R_mono (Kd.R_keep (IsS132.apart (show IsS132 w0 _ g s0_0 t103 from q38_1) q38_20 (by decide)) hk (fun _ h => h.2)) (fun _ h => h.1)) (KeepBut.blk hk (g' := gb116) (o := .cells #[.string (⟨#[65]⟩ : ByteArray), .slice Ao21 y113.length co21] 25 (0, 0)) q38_5 NB116_0.out (by simp)) (Kd.R_mono (Kd.R_keep (IsS132.apart (show IsS132 w0 _ g s0_0 t103 from q38_1) (by (with_reducible repeat (first | apply Kd.R_alloc | apply Kd.R_drewN | apply Kd.R_drew)); exact HO119.out) (by decide)) hk (fun _ h => h.2)) (fun _ h => h.1)) (KeepBut.trans q38_2 hk (.inl rfl)) (hb) (hi) ?_; clear BK101 HO115 BK116 HO119 HK HB HI0; intro BK101 HO115 BK116 HO119 HK HB HI0; (try clear hb); (try clear hb2); (try clear hk); (try clear hi)))
 go_loopg [4] k (fun kq v4 w' => ∃ (x4_1 : Int) (x1001_1 : Int) (x117001_1 : List (S46)) (u117001 : Value), v4 = .int .i64 x4_1 ∧ Aside0 (spec_l1Gram.l0 kq x4_1 s0_0 x1001_1 (⟨#[65]⟩ : ByteArray) x117001_1 = some (r1, r2, r3)) ∧ Aside0 (kq ≤ k) ∧ Aside0 (Kd.R k46 46 w' w.heap.size (fun _ => True) u117001 x117001_1) ∧ Aside0 (w'.heap[gb101]? = some (.cells #[.string (⟨#[]⟩ : ByteArray), (.slice none 0 0)] 25 (0, 0))) ∧ Aside0 (w'.heap[gb116]? = some (.cells #[.string (⟨#[65]⟩ : ByteArray), u117001] 25 (0, 0))) ∧ Aside0 (IsS132 w0 w' g s0_0 x1001_1) ∧ Aside0 (KeepBut w w' g none) ∧ Aside0 (Below w0.heap.size w0 w'))
 case atStart => exact ⟨(t120), (t121), (y113), (.slice Ao21 y113.length co21), q38_21, H', ⟨Nat.le_refl _⟩, ⟨by (with_reducible repeat (first | apply Kd.R_alloc | apply Kd.R_drewN | apply Kd.R_drew)); exact HO115.out⟩, ⟨by (with_reducible repeat (first | refine blk_drewN ?_ _ | refine blk_drew ?_ | refine blk_alloc ?_ _)); exact BK101.out⟩, ⟨by (with_reducible repeat (first | refine blk_drewN ?_ _ | refine blk_drew ?_ | refine blk_alloc ?_ _)); exact BK116.out⟩, ⟨by repeat (first | (with_reducible first | exact HI0.out | apply IsS132.alloc | apply IsS132.drewN | apply IsS132.drew | apply IsS132.set_1 | refine IsS132.far ?_ NB0_101.out _ | refine IsS132.far ?_ NB0_116.out _ | refine IsS132.far ?_ NB0_134.out _) | exact HI0.out)⟩, ⟨by repeat (first | (with_reducible first | exact HK.out | apply KeepBut.set_ | apply keep_drewN | apply keep_drew | apply keep_alloc | refine keep_far ?_ GW101.out _ | refine keep_far ?_ GW116.out _ | refine keep_far ?_ GW134.out _) | exact HK.out)⟩, ⟨by repeat (first | (with_reducible first | exact HB.out | apply below_alloc | apply pw_below_drewN | apply below_drew1 | refine below_set ?_ (IsS132.ge HI0.out) | refine below_set ?_ GE101.out | refine below_set ?_ GE116.out | refine below_set ?_ GE134.out) | exact HB.out)⟩⟩
 case round =>
  clear H'
  try clear c1
  try clear c2
  try clear p2
  try clear c3
  try clear c3b0
  try clear c8
  try clear c10
  try clear c13
  try clear c23
  try clear c24
  try clear hcz14_0
  try clear hcz14_1
  try clear hcz25_0
  try clear hcz25_1
  try clear hfz14_0
  try clear hfz14_1
  try clear hfz25_0
  try clear hfz25_1
  obtain ⟨x4_1, x1001_1, x117001_1, u117001, rfl, HA, HK1, HO_117001, BK101, BK116, HI0, HK, HB⟩ := hrel
  cases gk with
  | zero => exact absurd HA.out (by simp [spec_l1Gram.l0])
  | succ k1 =>
   have H := HA.out
   clear HA
   simp only [spec_l1Gram.l0] at H
   by_cases c30 : x4_1 > 0
   rotate_left
   ·rw [if_neg c30] at H
    have c30b0 : decide (0 < x4_1) = false := decide_eq_false c30
    clear c30
    simp only [Option.some.injEq, Prod.mk.injEq] at H
    obtain ⟨rfl, rfl, rfl⟩ := H
    have hnb80 := NB116_101.out
    have hnc80 := NB101_116.out
    have hnb81 := NB116_0.out
    have hnc81 := NB0_116.out
    have hcz82_0 : wr.cell? ⟨gb116, 0, none⟩ = some (.string (⟨#[65]⟩ : ByteArray)) := (blk_cell BK116.out 0).trans rfl
    have hcz82_1 : wr.cell? ⟨gb116, 1, none⟩ = some (u117001) := (blk_cell BK116.out 1).trans rfl
    have hfz82_0 := blk_frozen BK116.out 0
    have hfz82_1 := blk_frozen BK116.out 1
    have hnb83 := NB101_0.out
    have hnc83 := NB0_101.out
    have hcz84_0 : wr.cell? ⟨gb101, 0, none⟩ = some (.string (⟨#[]⟩ : ByteArray)) := (blk_cell BK101.out 0).trans rfl
    have hcz84_1 : wr.cell? ⟨gb101, 1, none⟩ = some (.slice none 0 0) := (blk_cell BK101.out 1).trans rfl
    have hfz84_0 := blk_frozen BK101.out 0
    have hfz84_1 := blk_frozen BK101.out 1
    obtain ⟨Ao85, co85, eo85⟩ := Kd.R_slice HO_117001.out
    subst eo85
    go_wp2
    refine bodyPost_ret (results_cell_row rfl _ _ gb101 25 #[.string (⟨#[65]⟩ : ByteArray), .slice Ao85 x117001_1.length co85] (0, 0) _ rfl (by (with_reducible repeat (first | refine blk_drewN ?_ _ | refine blk_drew ?_ | refine blk_alloc ?_ _)); refine blk_put (cs := #[.string (⟨#[65]⟩ : ByteArray), .slice none 0 0]) ?_ 1 _ rfl; (with_reducible repeat (first | refine blk_drewN ?_ _ | refine blk_drew ?_ | refine blk_alloc ?_ _)); refine blk_put (cs := #[.string (⟨#[]⟩ : ByteArray), .slice none 0 0]) ?_ 0 _ rfl; (with_reducible repeat (first | refine blk_drewN ?_ _ | refine blk_drew ?_ | refine blk_alloc ?_ _)); exact BK101.out) Tryd.underlying25 rfl (by kernel_rfl)) rfl ?_
    exact ⟨_, by first | rfl | (simp [errW_none, errW_some] <;> rfl) | (simp [*, errW_none, errW_some] <;> rfl), by (with_reducible repeat (first | apply Kd.R_alloc | apply Kd.R_drewN | apply Kd.R_drew)); exact Kd.R_mono (Kd.R_far (p := ⟨gb101, 1, none⟩) (Kd.R_far (p := ⟨gb101, 0, none⟩) (Kd.R_types HO_117001.out BK101.out (by decide)) (fun _ hk => hk.2) (.string (⟨#[65]⟩ : ByteArray))) (fun _ hk => hk.2) (.slice Ao85 x117001_1.length co85)) (fun _ hk => trivial), by repeat (first | (with_reducible first | exact HI0.out | apply IsS132.alloc | apply IsS132.drewN | apply IsS132.drew | apply IsS132.set_1 | refine IsS132.far ?_ NB0_101.out _ | refine IsS132.far ?_ NB0_116.out _ | refine IsS132.far ?_ NB0_134.out _) | exact HI0.out), by repeat (first | (with_reducible first | exact HB.out | apply below_alloc | apply pw_below_drewN | apply below_drew1 | refine below_set ?_ (IsS132.ge HI0.out) | refine below_set ?_ GE101.out | refine below_set ?_ GE116.out | refine below_set ?_ GE134.out) | exact HB.out), by repeat (first | (with_reducible first | exact HK.out | apply KeepBut.set_ | apply keep_drewN | apply keep_drew | apply keep_alloc | refine keep_far ?_ GW101.out _ | refine keep_far ?_ GW116.out _ | refine keep_far ?_ GW134.out _) | exact HK.out)⟩
   rw [if_pos c30] at H
   have c30b0 : decide (0 < x4_1) = true := decide_eq_true c30
   clear c30
   obtain ⟨y122, hy122⟩ : ∃ y_ : List ByteArray, y_ = (([(⟨#[65]⟩ : ByteArray), (⟨#[65]⟩ : ByteArray), (⟨#[66]⟩ : ByteArray), (⟨#[67]⟩ : ByteArray)] : List ByteArray)) := ⟨_, rfl⟩
   replace H : ((spec_l17Rd_of.f k1 s0_0 x1001_1 y122).bind fun bt125 => ((spec_l17Rd_num.f k1 s0_0 bt125.2 (([1, 2, 2, 0, 3] : List Int))).bind fun bt130 => ((spec_l1Signed.f k1 s0_0 bt130.2 bt130.1).bind fun bt132 => ((spec_l1Place.f k1 x117001_1 bt125.1 bt132.1).bind fun t135 => (if t135 < 0 then (if x117001_1.length < 4398046511104 then (spec_l1Gram.l0 k1 (wrap64 (x4_1 - 1)) s0_0 bt132.2 (⟨#[65]⟩ : ByteArray) (x117001_1 ++ [(⟨bt125.1, bt132.1⟩ : S46)])) else (none)) else (spec_l1Gram.l0 k1 (wrap64 (x4_1 - 1)) s0_0 bt132.2 (⟨#[65]⟩ : ByteArray) x117001_1)))))) = some (r1, r2, r3) := by first | (rw [hy122]; with_reducible exact H) | (have H2_ := (Option.bind_some _ _).symm.trans H; rw [hy122]; with_reducible exact H2_) | (have H2_ := (Option.bind_some _ _).symm.trans H; with_reducible exact H2_) | with_reducible exact H | (rw [hy122]; exact H) | exact H
   have Ny122 := Aside0.mk hy122
   clear hy122
   replace H := Option.bind_eq_some_iff.mp H
   obtain ⟨⟨t125, t126⟩, A310, H⟩ := H
   replace H : ((spec_l17Rd_num.f k1 s0_0 t126 (([1, 2, 2, 0, 3] : List Int))).bind fun bt130 => ((spec_l1Signed.f k1 s0_0 bt130.2 bt130.1).bind fun bt132 => ((spec_l1Place.f k1 x117001_1 t125 bt132.1).bind fun t135 => (if t135 < 0 then (if x117001_1.length < 4398046511104 then (spec_l1Gram.l0 k1 (wrap64 (x4_1 - 1)) s0_0 bt132.2 (⟨#[65]⟩ : ByteArray) (x117001_1 ++ [(⟨t125, bt132.1⟩ : S46)])) else (none)) else (spec_l1Gram.l0 k1 (wrap64 (x4_1 - 1)) s0_0 bt132.2 (⟨#[65]⟩ : ByteArray) x117001_1))))) = some (r1, r2, r3) := H
   have A31 := Aside0.mk A310
   clear A310
   obtain ⟨y127, hy127⟩ : ∃ y_ : List Int, y_ = (([1, 2, 2, 0, 3] : List Int)) := ⟨_, rfl⟩
   replace H : ((spec_l17Rd_num.f k1 s0_0 t126 y127).bind fun bt130 => ((spec_l1Signed.f k1 s0_0 bt130.2 bt130.1).bind fun bt132 => ((spec_l1Place.f k1 x117001_1 t125 bt132.1).bind fun t135 => (if t135 < 0 then (if x117001_1.length < 4398046511104 then (spec_l1Gram.l0 k1 (wrap64 (x4_1 - 1)) s0_0 bt132.2 (⟨#[65]⟩ : ByteArray) (x117001_1 ++ [(⟨t125, bt132.1⟩ : S46)])) else (none)) else (spec_l1Gram.l0 k1 (wrap64 (x4_1 - 1)) s0_0 bt132.2 (⟨#[65]⟩ : ByteArray) x117001_1))))) = some (r1, r2, r3) := by first | (rw [hy127]; with_reducible exact H) | (have H2_ := (Option.bind_some _ _).symm.trans H; rw [hy127]; with_reducible exact H2_) | (have H2_ := (Option.bind_some _ _).symm.trans H; with_reducible exact H2_) | with_reducible exact H | (rw [hy127]; exact H) | exact H
   have Ny127 := Aside0.mk hy127
   clear hy127
   replace H := Option.bind_eq_some_iff.mp H
   obtain ⟨⟨t130, t131⟩, A320, H⟩ := H
   replace H : ((spec_l1Signed.f k1 s0_0 t131 t130).bind fun bt132 => ((spec_l1Place.f k1 x117001_1 t125 bt132.1).bind fun t135 => (if t135 < 0 then (if x117001_1.length < 4398046511104 then (spec_l1Gram.l0 k1 (wrap64 (x4_1 - 1)) s0_0 bt132.2 (⟨#[65]⟩ : ByteArray) (x117001_1 ++ [(⟨t125, bt132.1⟩ : S46)])) else (none)) else (spec_l1Gram.l0 k1 (wrap64 (x4_1 - 1)) s0_0 bt132.2 (⟨#[65]⟩ : ByteArray) x117001_1)))) = some (r1, r2, r3) := H
   have A32 := Aside0.mk A320
   clear A320
   replace H := Option.bind_eq_some_iff.mp H
   obtain ⟨⟨t132, t133⟩, A330, H⟩ := H
   replace H : ((spec_l1Place.f k1 x117001_1 t125 t132).bind fun t135 => (if t135 < 0 then (if x117001_1.length < 4398046511104 then (spec_l1Gram.l0 k1 (wrap64 (x4_1 - 1)) s0_0 t133 (⟨#[65]⟩ : ByteArray) (x117001_1 ++ [(⟨t125, t132⟩ : S46)])) else (none)) else (spec_l1Gram.l0 k1 (wrap64 (x4_1 - 1)) s0_0 t133 (⟨#[65]⟩ : ByteArray) x117001_1))) = some (r1, r2, r3) := H
   have A33 := Aside0.mk A330
   clear A330
   replace H := Option.bind_eq_some_iff.mp H
   obtain ⟨t135, A340, H⟩ := H
   replace H : (if t135 < 0 then (if x117001_1.length < 4398046511104 then (spec_l1Gram.l0 k1 (wrap64 (x4_1 - 1)) s0_0 t133 (⟨#[65]⟩ : ByteArray) (x117001_1 ++ [(⟨t125, t132⟩ : S46)])) else (none)) else (spec_l1Gram.l0 k1 (wrap64 (x4_1 - 1)) s0_0 t133 (⟨#[65]⟩ : ByteArray) x117001_1)) = some (r1, r2, r3) := H
   have A34 := Aside0.mk A340
   clear A340
   by_cases c35 : t135 < 0
   ·rw [if_pos c35] at H
    have c35b0 : decide (t135 < 0) = true := decide_eq_true c35
    clear c35
    by_cases c36 : x117001_1.length < 4398046511104
    ·rw [if_pos c36] at H
     have LMc36 := Aside0.mk c36
     clear c36
     obtain ⟨y136, hy136⟩ : ∃ y_ : List (S46), y_ = (x117001_1 ++ [(⟨t125, t132⟩ : S46)]) := ⟨_, rfl⟩
     replace H : (spec_l1Gram.l0 k1 (wrap64 (x4_1 - 1)) s0_0 t133 (⟨#[65]⟩ : ByteArray) y136) = some (r1, r2, r3) := by first | (rw [hy136]; with_reducible exact H) | (have H2_ := (Option.bind_some _ _).symm.trans H; rw [hy136]; with_reducible exact H2_) | (have H2_ := (Option.bind_some _ _).symm.trans H; with_reducible exact H2_) | with_reducible exact H | (rw [hy136]; exact H) | exact H
     have Ny136 := Aside0.mk hy136
     clear hy136
     have H' := Aside0.mk H
     clear H
     go_wp2_with (first | ((with_reducible refine gate_dst (N := 23) rfl ?_); refine Kd.R_lit Kd.string _ 9 ?hg (N := 23) ?hd (xs := ([(⟨#[65]⟩ : ByteArray), (⟨#[65]⟩ : ByteArray), (⟨#[66]⟩ : ByteArray), (⟨#[67]⟩ : ByteArray)] : List ByteArray)) (inner := [.string (⟨#[65]⟩ : ByteArray), .string (⟨#[65]⟩ : ByteArray), .string (⟨#[66]⟩ : ByteArray), .string (⟨#[67]⟩ : ByteArray)]) (ok := fun _ => True) (okp := fun _ => True) ?hr ?hp (fun _ hk => hk) trivial (Below.refl _ _) (Nat.le_refl _) (by simp) ?_; (case hd => rfl); (case hg => rfl); (case hr => first | (go_simp; done) | (go_simp; rfl)); (case hp => exact (Reps.one (show Kd.M Kd.string _ _ _ (⟨#[65]⟩ : ByteArray) [.string (⟨#[65]⟩ : ByteArray)] from rfl) (Reps.one (show Kd.M Kd.string _ _ _ (⟨#[65]⟩ : ByteArray) [.string (⟨#[65]⟩ : ByteArray)] from rfl) (Reps.one (show Kd.M Kd.string _ _ _ (⟨#[66]⟩ : ByteArray) [.string (⟨#[66]⟩ : ByteArray)] from rfl) (Reps.one (show Kd.M Kd.string _ _ _ (⟨#[67]⟩ : ByteArray) [.string (⟨#[67]⟩ : ByteArray)] from rfl) (Reps.none _ _)))))); intro v123 w37 ho38 hb hg_ hnew_; clear hg_ hnew_; (first | rw [← Ny122.out] at ho38 | (simp only [Int.reduceToNat] at ho38; rw [← Ny122.out] at ho38)); refine rn7 (Kd.R_below q38_7 hb) (Kd.R_lower ho38 (keep_size (w := w) (g := g) (row := none) q38_2)) (blk_below (g := gb101) (o := .cells #[.string (⟨#[]⟩ : ByteArray), .slice none 0 0] 25 (0, 0)) q38_4 hb) (blk_below (g := gb116) (o := .cells #[.string (⟨#[65]⟩ : ByteArray), u117001] 25 (0, 0)) q38_5 hb) (IsS132.below q38_1 hb) (KeepBut.trans q38_2 (KeepBut.of_below hb g none) (.inl rfl)) (below_step q38_3 hb) ?_; clear HO_117001 BK101 BK116 HI0 HK HB; intro HO_117001 HO124 BK101 BK116 HI0 HK HB; clear hb ho38; obtain ⟨Ao39, co39, eo39⟩ := Kd.R_slice HO124.out; subst eo39) | ((with_reducible refine gate_callee (f := 85) rfl ?_); refine goesL_ (some 24) rfl rfl Tryd.func85 (by kernel_rfl) rfl #[.pointer (some ⟨g, 0, none⟩), .slice Ao39 y122.length co39] rfl q38_6 ?_; (with_reducible refine (spec_l17Rd_of.calls k1 g s0_0 x1001_1 _ _ y122 t125 t126 w0 _ ?side1 ?side2 ?side3 ?side4 ?side5 A31.out).mono ?_); (case side1 => exact q38_1); (case side2 => exact q38_3); (case side3 => exact q38_16); (case side4 => exact (Kd.R_reads' HO124.out).2.1); (case side5 => exact far_slice (IsS132.own_ne HI0.out HO124.out (by decide))); rintro e w40 ⟨rfl, hi, hb, hk⟩; refine ⟨_, rfl, ?_⟩; refine rn7 (Kd.R_mono (Kd.R_keep (IsS132.apart (show IsS132 w0 _ g s0_0 x1001_1 from q38_1) q38_7 (by decide)) hk (fun _ h => h.2)) (fun _ h => h.1)) (KeepBut.blk hk (g' := gb101) (o := .cells #[.string (⟨#[]⟩ : ByteArray), .slice none 0 0] 25 (0, 0)) q38_4 NB101_0.out (by simp)) (KeepBut.blk hk (g' := gb116) (o := .cells #[.string (⟨#[65]⟩ : ByteArray), u117001] 25 (0, 0)) q38_5 NB116_0.out (by simp)) (Kd.R_mono (Kd.R_keep (IsS132.apart (show IsS132 w0 _ g s0_0 x1001_1 from q38_1) q38_9 (by decide)) hk (fun _ h => h.2)) (fun _ h => h.1)) (KeepBut.trans q38_2 hk (.inl rfl)) (hb) (hi) ?_; clear HO_117001 BK101 BK116 HO124 HK HB HI0; intro HO_117001 BK101 BK116 HO124 HK HB HI0; (try clear hb); (try clear hb2); (try clear hk); (try clear hi)) | ((with_reducible refine gate_dst (N := 27) rfl ?_); refine Kd.R_lit (Kd.int .i64) _ 3 ?hg (N := 27) ?hd (xs := ([1, 2, 2, 0, 3] : List Int)) (inner := [.int .i64 1, .int .i64 2, .int .i64 2, .int .i64 0, .int .i64 3]) (ok := fun _ => True) (okp := fun _ => True) ?hr ?hp (fun _ hk => hk) trivial (Below.refl _ _) (Nat.le_refl _) (by simp) ?_; (case hd => rfl); (case hg => rfl); (case hr => first | (go_simp; done) | (go_simp; rfl)); (case hp => exact (Reps.one (show Kd.M (Kd.int .i64) _ _ _ 1 [.int .i64 1] from rfl) (Reps.one (show Kd.M (Kd.int .i64) _ _ _ 2 [.int .i64 2] from rfl) (Reps.one (show Kd.M (Kd.int .i64) _ _ _ 2 [.int .i64 2] from rfl) (Reps.one (show Kd.M (Kd.int .i64) _ _ _ 0 [.int .i64 0] from rfl) (Reps.one (show Kd.M (Kd.int .i64) _ _ _ 3 [.int .i64 3] from rfl) (Reps.none _ _))))))); intro v128 w41 ho42 hb hg_ hnew_; clear hg_ hnew_; (first | rw [← Ny127.out] at ho42 | (simp only [Int.reduceToNat] at ho42; rw [← Ny127.out] at ho42)); refine rn8 (Kd.R_below q38_7 hb) (Kd.R_below q38_9 hb) (Kd.R_lower ho42 (keep_size (w := w) (g := g) (row := none) q38_2)) (blk_below (g := gb101) (o := .cells #[.string (⟨#[]⟩ : ByteArray), .slice none 0 0] 25 (0, 0)) q38_4 hb) (blk_below (g := gb116) (o := .cells #[.string (⟨#[65]⟩ : ByteArray), u117001] 25 (0, 0)) q38_5 hb) (IsS132.below q38_1 hb) (KeepBut.trans q38_2 (KeepBut.of_below hb g none) (.inl rfl)) (below_step q38_3 hb) ?_; clear HO_117001 HO124 BK101 BK116 HI0 HK HB; intro HO_117001 HO124 HO129 BK101 BK116 HI0 HK HB; clear hb ho42; obtain ⟨Ao43, co43, eo43⟩ := Kd.R_slice HO129.out; subst eo43) | ((with_reducible refine gate_callee (f := 101) rfl ?_); refine goesL_ (some 28) rfl rfl Tryd.func101 (by kernel_rfl) rfl #[.pointer (some ⟨g, 0, none⟩), .slice Ao43 y127.length co43] rfl q38_6 ?_; (with_reducible refine (spec_l17Rd_num.calls k1 g s0_0 t126 _ _ y127 t130 t131 w0 _ ?side1 ?side2 ?side3 ?side4 ?side5 A32.out).mono ?_); (case side1 => exact q38_1); (case side2 => exact q38_3); (case side3 => exact q38_17); (case side4 => exact (Kd.R_reads' HO129.out).2.1); (case side5 => exact far_slice (IsS132.own_ne HI0.out HO129.out (by decide))); rintro e w44 ⟨rfl, hi, hb, hk⟩; refine ⟨_, rfl, ?_⟩; refine rn8 (Kd.R_mono (Kd.R_keep (IsS132.apart (show IsS132 w0 _ g s0_0 t126 from q38_1) q38_7 (by decide)) hk (fun _ h => h.2)) (fun _ h => h.1)) (KeepBut.blk hk (g' := gb101) (o := .cells #[.string (⟨#[]⟩ : ByteArray), .slice none 0 0] 25 (0, 0)) q38_4 NB101_0.out (by simp)) (KeepBut.blk hk (g' := gb116) (o := .cells #[.string (⟨#[65]⟩ : ByteArray), u117001] 25 (0, 0)) q38_5 NB116_0.out (by simp)) (Kd.R_mono (Kd.R_keep (IsS132.apart (show IsS132 w0 _ g s0_0 t126 from q38_1) q38_9 (by decide)) hk (fun _ h => h.2)) (fun _ h => h.1)) (Kd.R_mono (Kd.R_keep (IsS132.apart (show IsS132 w0 _ g s0_0 t126 from q38_1) q38_10 (by decide)) hk (fun _ h => h.2)) (fun _ h => h.1)) (KeepBut.trans q38_2 hk (.inl rfl)) (hb) (hi) ?_; clear HO_117001 BK101 BK116 HO124 HO129 HK HB HI0; intro HO_117001 BK101 BK116 HO124 HO129 HK HB HI0; (try clear hb); (try clear hb2); (try clear hk); (try clear hi)) | ((with_reducible refine gate_callee (f := 136) rfl ?_); refine goesL_ (some 29) rfl rfl Tryd.func136 (by kernel_rfl) rfl #[.pointer (some ⟨g, 0, none⟩), .int .i64 t130] rfl q38_6 ?_; (with_reducible refine (spec_l1Signed.calls k1 g s0_0 t131 t130 t132 t133 w0 _ ?side1 ?side2 A33.out).mono ?_); (case side1 => exact q38_1); (case side2 => exact q38_3); rintro e w45 ⟨rfl, hi, hb, hk⟩; refine ⟨_, rfl, ?_⟩; refine rn8 (Kd.R_mono (Kd.R_keep (IsS132.apart (show IsS132 w0 _ g s0_0 t131 from q38_1) q38_7 (by decide)) hk (fun _ h => h.2)) (fun _ h => h.1)) (KeepBut.blk hk (g' := gb101) (o := .cells #[.string (⟨#[]⟩ : ByteArray), .slice none 0 0] 25 (0, 0)) q38_4 NB101_0.out (by simp)) (KeepBut.blk hk (g' := gb116) (o := .cells #[.string (⟨#[65]⟩ : ByteArray), u117001] 25 (0, 0)) q38_5 NB116_0.out (by simp)) (Kd.R_mono (Kd.R_keep (IsS132.apart (show IsS132 w0 _ g s0_0 t131 from q38_1) q38_9 (by decide)) hk (fun _ h => h.2)) (fun _ h => h.1)) (Kd.R_mono (Kd.R_keep (IsS132.apart (show IsS132 w0 _ g s0_0 t131 from q38_1) q38_10 (by decide)) hk (fun _ h => h.2)) (fun _ h => h.1)) (KeepBut.trans q38_2 hk (.inl rfl)) (hb) (hi) ?_; clear HO_117001 BK101 BK116 HO124 HO129 HK HB HI0; intro HO_117001 BK101 BK116 HO124 HO129 HK HB HI0; (try clear hb); (try clear hb2); (try clear hk); (try clear hi)) | ((with_reducible refine gate_dst (N := 5) rfl ?_); refine box_event ?hg (N := 5) ?hd (cs := #[.string (⟨#[]⟩ : ByteArray), .string (⟨#[]⟩ : ByteArray)]) (t := 46) ?hr ?_; (case hd => rfl); (case hg => rfl); (case hr => first | (go_simp; done) | (go_simp; rfl)); intro gb134 hg w46 hbox hb; refine rn17 (Kd.R_below (Kd.R_elderB q38_7 gb134 (Nat.le_of_eq hg.symm)) hb) (Kd.R_below q38_9 hb) (Kd.R_below q38_10 hb) (blk_below (g := gb101) (o := .cells #[.string (⟨#[]⟩ : ByteArray), .slice none 0 0] 25 (0, 0)) q38_4 hb) (blk_below (g := gb116) (o := .cells #[.string (⟨#[65]⟩ : ByteArray), u117001] 25 (0, 0)) q38_5 hb) (IsS132.below q38_1 hb) (KeepBut.trans q38_2 (KeepBut.of_below hb g none) (.inl rfl)) (below_step q38_3 hb) (hbox) ((by rw [hg]; exact (keep_size (w := w) (g := g) (row := none) q38_2) : w.heap.size ≤ gb134)) ((Nat.le_trans HW0.out (by rw [hg]; exact (keep_size (w := w) (g := g) (row := none) q38_2) : w.heap.size ≤ gb134) : w0.heap.size ≤ gb134)) ((by rw [hg]; exact Nat.ne_of_lt (blk_lt (g := gb101) (o := .cells #[.string (⟨#[]⟩ : ByteArray), .slice none 0 0] 25 (0, 0)) q38_4) : gb101 ≠ gb134)) ((by rw [hg]; exact Nat.ne_of_gt (blk_lt (g := gb101) (o := .cells #[.string (⟨#[]⟩ : ByteArray), .slice none 0 0] 25 (0, 0)) q38_4) : gb134 ≠ gb101)) ((by rw [hg]; exact Nat.ne_of_lt (blk_lt (g := gb116) (o := .cells #[.string (⟨#[65]⟩ : ByteArray), u117001] 25 (0, 0)) q38_5) : gb116 ≠ gb134)) ((by rw [hg]; exact Nat.ne_of_gt (blk_lt (g := gb116) (o := .cells #[.string (⟨#[65]⟩ : ByteArray), u117001] 25 (0, 0)) q38_5) : gb134 ≠ gb116)) ((by rw [hg]; exact Nat.ne_of_lt (IsS132.lt (show IsS132 w0 _ g s0_0 t133 from q38_1)) : g ≠ gb134)) ((by rw [hg]; exact Nat.ne_of_gt (IsS132.lt (show IsS132 w0 _ g s0_0 t133 from q38_1)) : gb134 ≠ g)) ?_; clear HO_117001 HO124 HO129 BK101 BK116 HI0 HK HB; intro HO_117001 HO124 HO129 BK101 BK116 HI0 HK HB BK134 GW134 GE134 NB101_134 NB134_101 NB116_134 NB134_116 NB0_134 NB134_0; clear hb hbox hg; have hnb47 := NB134_101.out; have hnc47 := NB101_134.out; have hnb48 := NB134_116.out; have hnc48 := NB116_134.out; have hnb49 := NB134_0.out; have hnc49 := NB0_134.out; have hcz50_0 : w46.cell? ⟨gb134, 0, none⟩ = some (.string (⟨#[]⟩ : ByteArray)) := (blk_cell BK134.out 0).trans rfl; have hcz50_1 : w46.cell? ⟨gb134, 1, none⟩ = some (.string (⟨#[]⟩ : ByteArray)) := (blk_cell BK134.out 1).trans rfl; have hfz50_0 := blk_frozen BK134.out 0; have hfz50_1 := blk_frozen BK134.out 1; have hnb51 := NB116_101.out; have hnc51 := NB101_116.out; have hnb52 := NB116_0.out; have hnc52 := NB0_116.out; have hcz53_0 : w46.cell? ⟨gb116, 0, none⟩ = some (.string (⟨#[65]⟩ : ByteArray)) := (blk_cell BK116.out 0).trans rfl; have hcz53_1 : w46.cell? ⟨gb116, 1, none⟩ = some (u117001) := (blk_cell BK116.out 1).trans rfl; have hfz53_0 := blk_frozen BK116.out 0; have hfz53_1 := blk_frozen BK116.out 1; obtain ⟨Ao54, co54, eo54⟩ := Kd.R_slice HO_117001.out; subst eo54) | ((with_reducible refine gate_callee (f := 76) rfl ?_); refine goesL_ (some 34) rfl rfl Tryd.func76 (by kernel_rfl) rfl #[.slice Ao54 x117001_1.length co54, .agg #[.string t125, .string t132]] rfl q38_6 ?_; (with_reducible refine (spec_l1Place.calls k1 _ _ x117001_1 t125 t132 t135 _ ?side1 ?side2 A34.out).mono ?_); (case side1 => refine (Kd.R_reads' (e := 46) (base := w.heap.size) (ok := fun k_ => (True ∧ k_ ≠ gb134)) (n := x117001_1.length) (c := co54) ?_).2.2; exact q38_8); (case side2 => exact (Kd.R_reads' HO_117001.out).2.1); rintro e w55 ⟨rfl, hb⟩; refine ⟨_, rfl, ?_⟩; refine rn9 (Kd.R_below q38_8 hb) (Kd.R_below q38_14 hb) (Kd.R_below q38_15 hb) (blk_below (g := gb101) (o := .cells #[.string (⟨#[]⟩ : ByteArray), .slice none 0 0] 25 (0, 0)) q38_12 hb) (blk_below (g := gb116) (o := .cells #[.string (⟨#[65]⟩ : ByteArray), .slice Ao54 x117001_1.length co54] 25 (0, 0)) q38_13 hb) (IsS132.below (show IsS132 w0 ((w46.setCell ⟨gb134, 0, none⟩ (.string t125)).setCell ⟨gb134, 1, none⟩ (.string t132)) g s0_0 t133 from q38_1) hb) (blk_below (g := gb134) (o := .cells #[.string t125, .string t132] 46 (0, 0)) q38_11 hb) (KeepBut.trans q38_2 (KeepBut.of_below hb g none) (.inl rfl)) (below_step q38_3 hb) ?_; clear HO_117001 HO124 HO129 BK101 BK116 HI0 BK134 HK HB; intro HO_117001 HO124 HO129 BK101 BK116 HI0 BK134 HK HB; (try clear hb); (try clear hb2); (try clear hk); (try clear hi); have hcz56_0 : w55.cell? ⟨gb116, 0, none⟩ = some (.string (⟨#[65]⟩ : ByteArray)) := (blk_cell BK116.out 0).trans rfl; have hcz56_1 : w55.cell? ⟨gb116, 1, none⟩ = some (.slice Ao54 x117001_1.length co54) := (blk_cell BK116.out 1).trans rfl; have hfz56_0 := blk_frozen BK116.out 0; have hfz56_1 := blk_frozen BK116.out 1; have hcz57_0 : w55.cell? ⟨gb134, 0, none⟩ = some (.string t125) := (blk_cell BK134.out 0).trans rfl; have hcz57_1 : w55.cell? ⟨gb134, 1, none⟩ = some (.string t132) := (blk_cell BK134.out 1).trans rfl; have hfz57_0 := blk_frozen BK134.out 0; have hfz57_1 := blk_frozen BK134.out 1) | ((with_reducible refine gate_builtin (b := .append) (xs := #[.tmp 37, .tmp 39]) rfl ?_); at_builtin; refine Kd.R_append k46 w.heap.size rfl (.tmp 37) (.tmp 39) 23 46 (.agg #[(.string ⟨#[]⟩), (.string ⟨#[]⟩)]) 32 rfl Tryd.underlying23 info46 rfl (by decide) (by omega) (.slice Ao54 x117001_1.length co54) x117001_1 (⟨t125, t132⟩ : S46) [.string t125, .string t132] (fun k_ => k_ ≠ gb134) (fun _ => False) rfl rfl ?aP (fun _ hk => hk.elim) ?aF ?aO (Below.refl _ _) ?aS ?aL ?_; (case aP => exact k46_mkM _ _ _ (⟨t125, t132⟩ : S46)); (case aF => exact (fun k_ hk => Kd.freshB (g := gb134) (o := .cells #[.string t125, .string t132] 46 (0, 0)) q38_18 k_ hk)); (case aO => exact (by (with_reducible repeat (first | apply Kd.R_alloc | apply Kd.R_drewN | apply Kd.R_drew)); exact Kd.R_mono HO_117001.out (fun _ hk => hk.2))); (case aS => exact (keep_size (w := w) (g := g) (row := none) q38_2)); (case aL => have := LMc36.out; omega); intro v137 w58 ho hb hg hat; rw [← Ny136.out] at ho; refine rn9 (blk_grown (g := gb101) (o := .cells #[.string (⟨#[]⟩ : ByteArray), .slice none 0 0] 25 (0, 0)) q38_4 hg (Kd.R_ne HO_117001.out BK101.out (by decide))) (blk_grown (g := gb116) (o := .cells #[.string (⟨#[65]⟩ : ByteArray), .slice Ao54 x117001_1.length co54] 25 (0, 0)) q38_5 hg (Kd.R_ne HO_117001.out BK116.out (by decide))) (IsS132.grown q38_1 hg (IsS132.own_ne HI0.out HO_117001.out (by decide))) (Kd.R_over' q38_9 (Kd.R_typed q38_7) (by decide) hg) (Kd.R_over' q38_10 (Kd.R_typed q38_7) (by decide) hg) (blk_grown (g := gb134) (o := .cells #[.string t125, .string t132] 46 (0, 0)) q38_18 hg (Kd.R_away HO_117001.out (fun _ hk => hk.2))) (below_weaken q38_3 HL.out hb) (KeepBut.trans q38_2 (KeepBut.of_grown hg g) (Kd.R_base2 HO_117001.out)) (ho) ?_; clear BK101 BK116 HI0 HO124 HO129 BK134 HB HK HO_117001; intro BK101 BK116 HI0 HO124 HO129 BK134 HB HK HO138; clear ho hb hg hat; obtain ⟨Ao59, co59, eo59⟩ := Kd.R_slice HO138.out; subst eo59; have hcz60_0 : w58.cell? ⟨gb116, 0, none⟩ = some (.string (⟨#[65]⟩ : ByteArray)) := (blk_cell BK116.out 0).trans rfl; have hcz60_1 : w58.cell? ⟨gb116, 1, none⟩ = some (.slice Ao54 x117001_1.length co54) := (blk_cell BK116.out 1).trans rfl; have hfz60_0 := blk_frozen BK116.out 0; have hfz60_1 := blk_frozen BK116.out 1))
     go_roundg k1
     case measure => have := HK1.out; omega
     case rel => exact ⟨(wrap64 (x4_1 - 1)), (t133), (y136), (.slice Ao59 y136.length co59), q38_21, H', ⟨by have := HK1.out; omega⟩, ⟨by (with_reducible repeat (first | apply Kd.R_alloc | apply Kd.R_drewN | apply Kd.R_drew)); exact Kd.R_mono (Kd.R_far (p := ⟨gb116, 1, none⟩) (Kd.R_types HO138.out BK116.out (by decide)) (fun _ hk => hk.2) (.slice Ao59 y136.length co59)) (fun _ hk => trivial)⟩, ⟨by (with_reducible repeat (first | refine blk_drewN ?_ _ | refine blk_drew ?_ | refine blk_alloc ?_ _)); refine blk_far ?_ NB101_116.out _; (with_reducible repeat (first | refine blk_drewN ?_ _ | refine blk_drew ?_ | refine blk_alloc ?_ _)); exact BK101.out⟩, ⟨by (with_reducible repeat (first | refine blk_drewN ?_ _ | refine blk_drew ?_ | refine blk_alloc ?_ _)); refine blk_put (cs := #[.string (⟨#[65]⟩ : ByteArray), .slice Ao54 x117001_1.length co54]) ?_ 1 _ rfl; (with_reducible repeat (first | refine blk_drewN ?_ _ | refine blk_drew ?_ | refine blk_alloc ?_ _)); exact BK116.out⟩, ⟨by repeat (first | (with_reducible first | exact HI0.out | apply IsS132.alloc | apply IsS132.drewN | apply IsS132.drew | apply IsS132.set_1 | refine IsS132.far ?_ NB0_101.out _ | refine IsS132.far ?_ NB0_116.out _ | refine IsS132.far ?_ NB0_134.out _) | exact HI0.out)⟩, ⟨by repeat (first | (with_reducible first | exact HK.out | apply KeepBut.set_ | apply keep_drewN | apply keep_drew | apply keep_alloc | refine keep_far ?_ GW101.out _ | refine keep_far ?_ GW116.out _ | refine keep_far ?_ GW134.out _) | exact HK.out)⟩, ⟨by repeat (first | (with_reducible first | exact HB.out | apply below_alloc | apply pw_below_drewN | apply below_drew1 | refine below_set ?_ (IsS132.ge HI0.out) | refine below_set ?_ GE101.out | refine below_set ?_ GE116.out | refine below_set ?_ GE134.out) | exact HB.out)⟩⟩
    rw [if_neg c36] at H
    exact absurd H (by simp)
   rw [if_neg c35] at H
   have c35b0 : decide (t135 < 0) = false := decide_eq_false c35
   clear c35
   have H' := Aside0.mk H
   clear H
   go_wp2_with (first | ((with_reducible refine gate_dst (N := 23) rfl ?_); refine Kd.R_lit Kd.string _ 9 ?hg (N := 23) ?hd (xs := ([(⟨#[65]⟩ : ByteArray), (⟨#[65]⟩ : ByteArray), (⟨#[66]⟩ : ByteArray), (⟨#[67]⟩ : ByteArray)] : List ByteArray)) (inner := [.string (⟨#[65]⟩ : ByteArray), .string (⟨#[65]⟩ : ByteArray), .string (⟨#[66]⟩ : ByteArray), .string (⟨#[67]⟩ : ByteArray)]) (ok := fun _ => True) (okp := fun _ => True) ?hr ?hp (fun _ hk => hk) trivial (Below.refl _ _) (Nat.le_refl _) (by simp) ?_; (case hd => rfl); (case hg => rfl); (case hr => first | (go_simp; done) | (go_simp; rfl)); (case hp => exact (Reps.one (show Kd.M Kd.string _ _ _ (⟨#[65]⟩ : ByteArray) [.string (⟨#[65]⟩ : ByteArray)] from rfl) (Reps.one (show Kd.M Kd.string _ _ _ (⟨#[65]⟩ : ByteArray) [.string (⟨#[65]⟩ : ByteArray)] from rfl) (Reps.one (show Kd.M Kd.string _ _ _ (⟨#[66]⟩ : ByteArray) [.string (⟨#[66]⟩ : ByteArray)] from rfl) (Reps.one (show Kd.M Kd.string _ _ _ (⟨#[67]⟩ : ByteArray) [.string (⟨#[67]⟩ : ByteArray)] from rfl) (Reps.none _ _)))))); intro v123 w61 ho62 hb hg_ hnew_; clear hg_ hnew_; (first | rw [← Ny122.out] at ho62 | (simp only [Int.reduceToNat] at ho62; rw [← Ny122.out] at ho62)); refine rn7 (Kd.R_below q38_7 hb) (Kd.R_lower ho62 (keep_size (w := w) (g := g) (row := none) q38_2)) (blk_below (g := gb101) (o := .cells #[.string (⟨#[]⟩ : ByteArray), .slice none 0 0] 25 (0, 0)) q38_4 hb) (blk_below (g := gb116) (o := .cells #[.string (⟨#[65]⟩ : ByteArray), u117001] 25 (0, 0)) q38_5 hb) (IsS132.below q38_1 hb) (KeepBut.trans q38_2 (KeepBut.of_below hb g none) (.inl rfl)) (below_step q38_3 hb) ?_; clear HO_117001 BK101 BK116 HI0 HK HB; intro HO_117001 HO124 BK101 BK116 HI0 HK HB; clear hb ho62; obtain ⟨Ao63, co63, eo63⟩ := Kd.R_slice HO124.out; subst eo63) | ((with_reducible refine gate_callee (f := 85) rfl ?_); refine goesL_ (some 24) rfl rfl Tryd.func85 (by kernel_rfl) rfl #[.pointer (some ⟨g, 0, none⟩), .slice Ao63 y122.length co63] rfl q38_6 ?_; (with_reducible refine (spec_l17Rd_of.calls k1 g s0_0 x1001_1 _ _ y122 t125 t126 w0 _ ?side1 ?side2 ?side3 ?side4 ?side5 A31.out).mono ?_); (case side1 => exact q38_1); (case side2 => exact q38_3); (case side3 => exact q38_16); (case side4 => exact (Kd.R_reads' HO124.out).2.1); (case side5 => exact far_slice (IsS132.own_ne HI0.out HO124.out (by decide))); rintro e w64 ⟨rfl, hi, hb, hk⟩; refine ⟨_, rfl, ?_⟩; refine rn7 (Kd.R_mono (Kd.R_keep (IsS132.apart (show IsS132 w0 _ g s0_0 x1001_1 from q38_1) q38_7 (by decide)) hk (fun _ h => h.2)) (fun _ h => h.1)) (KeepBut.blk hk (g' := gb101) (o := .cells #[.string (⟨#[]⟩ : ByteArray), .slice none 0 0] 25 (0, 0)) q38_4 NB101_0.out (by simp)) (KeepBut.blk hk (g' := gb116) (o := .cells #[.string (⟨#[65]⟩ : ByteArray), u117001] 25 (0, 0)) q38_5 NB116_0.out (by simp)) (Kd.R_mono (Kd.R_keep (IsS132.apart (show IsS132 w0 _ g s0_0 x1001_1 from q38_1) q38_9 (by decide)) hk (fun _ h => h.2)) (fun _ h => h.1)) (KeepBut.trans q38_2 hk (.inl rfl)) (hb) (hi) ?_; clear HO_117001 BK101 BK116 HO124 HK HB HI0; intro HO_117001 BK101 BK116 HO124 HK HB HI0; (try clear hb); (try clear hb2); (try clear hk); (try clear hi)) | ((with_reducible refine gate_dst (N := 27) rfl ?_); refine Kd.R_lit (Kd.int .i64) _ 3 ?hg (N := 27) ?hd (xs := ([1, 2, 2, 0, 3] : List Int)) (inner := [.int .i64 1, .int .i64 2, .int .i64 2, .int .i64 0, .int .i64 3]) (ok := fun _ => True) (okp := fun _ => True) ?hr ?hp (fun _ hk => hk) trivial (Below.refl _ _) (Nat.le_refl _) (by simp) ?_; (case hd => rfl); (case hg => rfl); (case hr => first | (go_simp; done) | (go_simp; rfl)); (case hp => exact (Reps.one (show Kd.M (Kd.int .i64) _ _ _ 1 [.int .i64 1] from rfl) (Reps.one (show Kd.M (Kd.int .i64) _ _ _ 2 [.int .i64 2] from rfl) (Reps.one (show Kd.M (Kd.int .i64) _ _ _ 2 [.int .i64 2] from rfl) (Reps.one (show Kd.M (Kd.int .i64) _ _ _ 0 [.int .i64 0] from rfl) (Reps.one (show Kd.M (Kd.int .i64) _ _ _ 3 [.int .i64 3] from rfl) (Reps.none _ _))))))); intro v128 w65 ho66 hb hg_ hnew_; clear hg_ hnew_; (first | rw [← Ny127.out] at ho66 | (simp only [Int.reduceToNat] at ho66; rw [← Ny127.out] at ho66)); refine rn8 (Kd.R_below q38_7 hb) (Kd.R_below q38_9 hb) (Kd.R_lower ho66 (keep_size (w := w) (g := g) (row := none) q38_2)) (blk_below (g := gb101) (o := .cells #[.string (⟨#[]⟩ : ByteArray), .slice none 0 0] 25 (0, 0)) q38_4 hb) (blk_below (g := gb116) (o := .cells #[.string (⟨#[65]⟩ : ByteArray), u117001] 25 (0, 0)) q38_5 hb) (IsS132.below q38_1 hb) (KeepBut.trans q38_2 (KeepBut.of_below hb g none) (.inl rfl)) (below_step q38_3 hb) ?_; clear HO_117001 HO124 BK101 BK116 HI0 HK HB; intro HO_117001 HO124 HO129 BK101 BK116 HI0 HK HB; clear hb ho66; obtain ⟨Ao67, co67, eo67⟩ := Kd.R_slice HO129.out; subst eo67) | ((with_reducible refine gate_callee (f := 101) rfl ?_); refine goesL_ (some 28) rfl rfl Tryd.func101 (by kernel_rfl) rfl #[.pointer (some ⟨g, 0, none⟩), .slice Ao67 y127.length co67] rfl q38_6 ?_; (with_reducible refine (spec_l17Rd_num.calls k1 g s0_0 t126 _ _ y127 t130 t131 w0 _ ?side1 ?side2 ?side3 ?side4 ?side5 A32.out).mono ?_); (case side1 => exact q38_1); (case side2 => exact q38_3); (case side3 => exact q38_17); (case side4 => exact (Kd.R_reads' HO129.out).2.1); (case side5 => exact far_slice (IsS132.own_ne HI0.out HO129.out (by decide))); rintro e w68 ⟨rfl, hi, hb, hk⟩; refine ⟨_, rfl, ?_⟩; refine rn8 (Kd.R_mono (Kd.R_keep (IsS132.apart (show IsS132 w0 _ g s0_0 t126 from q38_1) q38_7 (by decide)) hk (fun _ h => h.2)) (fun _ h => h.1)) (KeepBut.blk hk (g' := gb101) (o := .cells #[.string (⟨#[]⟩ : ByteArray), .slice none 0 0] 25 (0, 0)) q38_4 NB101_0.out (by simp)) (KeepBut.blk hk (g' := gb116) (o := .cells #[.string (⟨#[65]⟩ : ByteArray), u117001] 25 (0, 0)) q38_5 NB116_0.out (by simp)) (Kd.R_mono (Kd.R_keep (IsS132.apart (show IsS132 w0 _ g s0_0 t126 from q38_1) q38_9 (by decide)) hk (fun _ h => h.2)) (fun _ h => h.1)) (Kd.R_mono (Kd.R_keep (IsS132.apart (show IsS132 w0 _ g s0_0 t126 from q38_1) q38_10 (by decide)) hk (fun _ h => h.2)) (fun _ h => h.1)) (KeepBut.trans q38_2 hk (.inl rfl)) (hb) (hi) ?_; clear HO_117001 BK101 BK116 HO124 HO129 HK HB HI0; intro HO_117001 BK101 BK116 HO124 HO129 HK HB HI0; (try clear hb); (try clear hb2); (try clear hk); (try clear hi)) | ((with_reducible refine gate_callee (f := 136) rfl ?_); refine goesL_ (some 29) rfl rfl Tryd.func136 (by kernel_rfl) rfl #[.pointer (some ⟨g, 0, none⟩), .int .i64 t130] rfl q38_6 ?_; (with_reducible refine (spec_l1Signed.calls k1 g s0_0 t131 t130 t132 t133 w0 _ ?side1 ?side2 A33.out).mono ?_); (case side1 => exact q38_1); (case side2 => exact q38_3); rintro e w69 ⟨rfl, hi, hb, hk⟩; refine ⟨_, rfl, ?_⟩; refine rn8 (Kd.R_mono (Kd.R_keep (IsS132.apart (show IsS132 w0 _ g s0_0 t131 from q38_1) q38_7 (by decide)) hk (fun _ h => h.2)) (fun _ h => h.1)) (KeepBut.blk hk (g' := gb101) (o := .cells #[.string (⟨#[]⟩ : ByteArray), .slice none 0 0] 25 (0, 0)) q38_4 NB101_0.out (by simp)) (KeepBut.blk hk (g' := gb116) (o := .cells #[.string (⟨#[65]⟩ : ByteArray), u117001] 25 (0, 0)) q38_5 NB116_0.out (by simp)) (Kd.R_mono (Kd.R_keep (IsS132.apart (show IsS132 w0 _ g s0_0 t131 from q38_1) q38_9 (by decide)) hk (fun _ h => h.2)) (fun _ h => h.1)) (Kd.R_mono (Kd.R_keep (IsS132.apart (show IsS132 w0 _ g s0_0 t131 from q38_1) q38_10 (by decide)) hk (fun _ h => h.2)) (fun _ h => h.1)) (KeepBut.trans q38_2 hk (.inl rfl)) (hb) (hi) ?_; clear HO_117001 BK101 BK116 HO124 HO129 HK HB HI0; intro HO_117001 BK101 BK116 HO124 HO129 HK HB HI0; (try clear hb); (try clear hb2); (try clear hk); (try clear hi)) | ((with_reducible refine gate_dst (N := 5) rfl ?_); refine box_event ?hg (N := 5) ?hd (cs := #[.string (⟨#[]⟩ : ByteArray), .string (⟨#[]⟩ : ByteArray)]) (t := 46) ?hr ?_; (case hd => rfl); (case hg => rfl); (case hr => first | (go_simp; done) | (go_simp; rfl)); intro gb134 hg w70 hbox hb; refine rn17 (Kd.R_below (Kd.R_elderB q38_7 gb134 (Nat.le_of_eq hg.symm)) hb) (Kd.R_below q38_9 hb) (Kd.R_below q38_10 hb) (blk_below (g := gb101) (o := .cells #[.string (⟨#[]⟩ : ByteArray), .slice none 0 0] 25 (0, 0)) q38_4 hb) (blk_below (g := gb116) (o := .cells #[.string (⟨#[65]⟩ : ByteArray), u117001] 25 (0, 0)) q38_5 hb) (IsS132.below q38_1 hb) (KeepBut.trans q38_2 (KeepBut.of_below hb g none) (.inl rfl)) (below_step q38_3 hb) (hbox) ((by rw [hg]; exact (keep_size (w := w) (g := g) (row := none) q38_2) : w.heap.size ≤ gb134)) ((Nat.le_trans HW0.out (by rw [hg]; exact (keep_size (w := w) (g := g) (row := none) q38_2) : w.heap.size ≤ gb134) : w0.heap.size ≤ gb134)) ((by rw [hg]; exact Nat.ne_of_lt (blk_lt (g := gb101) (o := .cells #[.string (⟨#[]⟩ : ByteArray), .slice none 0 0] 25 (0, 0)) q38_4) : gb101 ≠ gb134)) ((by rw [hg]; exact Nat.ne_of_gt (blk_lt (g := gb101) (o := .cells #[.string (⟨#[]⟩ : ByteArray), .slice none 0 0] 25 (0, 0)) q38_4) : gb134 ≠ gb101)) ((by rw [hg]; exact Nat.ne_of_lt (blk_lt (g := gb116) (o := .cells #[.string (⟨#[65]⟩ : ByteArray), u117001] 25 (0, 0)) q38_5) : gb116 ≠ gb134)) ((by rw [hg]; exact Nat.ne_of_gt (blk_lt (g := gb116) (o := .cells #[.string (⟨#[65]⟩ : ByteArray), u117001] 25 (0, 0)) q38_5) : gb134 ≠ gb116)) ((by rw [hg]; exact Nat.ne_of_lt (IsS132.lt (show IsS132 w0 _ g s0_0 t133 from q38_1)) : g ≠ gb134)) ((by rw [hg]; exact Nat.ne_of_gt (IsS132.lt (show IsS132 w0 _ g s0_0 t133 from q38_1)) : gb134 ≠ g)) ?_; clear HO_117001 HO124 HO129 BK101 BK116 HI0 HK HB; intro HO_117001 HO124 HO129 BK101 BK116 HI0 HK HB BK134 GW134 GE134 NB101_134 NB134_101 NB116_134 NB134_116 NB0_134 NB134_0; clear hb hbox hg; have hnb71 := NB134_101.out; have hnc71 := NB101_134.out; have hnb72 := NB134_116.out; have hnc72 := NB116_134.out; have hnb73 := NB134_0.out; have hnc73 := NB0_134.out; have hcz74_0 : w70.cell? ⟨gb134, 0, none⟩ = some (.string (⟨#[]⟩ : ByteArray)) := (blk_cell BK134.out 0).trans rfl; have hcz74_1 : w70.cell? ⟨gb134, 1, none⟩ = some (.string (⟨#[]⟩ : ByteArray)) := (blk_cell BK134.out 1).trans rfl; have hfz74_0 := blk_frozen BK134.out 0; have hfz74_1 := blk_frozen BK134.out 1; have hnb75 := NB116_101.out; have hnc75 := NB101_116.out; have hnb76 := NB116_0.out; have hnc76 := NB0_116.out; have hcz77_0 : w70.cell? ⟨gb116, 0, none⟩ = some (.string (⟨#[65]⟩ : ByteArray)) := (blk_cell BK116.out 0).trans rfl; have hcz77_1 : w70.cell? ⟨gb116, 1, none⟩ = some (u117001) := (blk_cell BK116.out 1).trans rfl; have hfz77_0 := blk_frozen BK116.out 0; have hfz77_1 := blk_frozen BK116.out 1; obtain ⟨Ao78, co78, eo78⟩ := Kd.R_slice HO_117001.out; subst eo78) | ((with_reducible refine gate_callee (f := 76) rfl ?_); refine goesL_ (some 34) rfl rfl Tryd.func76 (by kernel_rfl) rfl #[.slice Ao78 x117001_1.length co78, .agg #[.string t125, .string t132]] rfl q38_6 ?_; (with_reducible refine (spec_l1Place.calls k1 _ _ x117001_1 t125 t132 t135 _ ?side1 ?side2 A34.out).mono ?_); (case side1 => refine (Kd.R_reads' (e := 46) (base := w.heap.size) (ok := fun k_ => (True ∧ k_ ≠ gb134)) (n := x117001_1.length) (c := co78) ?_).2.2; exact q38_8); (case side2 => exact (Kd.R_reads' HO_117001.out).2.1); rintro e w79 ⟨rfl, hb⟩; refine ⟨_, rfl, ?_⟩; refine rn9 (Kd.R_below q38_8 hb) (Kd.R_below q38_14 hb) (Kd.R_below q38_15 hb) (blk_below (g := gb101) (o := .cells #[.string (⟨#[]⟩ : ByteArray), .slice none 0 0] 25 (0, 0)) q38_12 hb) (blk_below (g := gb116) (o := .cells #[.string (⟨#[65]⟩ : ByteArray), .slice Ao78 x117001_1.length co78] 25 (0, 0)) q38_13 hb) (IsS132.below (show IsS132 w0 ((w70.setCell ⟨gb134, 0, none⟩ (.string t125)).setCell ⟨gb134, 1, none⟩ (.string t132)) g s0_0 t133 from q38_1) hb) (blk_below (g := gb134) (o := .cells #[.string t125, .string t132] 46 (0, 0)) q38_11 hb) (KeepBut.trans q38_2 (KeepBut.of_below hb g none) (.inl rfl)) (below_step q38_3 hb) ?_; clear HO_117001 HO124 HO129 BK101 BK116 HI0 BK134 HK HB; intro HO_117001 HO124 HO129 BK101 BK116 HI0 BK134 HK HB; (try clear hb); (try clear hb2); (try clear hk); (try clear hi)))
   go_roundg k1
   case measure => have := HK1.out; omega
   case rel => exact ⟨(wrap64 (x4_1 - 1)), (t133), (x117001_1), (.slice Ao78 x117001_1.length co78), q38_21, H', ⟨by have := HK1.out; omega⟩, ⟨by (with_reducible repeat (first | apply Kd.R_alloc | apply Kd.R_drewN | apply Kd.R_drew)); exact Kd.R_mono HO_117001.out (fun _ hk => trivial)⟩, ⟨by (with_reducible repeat (first | refine blk_drewN ?_ _ | refine blk_drew ?_ | refine blk_alloc ?_ _)); exact BK101.out⟩, ⟨by (with_reducible repeat (first | refine blk_drewN ?_ _ | refine blk_drew ?_ | refine blk_alloc ?_ _)); exact BK116.out⟩, ⟨by repeat (first | (with_reducible first | exact HI0.out | apply IsS132.alloc | apply IsS132.drewN | apply IsS132.drew | apply IsS132.set_1 | refine IsS132.far ?_ NB0_101.out _ | refine IsS132.far ?_ NB0_116.out _ | refine IsS132.far ?_ NB0_134.out _) | exact HI0.out)⟩, ⟨by repeat (first | (with_reducible first | exact HK.out | apply KeepBut.set_ | apply keep_drewN | apply keep_drew | apply keep_alloc | refine keep_far ?_ GW101.out _ | refine keep_far ?_ GW116.out _ | refine keep_far ?_ GW134.out _) | exact HK.out)⟩, ⟨by repeat (first | (with_reducible first | exact HB.out | apply below_alloc | apply pw_below_drewN | apply below_drew1 | refine below_set ?_ (IsS132.ge HI0.out) | refine below_set ?_ GE101.out | refine below_set ?_ GE116.out | refine below_set ?_ GE134.out) | exact HB.out)⟩⟩
/-! ### spec_DrawAllWords: function 46 -/
def spec_DrawAllWords.f (k : Nat) (l0 : List Int) : Option (ByteArray × (List (S46)) × Int) := (spec_l17Open.f l0).bind fun bt102 => ((spec_l1Gram.f k bt102.1 bt102.2).bind fun bt105 => ((spec_l1Bent.f k bt102.1 bt105.2.2 bt105.1 bt105.2.1).bind fun bt110 => ((spec_l17Rd_num.f k bt102.1 bt110.2.2 (([2, 3, 1, 0, 4, (-1), 5] : List Int))).bind fun bt118 => (some (bt110.1, bt110.2.1, bt118.1)))))
theorem spec_DrawAllWords.mono : ∀ a0 k, LeO (spec_DrawAllWords.f k a0) (spec_DrawAllWords.f (k + 1) a0) := by
 intro a0 k
 unfold spec_DrawAllWords.f
 repeat' first
   | (with_reducible exact spec_l17Rd_num.mono _ _ _ _)
   | (with_reducible exact spec_l1Bent.mono _ _ _ _ _)
   | (with_reducible exact spec_l1Gram.mono _ _ _)
   | (with_reducible exact LeO.refl _)
   | (with_reducible exact LeO.none _)
   | (with_reducible refine LeO.ite ?_ ?_)
   | (with_reducible refine LeO.bind ?_ (fun _ => ?_))
   | exact spec_l17Rd_num.mono _ _ _ _
   | exact spec_l1Bent.mono _ _ _ _ _
   | exact spec_l1Gram.mono _ _ _
   | exact LeO.none _
   | refine LeO.ite ?_ ?_
   | refine LeO.bind ?_ (fun _ => ?_)
set_option maxHeartbeats 8000000 in
set_option maxRecDepth 100000 in
theorem spec_DrawAllWords.calls (k : Nat) (A0 : Option Addr) (c0 : Nat) (l0 : List Int) (r1 : ByteArray) (r2 : List (S46)) (r3 : Int) (w : World) (hr0 : Kd.C (Kd.int .u8) w A0 l0.length l0) (hc0 : l0.length ≤ c0) (h : spec_DrawAllWords.f k l0 = some (r1, r2, r3)) :
  Calls Tryd.prog 46 #[.slice A0 l0.length c0] w fun e w' => ∃ v1_ : Value, e = .returned (.tuple #[.agg #[.string r1, v1_], .int .i64 r3]) ∧ Kd.R k46 46 w' w.heap.size (fun _ => True) v1_ r2 ∧ Below w.heap.size w w' := by
 have hu25 := Tryd.underlying25
 have HR0 := Aside0.mk hr0
 have HC0 := Aside0.mk hc0
 clear hr0 hc0
 have HB := Aside0.mk (Below.refl w.heap.size w)
 have H : ((spec_l17Open.f l0).bind fun bt102 => ((spec_l1Gram.f k bt102.1 bt102.2).bind fun bt105 => ((spec_l1Bent.f k bt102.1 bt105.2.2 bt105.1 bt105.2.1).bind fun bt110 => ((spec_l17Rd_num.f k bt102.1 bt110.2.2 (([2, 3, 1, 0, 4, (-1), 5] : List Int))).bind fun bt118 => (some (bt110.1, bt110.2.1, bt118.1)))))) = some (r1, r2, r3) := h
 clear h
 replace H := Option.bind_eq_some_iff.mp H
 obtain ⟨⟨t102, t103⟩, A20, H⟩ := H
 replace H : ((spec_l1Gram.f k t102 t103).bind fun bt105 => ((spec_l1Bent.f k t102 bt105.2.2 bt105.1 bt105.2.1).bind fun bt110 => ((spec_l17Rd_num.f k t102 bt110.2.2 (([2, 3, 1, 0, 4, (-1), 5] : List Int))).bind fun bt118 => (some (bt110.1, bt110.2.1, bt118.1))))) = some (r1, r2, r3) := H
 have A2 := Aside0.mk A20
 clear A20
 replace H := Option.bind_eq_some_iff.mp H
 obtain ⟨⟨t105, t106, t109⟩, A30, H⟩ := H
 replace H : ((spec_l1Bent.f k t102 t109 t105 t106).bind fun bt110 => ((spec_l17Rd_num.f k t102 bt110.2.2 (([2, 3, 1, 0, 4, (-1), 5] : List Int))).bind fun bt118 => (some (bt110.1, bt110.2.1, bt118.1)))) = some (r1, r2, r3) := H
 have A3 := Aside0.mk A30
 clear A30
 replace H := Option.bind_eq_some_iff.mp H
 obtain ⟨⟨t110, t111, t114⟩, A40, H⟩ := H
 replace H : ((spec_l17Rd_num.f k t102 t114 (([2, 3, 1, 0, 4, (-1), 5] : List Int))).bind fun bt118 => (some (t110, t111, bt118.1))) = some (r1, r2, r3) := H
 have A4 := Aside0.mk A40
 clear A40
 obtain ⟨y115, hy115⟩ : ∃ y_ : List Int, y_ = (([2, 3, 1, 0, 4, (-1), 5] : List Int)) := ⟨_, rfl⟩
 replace H : ((spec_l17Rd_num.f k t102 t114 y115).bind fun bt118 => (some (t110, t111, bt118.1))) = some (r1, r2, r3) := by first | (rw [hy115]; with_reducible exact H) | (have H2_ := (Option.bind_some _ _).symm.trans H; rw [hy115]; with_reducible exact H2_) | (have H2_ := (Option.bind_some _ _).symm.trans H; with_reducible exact H2_) | with_reducible exact H | (rw [hy115]; exact H) | exact H
 have Ny115 := Aside0.mk hy115
 clear hy115
 replace H := Option.bind_eq_some_iff.mp H
 obtain ⟨⟨t118, t119⟩, A50, H⟩ := H
 replace H : (some (t110, t111, t118)) = some (r1, r2, r3) := H
 have A5 := Aside0.mk A50
 clear A50
 simp only [Option.some.injEq, Prod.mk.injEq] at H
 obtain ⟨rfl, rfl, rfl⟩ := H
 go_enter Tryd.func46, Tryd.ntmps46
 go_wp2_with (first | ((with_reducible refine gate_dst (N := 2) rfl ?_); refine box_event ?hg (N := 2) ?hd (cs := #[.string (⟨#[]⟩ : ByteArray), .slice none 0 0]) (t := 25) ?hr ?_; (case hd => rfl); (case hg => rfl); (case hr => first | (go_simp; done) | (go_simp; rfl)); intro gb101 hg w6 hbox hb; refine rn4 (below_step (by repeat (first | (with_reducible first | exact HB.out | apply below_alloc | apply pw_below_drewN | apply below_drew1) | exact HB.out)) hb) (hbox) ((by rw [hg]; exact (below_size (by repeat (first | (with_reducible first | exact HB.out | apply below_alloc | apply pw_below_drewN | apply below_drew1) | exact HB.out))) : w.heap.size ≤ gb101)) ((by rw [hg]; exact (below_size (by repeat (first | (with_reducible first | exact HB.out | apply below_alloc | apply pw_below_drewN | apply below_drew1) | exact HB.out))) : w.heap.size ≤ gb101)) ?_; clear HB; intro HB BK101 GW101 GE101; clear hb hbox hg) | ((with_reducible refine gate_callee (f := 82) rfl ?_); refine goesL_ (some 6) rfl rfl Tryd.func82 (by kernel_rfl) rfl #[.slice A0 l0.length c0] rfl (by (try simp only [List.map_toArray, List.map_cons, List.map_nil]); first | done | rfl | (simp only [List.length_drop, List.length_take]; rfl)) ?_; (with_reducible refine (spec_l17Open.calls _ _ l0 t102 t103 w _ ?side1 ?side2 ?side3 A2.out).mono ?_); (case side1 => repeat (first | (with_reducible first | exact HB.out | apply below_alloc | apply pw_below_drewN | apply below_drew1 | refine below_set ?_ GE101.out) | exact HB.out)); (case side2 => exact HR0.out); (case side3 => exact HC0.out); rintro e w7 ⟨g104, rfl, hi, hb, hb2⟩; refine ⟨_, rfl, ?_⟩; refine rn5 (blk_below (g := gb101) (o := .cells #[.string (⟨#[]⟩ : ByteArray), .slice none 0 0] 25 (0, 0)) (by (with_reducible repeat (first | refine blk_drewN ?_ _ | refine blk_drew ?_ | refine blk_alloc ?_ _)); exact BK101.out) hb2) (hb) (hi) (IsS132.ne_blk hi (blk_below (g := gb101) (o := .cells #[.string (⟨#[]⟩ : ByteArray), .slice none 0 0] 25 (0, 0)) (by (with_reducible repeat (first | refine blk_drewN ?_ _ | refine blk_drew ?_ | refine blk_alloc ?_ _)); exact BK101.out) hb2) (by decide)) (Ne.symm (IsS132.ne_blk hi (blk_below (g := gb101) (o := .cells #[.string (⟨#[]⟩ : ByteArray), .slice none 0 0] 25 (0, 0)) (by (with_reducible repeat (first | refine blk_drewN ?_ _ | refine blk_drew ?_ | refine blk_alloc ?_ _)); exact BK101.out) hb2) (by decide))) ?_; clear BK101 HB; intro BK101 HB HI104 NB104_101 NB101_104; (try clear hb); (try clear hb2); (try clear hk); (try clear hi)) | ((with_reducible refine gate_callee (f := 100) rfl ?_); refine goesL_ (some 9) rfl rfl Tryd.func100 (by kernel_rfl) rfl #[.pointer (some ⟨g104, 0, none⟩)] rfl (by (try simp only [List.map_toArray, List.map_cons, List.map_nil]); first | done | rfl | (simp only [List.length_drop, List.length_take]; rfl)) ?_; (with_reducible refine (spec_l1Gram.calls k g104 t102 t103 t105 t106 t109 w _ ?side1 ?side2 A3.out).mono ?_); (case side1 => repeat (first | (with_reducible first | exact HI104.out | apply IsS132.alloc | apply IsS132.drewN | apply IsS132.drew | apply IsS132.set_1 | refine IsS132.far ?_ NB104_101.out _) | exact HI104.out)); (case side2 => repeat (first | (with_reducible first | exact HB.out | apply below_alloc | apply pw_below_drewN | apply below_drew1 | refine below_set ?_ (IsS132.ge HI104.out) | refine below_set ?_ GE101.out) | exact HB.out)); rintro e w8 ⟨v107, rfl, ho0, hi, hb, hk⟩; refine ⟨_, rfl, ?_⟩; refine rn4 (KeepBut.blk hk (g' := gb101) (o := .cells #[.string (⟨#[]⟩ : ByteArray), .slice none 0 0] 25 (0, 0)) (by (with_reducible repeat (first | refine blk_drewN ?_ _ | refine blk_drew ?_ | refine blk_alloc ?_ _)); exact BK101.out) NB101_104.out (by simp)) (Kd.R_lower ho0 (below_size (by repeat (first | (with_reducible first | exact HB.out | apply below_alloc | apply pw_below_drewN | apply below_drew1 | refine below_set ?_ (IsS132.ge HI104.out) | refine below_set ?_ GE101.out) | exact HB.out)))) (hb) (hi) ?_; clear BK101 HB HI104; intro BK101 HO108 HB HI104; (try clear hb); (try clear hb2); (try clear hk); (try clear hi); (try clear ho0); obtain ⟨Ao9, co9, eo9⟩ := Kd.R_slice HO108.out; subst eo9) | ((with_reducible refine gate_callee (f := 99) rfl ?_); refine goesL_ (some 10) rfl rfl Tryd.func99 (by kernel_rfl) rfl #[.pointer (some ⟨g104, 0, none⟩), .agg #[.string t105, .slice Ao9 t106.length co9]] rfl (by (try simp only [List.map_toArray, List.map_cons, List.map_nil]); first | done | rfl | (simp only [List.length_drop, List.length_take]; rfl)) ?_; (with_reducible refine (spec_l1Bent.calls k g104 t102 t109 t105 _ _ t106 t110 t111 t114 w _ ?side1 ?side2 ?side3 ?side4 A4.out).mono ?_); (case side1 => repeat (first | (with_reducible first | exact HI104.out | apply IsS132.alloc | apply IsS132.drewN | apply IsS132.drew | apply IsS132.set_1 | refine IsS132.far ?_ NB104_101.out _) | exact HI104.out)); (case side2 => repeat (first | (with_reducible first | exact HB.out | apply below_alloc | apply pw_below_drewN | apply below_drew1 | refine below_set ?_ (IsS132.ge HI104.out) | refine below_set ?_ GE101.out) | exact HB.out)); (case side3 => exact Kd.C_foot_own (IsS132.apart (show IsS132 w _ g104 t102 t109 from by repeat (first | (with_reducible first | exact HI104.out | apply IsS132.alloc | apply IsS132.drewN | apply IsS132.drew | apply IsS132.set_1 | refine IsS132.far ?_ NB104_101.out _) | exact HI104.out)) (by (with_reducible repeat (first | apply Kd.R_alloc | apply Kd.R_drewN | apply Kd.R_drew)); exact HO108.out) (by decide)) (fun _ h_ => h_.2)); (case side4 => exact (Kd.R_reads' HO108.out).2.1); rintro e w10 ⟨v112, rfl, ho0, hi, hb, hk⟩; refine ⟨_, rfl, ?_⟩; refine rn5 (KeepBut.blk hk (g' := gb101) (o := .cells #[.string (⟨#[]⟩ : ByteArray), .slice none 0 0] 25 (0, 0)) (by (with_reducible repeat (first | refine blk_drewN ?_ _ | refine blk_drew ?_ | refine blk_alloc ?_ _)); exact BK101.out) NB101_104.out (by simp)) (Kd.R_mono (Kd.R_told (Kd.R_oldK (IsS132.apart (show IsS132 w _ g104 t102 t109 from by repeat (first | (with_reducible first | exact HI104.out | apply IsS132.alloc | apply IsS132.drewN | apply IsS132.drew | apply IsS132.set_1 | refine IsS132.far ?_ NB104_101.out _) | exact HI104.out)) (by (with_reducible repeat (first | apply Kd.R_alloc | apply Kd.R_drewN | apply Kd.R_drew)); exact HO108.out) (by decide)) hk) (Kd.R_base ho0)) (fun _ h_ => h_.1)) (Kd.R_lower (Kd.R_new' ho0 (Kd.R_lt (by (with_reducible repeat (first | apply Kd.R_alloc | apply Kd.R_drewN | apply Kd.R_drew)); exact HO108.out))) (below_size (by repeat (first | (with_reducible first | exact HB.out | apply below_alloc | apply pw_below_drewN | apply below_drew1 | refine below_set ?_ (IsS132.ge HI104.out) | refine below_set ?_ GE101.out) | exact HB.out)))) (hb) (hi) ?_; clear BK101 HO108 HB HI104; intro BK101 HO108 HO113 HB HI104; (try clear hb); (try clear hb2); (try clear hk); (try clear hi); (try clear ho0)) | ((with_reducible refine gate_dst (N := 12) rfl ?_); refine Kd.R_lit (Kd.int .i64) _ 3 ?hg (N := 12) ?hd (xs := ([2, 3, 1, 0, 4, (-1), 5] : List Int)) (inner := [.int .i64 2, .int .i64 3, .int .i64 1, .int .i64 0, .int .i64 4, .int .i64 (-1), .int .i64 5]) (ok := fun _ => True) (okp := fun _ => True) ?hr ?hp (fun _ hk => hk) trivial (Below.refl _ _) (Nat.le_refl _) (by simp) ?_; (case hd => rfl); (case hg => rfl); (case hr => first | (go_simp; done) | (go_simp; rfl)); (case hp => exact (Reps.one (show Kd.M (Kd.int .i64) _ _ _ 2 [.int .i64 2] from rfl) (Reps.one (show Kd.M (Kd.int .i64) _ _ _ 3 [.int .i64 3] from rfl) (Reps.one (show Kd.M (Kd.int .i64) _ _ _ 1 [.int .i64 1] from rfl) (Reps.one (show Kd.M (Kd.int .i64) _ _ _ 0 [.int .i64 0] from rfl) (Reps.one (show Kd.M (Kd.int .i64) _ _ _ 4 [.int .i64 4] from rfl) (Reps.one (show Kd.M (Kd.int .i64) _ _ _ (-1) [.int .i64 (-1)] from rfl) (Reps.one (show Kd.M (Kd.int .i64) _ _ _ 5 [.int .i64 5] from rfl) (Reps.none _ _))))))))); intro v116 w11 ho12 hb hg_ hnew_; clear hg_ hnew_; (first | rw [← Ny115.out] at ho12 | (simp only [Int.reduceToNat] at ho12; rw [← Ny115.out] at ho12)); refine rn6 (Kd.R_below (by (with_reducible repeat (first | apply Kd.R_alloc | apply Kd.R_drewN | apply Kd.R_drew)); exact HO108.out) hb) (Kd.R_below (by (with_reducible repeat (first | apply Kd.R_alloc | apply Kd.R_drewN | apply Kd.R_drew)); exact HO113.out) hb) (Kd.R_lower ho12 (below_size (by repeat (first | (with_reducible first | exact HB.out | apply below_alloc | apply pw_below_drewN | apply below_drew1 | refine below_set ?_ (IsS132.ge HI104.out) | refine below_set ?_ GE101.out) | exact HB.out)))) (blk_below (g := gb101) (o := .cells #[.string (⟨#[]⟩ : ByteArray), .slice none 0 0] 25 (0, 0)) (by (with_reducible repeat (first | refine blk_drewN ?_ _ | refine blk_drew ?_ | refine blk_alloc ?_ _)); exact BK101.out) hb) (IsS132.below (by repeat (first | (with_reducible first | exact HI104.out | apply IsS132.alloc | apply IsS132.drewN | apply IsS132.drew | apply IsS132.set_1 | refine IsS132.far ?_ NB104_101.out _) | exact HI104.out)) hb) (below_step (by repeat (first | (with_reducible first | exact HB.out | apply below_alloc | apply pw_below_drewN | apply below_drew1 | refine below_set ?_ (IsS132.ge HI104.out) | refine below_set ?_ GE101.out) | exact HB.out)) hb) ?_; clear HO108 HO113 BK101 HI104 HB; intro HO108 HO113 HO117 BK101 HI104 HB; clear hb ho12; obtain ⟨Ao13, co13, eo13⟩ := Kd.R_slice HO117.out; subst eo13) | ((with_reducible refine gate_callee (f := 101) rfl ?_); refine goesL_ (some 13) rfl rfl Tryd.func101 (by kernel_rfl) rfl #[.pointer (some ⟨g104, 0, none⟩), .slice Ao13 y115.length co13] rfl (by (try simp only [List.map_toArray, List.map_cons, List.map_nil]); first | done | rfl | (simp only [List.length_drop, List.length_take]; rfl)) ?_; (with_reducible refine (spec_l17Rd_num.calls k g104 t102 t114 _ _ y115 t118 t119 w _ ?side1 ?side2 ?side3 ?side4 ?side5 A5.out).mono ?_); (case side1 => repeat (first | (with_reducible first | exact HI104.out | apply IsS132.alloc | apply IsS132.drewN | apply IsS132.drew | apply IsS132.set_1 | refine IsS132.far ?_ NB104_101.out _) | exact HI104.out)); (case side2 => repeat (first | (with_reducible first | exact HB.out | apply below_alloc | apply pw_below_drewN | apply below_drew1 | refine below_set ?_ (IsS132.ge HI104.out) | refine below_set ?_ GE101.out) | exact HB.out)); (case side3 => repeat (first | exact (Kd.R_reads' HO117.out).2.2 | (with_reducible refine Kd.C_alloc ?_ _) | (with_reducible refine Kd.C_drewN ?_ _) | (with_reducible refine Kd.C_drew ?_))); (case side4 => exact (Kd.R_reads' HO117.out).2.1); (case side5 => exact far_slice (IsS132.own_ne HI104.out HO117.out (by decide))); rintro e w14 ⟨rfl, hi, hb, hk⟩; refine ⟨_, rfl, ?_⟩; refine rn6 (KeepBut.blk hk (g' := gb101) (o := .cells #[.string (⟨#[]⟩ : ByteArray), .slice none 0 0] 25 (0, 0)) (by (with_reducible repeat (first | refine blk_drewN ?_ _ | refine blk_drew ?_ | refine blk_alloc ?_ _)); exact BK101.out) NB101_104.out (by simp)) (Kd.R_mono (Kd.R_keep (IsS132.apart (show IsS132 w _ g104 t102 t114 from by repeat (first | (with_reducible first | exact HI104.out | apply IsS132.alloc | apply IsS132.drewN | apply IsS132.drew | apply IsS132.set_1 | refine IsS132.far ?_ NB104_101.out _) | exact HI104.out)) (by (with_reducible repeat (first | apply Kd.R_alloc | apply Kd.R_drewN | apply Kd.R_drew)); exact HO108.out) (by decide)) hk (fun _ h => h.2)) (fun _ h => h.1)) (Kd.R_mono (Kd.R_keep (IsS132.apart (show IsS132 w _ g104 t102 t114 from by repeat (first | (with_reducible first | exact HI104.out | apply IsS132.alloc | apply IsS132.drewN | apply IsS132.drew | apply IsS132.set_1 | refine IsS132.far ?_ NB104_101.out _) | exact HI104.out)) (by (with_reducible repeat (first | apply Kd.R_alloc | apply Kd.R_drewN | apply Kd.R_drew)); exact HO113.out) (by decide)) hk (fun _ h => h.2)) (fun _ h => h.1)) (Kd.R_mono (Kd.R_keep (IsS132.apart (show IsS132 w _ g104 t102 t114 from by repeat (first | (with_reducible first | exact HI104.out | apply IsS132.alloc | apply IsS132.drewN | apply IsS132.drew | apply IsS132.set_1 | refine IsS132.far ?_ NB104_101.out _) | exact HI104.out)) (by (with_reducible repeat (first | apply Kd.R_alloc | apply Kd.R_drewN | apply Kd.R_drew)); exact HO117.out) (by decide)) hk (fun _ h => h.2)) (fun _ h => h.1)) (hb) (hi) ?_; clear BK101 HO108 HO113 HO117 HB HI104; intro BK101 HO108 HO113 HO117 HB HI104; (try clear hb); (try clear hb2); (try clear hk); (try clear hi); have hnb15 := NB101_104.out; have hnc15 := NB104_101.out; have hcz16_0 : w14.cell? ⟨gb101, 0, none⟩ = some (.string (⟨#[]⟩ : ByteArray)) := (blk_cell BK101.out 0).trans rfl; have hcz16_1 : w14.cell? ⟨gb101, 1, none⟩ = some (.slice none 0 0) := (blk_cell BK101.out 1).trans rfl; have hfz16_0 := blk_frozen BK101.out 0; have hfz16_1 := blk_frozen BK101.out 1; obtain ⟨Ao17, co17, eo17⟩ := Kd.R_slice HO113.out; subst eo17))
 refine bodyPost_ret (results_ct rfl _ _ gb101 25 #[.string t110, .slice Ao17 t111.length co17] (0, 0) _ rfl (by (with_reducible repeat (first | refine blk_drewN ?_ _ | refine blk_drew ?_ | refine blk_alloc ?_ _)); refine blk_put (cs := #[.string t110, .slice none 0 0]) ?_ 1 _ rfl; (with_reducible repeat (first | refine blk_drewN ?_ _ | refine blk_drew ?_ | refine blk_alloc ?_ _)); refine blk_put (cs := #[.string (⟨#[]⟩ : ByteArray), .slice none 0 0]) ?_ 0 _ rfl; (with_reducible repeat (first | refine blk_drewN ?_ _ | refine blk_drew ?_ | refine blk_alloc ?_ _)); exact BK101.out) Tryd.underlying25 rfl (by kernel_rfl)) rfl ?_
 exact ⟨_, by first | rfl | (simp [errW_none, errW_some] <;> rfl) | (simp [*, errW_none, errW_some] <;> rfl), by (with_reducible repeat (first | apply Kd.R_alloc | apply Kd.R_drewN | apply Kd.R_drew)); exact Kd.R_mono (Kd.R_far (p := ⟨gb101, 1, none⟩) (Kd.R_far (p := ⟨gb101, 0, none⟩) (Kd.R_types HO113.out BK101.out (by decide)) (fun _ hk => hk.2) (.string t110)) (fun _ hk => hk.2) (.slice Ao17 t111.length co17)) (fun _ hk => trivial), by repeat (first | (with_reducible first | exact HB.out | apply below_alloc | apply pw_below_drewN | apply below_drew1 | refine below_set ?_ (IsS132.ge HI104.out) | refine below_set ?_ GE101.out) | exact HB.out)⟩
/-! ### impl_isIn: function 77 -/
def impl_isIn.f (a0 : ByteArray) (a1 : Int) (a2 : Int) : Option (Bool) := if (a0.size : Int) = 1 then (if 0 < (a0.size : Int) then (if (bt a0 0) ≥ a1 then (some (decide ((bt a0 0) ≤ a2))) else (some false)) else (none)) else (some false)
set_option maxHeartbeats 8000000 in
set_option maxRecDepth 100000 in
theorem impl_isIn.calls (a0 : ByteArray) (a1 : Int) (a2 : Int) (r : Bool) (w : World) (h : impl_isIn.f a0 a1 a2 = some r) :
  Calls Tryd.prog 77 #[.string a0, .int .u8 a1, .int .u8 a2] w fun e w' => e = .returned (.bool r) ∧ Drawn0 w w' := by
 have H : (if (a0.size : Int) = 1 then (if 0 < (a0.size : Int) then (if (bt a0 0) ≥ a1 then (some (decide ((bt a0 0) ≤ a2))) else (some false)) else (none)) else (some false)) = some r := h
 clear h
 by_cases c4 : (a0.size : Int) = 1
 rotate_left
 ·rw [if_neg c4] at H
  have c4b0 : ((a0.size : Int) == 1) = false := beq_eq_false_iff_ne.mpr c4
  have c4b1 : ((a0.size : Int) != 1) = true := bne_iff_ne.mpr c4
  obtain rfl := Option.some.inj H
  go_enter Tryd.func77, Tryd.ntmps77
  go_wp2
  go_ret
  exact ⟨by first | rfl | (simp; done) | (simp [*]; done), by repeat (first | exact Drawn0.refl _ | apply Drawn0.step)⟩
 rw [if_pos c4] at H
 have c4b0 : ((a0.size : Int) == 1) = true := beq_iff_eq.mpr c4
 have c4b1 : ((a0.size : Int) != 1) = false := bne_eq_false_iff_eq.mpr c4
 clear c4
 by_cases c5 : 0 < (a0.size : Int)
 rotate_left
 ·rw [if_neg c5] at H
  exact absurd H (by simp)
 rw [if_pos c5] at H
 have c5b0 : decide (0 < (a0.size : Int)) = true := decide_eq_true c5
 have c5b1 : decide (0 < a0.size) = true := decide_eq_true (by omega)
 clear c5
 by_cases c7 : (bt a0 0) ≥ a1
 ·rw [if_pos c7] at H
  have c7b0 : decide (a1 ≤ (bt a0 0)) = true := decide_eq_true c7
  clear c7
  obtain rfl := Option.some.inj H
  have p6 : 0 ≤ (0 : Int) := (by omega)
  have q6 : 0 < a0.size := (by have : (0 : Int) < (a0.size : Int) := of_decide_eq_true (by first | (with_reducible assumption) | assumption); omega)
  have hx6 : ∀ h : 0 < a0.size, ((a0[0]'h).toNat : Int) = bt a0 0 := bt_at a0 0
  clear p6
  have qi6 : (0 < (a0.size : Int)) = True := eq_true (of_decide_eq_true (by first | (with_reducible assumption) | assumption))
  replace q6 := eq_true q6
  have p8 : 0 ≤ (0 : Int) := (by omega)
  have q8 : 0 < a0.size := (by have : (0 : Int) < (a0.size : Int) := of_decide_eq_true (by first | (with_reducible assumption) | assumption); omega)
  have hx8 : ∀ h : 0 < a0.size, ((a0[0]'h).toNat : Int) = bt a0 0 := bt_at a0 0
  clear p8
  have qi8 : (0 < (a0.size : Int)) = True := eq_true (of_decide_eq_true (by first | (with_reducible assumption) | assumption))
  replace q8 := eq_true q8
  go_enter Tryd.func77, Tryd.ntmps77
  go_wp2
  go_ret
  exact ⟨by first | rfl | (simp; done) | (simp [*]; done), by repeat (first | exact Drawn0.refl _ | apply Drawn0.step)⟩
 rw [if_neg c7] at H
 have c7b0 : decide (a1 ≤ (bt a0 0)) = false := decide_eq_false c7
 clear c7
 obtain rfl := Option.some.inj H
 have p6 : 0 ≤ (0 : Int) := (by omega)
 have q6 : 0 < a0.size := (by have : (0 : Int) < (a0.size : Int) := of_decide_eq_true (by first | (with_reducible assumption) | assumption); omega)
 have hx6 : ∀ h : 0 < a0.size, ((a0[0]'h).toNat : Int) = bt a0 0 := bt_at a0 0
 clear p6
 have qi6 : (0 < (a0.size : Int)) = True := eq_true (of_decide_eq_true (by first | (with_reducible assumption) | assumption))
 replace q6 := eq_true q6
 go_enter Tryd.func77, Tryd.ntmps77
 go_wp2
 go_ret
 exact ⟨by first | rfl | (simp; done) | (simp [*]; done), by repeat (first | exact Drawn0.refl _ | apply Drawn0.step)⟩
/-! ### impl_SignBig: function 28 -/
def impl_SignBig.f (a0 : ByteArray) : Option (Bool) := (impl_isIn.f a0 65 69).bind fun t101 => (some t101)
set_option maxHeartbeats 8000000 in
set_option maxRecDepth 100000 in
theorem impl_SignBig.calls (a0 : ByteArray) (r : Bool) (w : World) (h : impl_SignBig.f a0 = some r) :
  Calls Tryd.prog 28 #[.string a0] w fun e w' => e = .returned (.bool r) ∧ Drawn0 w w' := by
 have H : ((impl_isIn.f a0 65 69).bind fun t101 => (some t101)) = some r := h
 clear h
 replace H := Option.bind_eq_some_iff.mp H
 obtain ⟨t101, A20, H⟩ := H
 replace H : (some t101) = some r := H
 have A2 := Aside0.mk A20
 clear A20
 obtain rfl := Option.some.inj H
 go_enter Tryd.func28, Tryd.ntmps28
 go_wp2_with (first | ((with_reducible refine gate_callee (f := 77) rfl ?_); refine goesL_ (some 4) rfl rfl Tryd.func77 (by kernel_rfl) rfl #[.string a0, .int .u8 65, .int .u8 69] rfl (by (try simp only [List.map_toArray, List.map_cons, List.map_nil]); first | done | rfl | (simp only [List.length_drop, List.length_take]; rfl)) ?_; (with_reducible refine (impl_isIn.calls a0 65 69 t101 _ A2.out).mono ?_); rintro e w' ⟨rfl, ⟨nd, rfl⟩⟩; refine ⟨_, rfl, ?_⟩))
 go_ret
 exact ⟨by first | rfl | (simp; done) | (simp [*]; done), by repeat (first | exact Drawn0.refl _ | apply Drawn0.step)⟩
end Go.Proofs.YtiibnkibckklgaaDoor.P
namespace Go.Proofs.YtiibnkibckklgaaDoor.P
open Go.RowKit Go.Proofs.YtiibnkibckklgaaDoorW.PrintWords Go.Proofs.YtiibnkibckklgaaDoorW.PrintLast Go.Proofs.YtiibnkibckklgaaDoorW.PrintMore
attribute [local go_sem] max2_int min2_int max_two min_two max_three min_three max_four min_four
set_option linter.unusedVariables false
set_option linter.unusedSimpArgs false
attribute [local go_sem high] eqA46
/-! ### impl_Rule_141: function 141 -/
def impl_Rule_141.l0 : Nat → List (S46) → Int → Int → ByteArray → ByteArray → Option (Int)
 | 0, _, _, _, _, _ => none
 | k + 1, x0, x7, x8, x102000, x102001 => if x8 < x7 then (if 0 ≤ x8 then (if x8 < (x0.length : Int) then (if (x102000.toList == (((rd_T46 x0 x8).f0).toList) && (x102001.toList == (((rd_T46 x0 x8).f1).toList))) = true then (some x8) else (impl_Rule_141.l0 k x0 x7 (wrap64 (x8 + 1)) x102000 x102001)) else (none)) else (none)) else (some (-1))
def impl_Rule_141.f (k : Nat) (l0 : List (S46)) (a1_0 : ByteArray) (a1_1 : ByteArray) : Option (Int) := impl_Rule_141.l0 k l0 (l0.length : Int) 0 a1_0 a1_1
theorem impl_Rule_141.mono_l : ∀ k, (∀ y0 y1 y2 y3 y4, LeO (impl_Rule_141.l0 k y0 y1 y2 y3 y4) (impl_Rule_141.l0 (k + 1) y0 y1 y2 y3 y4))
 | 0 => fun _ _ _ _ _ r h => by simp [impl_Rule_141.l0] at h
 | k + 1 => by
  have ih0 := impl_Rule_141.mono_l k
  intro y0 y1 y2 y3 y4
  unfold impl_Rule_141.l0
  repeat' first
  | (with_reducible exact ih0 _ _ _ _ _)
  | (with_reducible exact LeO.refl _)
  | (with_reducible exact LeO.none _)
  | (with_reducible refine LeO.ite ?_ ?_)
  | (with_reducible refine LeO.bind ?_ (fun _ => ?_))
  | exact ih0 _ _ _ _ _
  | exact LeO.none _
  | refine LeO.ite ?_ ?_
  | refine LeO.bind ?_ (fun _ => ?_)
theorem impl_Rule_141.mono : ∀ a0 a1 a2 k, LeO (impl_Rule_141.f k a0 a1 a2) (impl_Rule_141.f (k + 1) a0 a1 a2) := by
 intro a0 a1 a2 k
 have ih0 := impl_Rule_141.mono_l k
 unfold impl_Rule_141.f
 repeat' first
   | (with_reducible exact ih0 _ _ _ _ _)
   | (with_reducible exact LeO.refl _)
   | (with_reducible exact LeO.none _)
   | (with_reducible refine LeO.ite ?_ ?_)
   | (with_reducible refine LeO.bind ?_ (fun _ => ?_))
   | exact ih0 _ _ _ _ _
   | exact LeO.none _
   | refine LeO.ite ?_ ?_
   | refine LeO.bind ?_ (fun _ => ?_)
set_option maxHeartbeats 8000000 in
set_option maxRecDepth 100000 in
theorem impl_Rule_141.calls (k : Nat) (A0 : Option Addr) (c0 : Nat) (l0 : List (S46)) (a1_0 : ByteArray) (a1_1 : ByteArray) (r : Int) (w : World) (hr0 : Kd.C k46 w A0 l0.length l0) (hc0 : l0.length ≤ c0) (h : impl_Rule_141.f k l0 a1_0 a1_1 = some r) :
  Calls Tryd.prog 141 #[.slice A0 l0.length c0, .agg #[.string a1_0, .string a1_1]] w fun e w' => e = .returned (.int .i64 r) ∧ Below w.heap.size w w' := by
 have hu46 := Tryd.underlying46
 have HR0 := Aside0.mk hr0
 have HC0 := Aside0.mk hc0
 clear hr0 hc0
 have HB := Aside0.mk (Below.refl w.heap.size w)
 have H : (impl_Rule_141.l0 k l0 (l0.length : Int) 0 a1_0 a1_1) = some r := h
 clear h
 have H' := Aside0.mk H
 clear H
 go_enter Tryd.func141, Tryd.ntmps141
 go_wp2_with (first | ((with_reducible refine gate_dst (N := 3) rfl ?_); refine box_event ?hg (N := 3) ?hd (cs := #[.string a1_0, .string a1_1]) (t := 46) ?hr ?_; (case hd => rfl); (case hg => rfl); (case hr => first | (go_simp; done) | (go_simp; rfl)); intro gb101 hg w3 hbox hb; refine rn4 (below_step (by repeat (first | (with_reducible first | exact HB.out | apply below_alloc | apply pw_below_drewN | apply below_drew1) | exact HB.out)) hb) (hbox) ((by rw [hg]; exact (below_size (by repeat (first | (with_reducible first | exact HB.out | apply below_alloc | apply pw_below_drewN | apply below_drew1) | exact HB.out))) : w.heap.size ≤ gb101)) ((by rw [hg]; exact (below_size (by repeat (first | (with_reducible first | exact HB.out | apply below_alloc | apply pw_below_drewN | apply below_drew1) | exact HB.out))) : w.heap.size ≤ gb101)) ?_; clear HB; intro HB BK101 GW101 GE101; clear hb hbox hg))
 repeat (go_quiet (first | ((with_reducible refine gate_dst (N := 3) rfl ?_); refine box_event ?hg (N := 3) ?hd (cs := #[.string a1_0, .string a1_1]) (t := 46) ?hr ?_; (case hd => rfl); (case hg => rfl); (case hr => first | (go_simp; done) | (go_simp; rfl)); intro gb101 hg w3 hbox hb; refine rn4 (below_step (by repeat (first | (with_reducible first | exact HB.out | apply below_alloc | apply pw_below_drewN | apply below_drew1) | exact HB.out)) hb) (hbox) ((by rw [hg]; exact (below_size (by repeat (first | (with_reducible first | exact HB.out | apply below_alloc | apply pw_below_drewN | apply below_drew1) | exact HB.out))) : w.heap.size ≤ gb101)) ((by rw [hg]; exact (below_size (by repeat (first | (with_reducible first | exact HB.out | apply below_alloc | apply pw_below_drewN | apply below_drew1) | exact HB.out))) : w.heap.size ≤ gb101)) ?_; clear HB; intro HB BK101 GW101 GE101; clear hb hbox hg)); try go_wp2_with (first | ((with_reducible refine gate_dst (N := 3) rfl ?_); refine box_event ?hg (N := 3) ?hd (cs := #[.string a1_0, .string a1_1]) (t := 46) ?hr ?_; (case hd => rfl); (case hg => rfl); (case hr => first | (go_simp; done) | (go_simp; rfl)); intro gb101 hg w3 hbox hb; refine rn4 (below_step (by repeat (first | (with_reducible first | exact HB.out | apply below_alloc | apply pw_below_drewN | apply below_drew1) | exact HB.out)) hb) (hbox) ((by rw [hg]; exact (below_size (by repeat (first | (with_reducible first | exact HB.out | apply below_alloc | apply pw_below_drewN | apply below_drew1) | exact HB.out))) : w.heap.size ≤ gb101)) ((by rw [hg]; exact (below_size (by repeat (first | (with_reducible first | exact HB.out | apply below_alloc | apply pw_below_drewN | apply below_drew1) | exact HB.out))) : w.heap.size ≤ gb101)) ?_; clear HB; intro HB BK101 GW101 GE101; clear hb hbox hg)))
 go_loopg [8] k (fun kq v8 w' => ∃ (x8_1 : Int), v8 = .int .i64 x8_1 ∧ Aside0 (impl_Rule_141.l0 kq l0 (l0.length : Int) x8_1 a1_0 a1_1 = some r) ∧ Aside0 (kq ≤ k) ∧ Aside0 (w'.heap[gb101]? = some (.cells #[.string a1_0, .string a1_1] 46 (0, 0))) ∧ Aside0 (Below w.heap.size w w'))
 case atStart => exact ⟨(0), (by first | rfl | (simp; done) | (simp [*]; done)), H', ⟨Nat.le_refl _⟩, ⟨by (with_reducible repeat (first | refine blk_drewN ?_ _ | refine blk_drew ?_ | refine blk_alloc ?_ _)); exact BK101.out⟩, ⟨by repeat (first | (with_reducible first | exact HB.out | apply below_alloc | apply pw_below_drewN | apply below_drew1 | refine below_set ?_ GE101.out) | exact HB.out)⟩⟩
 case round =>
  clear H'
  try clear c1
  try clear p2
  obtain ⟨x8_1, rfl, HA, HK1, BK101, HB⟩ := hrel
  cases gk with
  | zero => exact absurd HA.out (by simp [impl_Rule_141.l0])
  | succ k1 =>
   have H := HA.out
   clear HA
   simp only [impl_Rule_141.l0] at H
   by_cases c4 : x8_1 < (l0.length : Int)
   rotate_left
   ·rw [if_neg c4] at H
    have c4b0 : decide (x8_1 < (l0.length : Int)) = false := decide_eq_false c4
    clear c4
    obtain rfl := Option.some.inj H
    go_wp2
    repeat (go_quiet (fail); try go_wp2)
    go_ret
    exact ⟨by first | rfl | (simp [errW_none, errW_some] <;> rfl) | (simp [*, errW_none, errW_some] <;> rfl), by repeat (first | (with_reducible first | exact HB.out | apply below_alloc | apply pw_below_drewN | apply below_drew1 | refine below_set ?_ GE101.out) | exact HB.out)⟩
   rw [if_pos c4] at H
   have c4b0 : decide (x8_1 < (l0.length : Int)) = true := decide_eq_true c4
   clear c4
   by_cases c5 : 0 ≤ x8_1
   rotate_left
   ·rw [if_neg c5] at H
    exact absurd H (by simp)
   rw [if_pos c5] at H
   have c5b0 : decide (0 ≤ x8_1) = true := decide_eq_true c5
   clear c5
   by_cases c6 : x8_1 < (l0.length : Int)
   rotate_left
   ·rw [if_neg c6] at H
    exact absurd H (by simp)
   rw [if_pos c6] at H
   have c6b0 : decide (x8_1 < (l0.length : Int)) = true := decide_eq_true c6
   clear c6
   by_cases c7 : (a1_0.toList == (((rd_T46 l0 x8_1).f0).toList) && (a1_1.toList == (((rd_T46 l0 x8_1).f1).toList))) = true
   ·rw [if_pos c7] at H
    have c7b0 : (a1_0.toList == (((rd_T46 l0 x8_1).f0).toList) && (a1_1.toList == (((rd_T46 l0 x8_1).f1).toList))) = true := c7
    (try (have c7b1 : decide (a1_0.toList = (((rd_T46 l0 x8_1).f0).toList) && (a1_1.toList == (((rd_T46 l0 x8_1).f1).toList))) = true := by simpa using c7))
    (try (have c7b2 : (a1_0.toList == (((rd_T46 l0 x8_1).f0).toList) && (a1_1.toList == (((rd_T46 l0 x8_1).f1).toList))) = true := by simpa using c7))
    clear c7
    obtain rfl := Option.some.inj H
    have hcz8_0 : wr.cell? ⟨gb101, 0, none⟩ = some (.string a1_0) := (blk_cell BK101.out 0).trans rfl
    have hcz8_1 : wr.cell? ⟨gb101, 1, none⟩ = some (.string a1_1) := (blk_cell BK101.out 1).trans rfl
    have hfz8_0 := blk_frozen BK101.out 0
    have hfz8_1 := blk_frozen BK101.out 1
    have p102 : 0 ≤ (x8_1 : Int) := of_decide_eq_true (by first | (with_reducible assumption) | assumption)
    have q102 : x8_1 < (l0.length : Int) := of_decide_eq_true (by first | (with_reducible assumption) | assumption)
    obtain ⟨ad102, e102, hx102_0, hx102_1⟩ := at_T46 HR0.out x8_1 p102 q102
    cases e102
    replace hx102_0 := (HB.out.cell (World.block_lt_of_cell? w _ hx102_0)).trans hx102_0
    replace hx102_1 := (HB.out.cell (World.block_lt_of_cell? w _ hx102_1)).trans hx102_1
    replace p102 := eq_true p102
    replace q102 := eq_true q102
    go_wp2
    repeat (go_quiet (fail); try go_wp2)
    go_ret
    exact ⟨by first | rfl | (simp [errW_none, errW_some] <;> rfl) | (simp [*, errW_none, errW_some] <;> rfl), by repeat (first | (with_reducible first | exact HB.out | apply below_alloc | apply pw_below_drewN | apply below_drew1 | refine below_set ?_ GE101.out) | exact HB.out)⟩
   rw [if_neg c7] at H
   have c7b0 : (a1_0.toList == (((rd_T46 l0 x8_1).f0).toList) && (a1_1.toList == (((rd_T46 l0 x8_1).f1).toList))) = false := by simpa using c7
   (try (have c7b1 : decide (a1_0.toList = (((rd_T46 l0 x8_1).f0).toList) && (a1_1.toList == (((rd_T46 l0 x8_1).f1).toList))) = false := by simpa using c7))
   (try (have c7b2 : (a1_0.toList == (((rd_T46 l0 x8_1).f0).toList) && (a1_1.toList == (((rd_T46 l0 x8_1).f1).toList))) = false := by simpa using c7))
   (try (have c7b3 : ¬ (a1_0.toList = (((rd_T46 l0 x8_1).f0).toList) && (a1_1.toList == (((rd_T46 l0 x8_1).f1).toList))) := by simpa using c7))
   clear c7
   have H' := Aside0.mk H
   clear H
   have hcz9_0 : wr.cell? ⟨gb101, 0, none⟩ = some (.string a1_0) := (blk_cell BK101.out 0).trans rfl
   have hcz9_1 : wr.cell? ⟨gb101, 1, none⟩ = some (.string a1_1) := (blk_cell BK101.out 1).trans rfl
   have hfz9_0 := blk_frozen BK101.out 0
   have hfz9_1 := blk_frozen BK101.out 1
   have p102 : 0 ≤ (x8_1 : Int) := of_decide_eq_true (by first | (with_reducible assumption) | assumption)
   have q102 : x8_1 < (l0.length : Int) := of_decide_eq_true (by first | (with_reducible assumption) | assumption)
   obtain ⟨ad102, e102, hx102_0, hx102_1⟩ := at_T46 HR0.out x8_1 p102 q102
   cases e102
   replace hx102_0 := (HB.out.cell (World.block_lt_of_cell? w _ hx102_0)).trans hx102_0
   replace hx102_1 := (HB.out.cell (World.block_lt_of_cell? w _ hx102_1)).trans hx102_1
   replace p102 := eq_true p102
   replace q102 := eq_true q102
   go_wp2
   repeat (go_quiet (fail); try go_wp2)
   go_roundg k1
   case measure => have := HK1.out; omega
   case rel => exact ⟨(wrap64 (x8_1 + 1)), (by first | rfl | (simp; done) | (simp [*]; done)), H', ⟨by have := HK1.out; omega⟩, ⟨by (with_reducible repeat (first | refine blk_drewN ?_ _ | refine blk_drew ?_ | refine blk_alloc ?_ _)); exact BK101.out⟩, ⟨by repeat (first | (with_reducible first | exact HB.out | apply below_alloc | apply pw_below_drewN | apply below_drew1 | refine below_set ?_ GE101.out) | exact HB.out)⟩⟩
end Go.Proofs.YtiibnkibckklgaaDoor.P
namespace Go.Proofs.YtiibnkibckklgaaDoor.P
open Go.RowKit Go.Proofs.YtiibnkibckklgaaDoorW.PrintWords Go.Proofs.YtiibnkibckklgaaDoorW.PrintLast Go.Proofs.YtiibnkibckklgaaDoorW.PrintMore
attribute [local go_sem] max2_int min2_int max_two min_two max_three min_three max_four min_four
set_option linter.unusedVariables false
set_option linter.unusedSimpArgs false
/-! ### impl_Rule_106: function 106 -/
def impl_Rule_106.f (k : Nat) (l0 : List (S46)) (a1_0 : ByteArray) (a1_1 : ByteArray) : Option (Bool) := (impl_Rule_141.f k l0 a1_0 a1_1).bind fun t102 => (some (decide (t102 ≥ 0)))
theorem impl_Rule_106.mono : ∀ a0 a1 a2 k, LeO (impl_Rule_106.f k a0 a1 a2) (impl_Rule_106.f (k + 1) a0 a1 a2) := by
 intro a0 a1 a2 k
 unfold impl_Rule_106.f
 repeat' first
   | (with_reducible exact impl_Rule_141.mono _ _ _ _)
   | (with_reducible exact LeO.refl _)
   | (with_reducible exact LeO.none _)
   | (with_reducible refine LeO.ite ?_ ?_)
   | (with_reducible refine LeO.bind ?_ (fun _ => ?_))
   | exact impl_Rule_141.mono _ _ _ _
   | exact LeO.none _
   | refine LeO.ite ?_ ?_
   | refine LeO.bind ?_ (fun _ => ?_)
set_option maxHeartbeats 8000000 in
set_option maxRecDepth 100000 in
theorem impl_Rule_106.calls (k : Nat) (A0 : Option Addr) (c0 : Nat) (l0 : List (S46)) (a1_0 : ByteArray) (a1_1 : ByteArray) (r : Bool) (w : World) (hr0 : Kd.C k46 w A0 l0.length l0) (hc0 : l0.length ≤ c0) (h : impl_Rule_106.f k l0 a1_0 a1_1 = some r) :
  Calls Tryd.prog 106 #[.slice A0 l0.length c0, .agg #[.string a1_0, .string a1_1]] w fun e w' => e = .returned (.bool r) ∧ Below w.heap.size w w' := by
 have hu46 := Tryd.underlying46
 have HR0 := Aside0.mk hr0
 have HC0 := Aside0.mk hc0
 clear hr0 hc0
 have HB := Aside0.mk (Below.refl w.heap.size w)
 have H : ((impl_Rule_141.f k l0 a1_0 a1_1).bind fun t102 => (some (decide (t102 ≥ 0)))) = some r := h
 clear h
 replace H := Option.bind_eq_some_iff.mp H
 obtain ⟨t102, A30, H⟩ := H
 replace H : (some (decide (t102 ≥ 0))) = some r := H
 have A3 := Aside0.mk A30
 clear A30
 obtain rfl := Option.some.inj H
 go_enter Tryd.func106, Tryd.ntmps106
 go_wp2_with (first | ((with_reducible refine gate_dst (N := 3) rfl ?_); refine box_event ?hg (N := 3) ?hd (cs := #[.string a1_0, .string a1_1]) (t := 46) ?hr ?_; (case hd => rfl); (case hg => rfl); (case hr => first | (go_simp; done) | (go_simp; rfl)); intro gb101 hg w4 hbox hb; refine rn4 (below_step (by repeat (first | (with_reducible first | exact HB.out | apply below_alloc | apply pw_below_drewN | apply below_drew1) | exact HB.out)) hb) (hbox) ((by rw [hg]; exact (below_size (by repeat (first | (with_reducible first | exact HB.out | apply below_alloc | apply pw_below_drewN | apply below_drew1) | exact HB.out))) : w.heap.size ≤ gb101)) ((by rw [hg]; exact (below_size (by repeat (first | (with_reducible first | exact HB.out | apply below_alloc | apply pw_below_drewN | apply below_drew1) | exact HB.out))) : w.heap.size ≤ gb101)) ?_; clear HB; intro HB BK101 GW101 GE101; clear hb hbox hg; have hcz5_0 : w4.cell? ⟨gb101, 0, none⟩ = some (.string a1_0) := (blk_cell BK101.out 0).trans rfl; have hcz5_1 : w4.cell? ⟨gb101, 1, none⟩ = some (.string a1_1) := (blk_cell BK101.out 1).trans rfl; have hfz5_0 := blk_frozen BK101.out 0; have hfz5_1 := blk_frozen BK101.out 1) | ((with_reducible refine gate_callee (f := 141) rfl ?_); refine goesL_ (some 7) rfl rfl Tryd.func141 (by kernel_rfl) rfl #[.slice A0 l0.length c0, .agg #[.string a1_0, .string a1_1]] rfl (by (try simp only [List.map_toArray, List.map_cons, List.map_nil]); first | done | rfl | (simp only [List.length_drop, List.length_take]; rfl)) ?_; (with_reducible refine (impl_Rule_141.calls k _ _ l0 a1_0 a1_1 t102 _ ?side1 ?side2 A3.out).mono ?_); (case side1 => repeat (first | exact (Kd.C_below HR0.out HB.out) | (with_reducible refine Kd.C_alloc ?_ _) | (with_reducible refine Kd.C_drewN ?_ _) | (with_reducible refine Kd.C_drew ?_))); (case side2 => exact HC0.out); rintro e w6 ⟨rfl, hb⟩; refine ⟨_, rfl, ?_⟩; refine rn2 (blk_below (g := gb101) (o := .cells #[.string a1_0, .string a1_1] 46 (0, 0)) (by (with_reducible repeat (first | refine blk_drewN ?_ _ | refine blk_drew ?_ | refine blk_alloc ?_ _)); exact BK101.out) hb) (below_step (by repeat (first | (with_reducible first | exact HB.out | apply below_alloc | apply pw_below_drewN | apply below_drew1 | refine below_set ?_ GE101.out) | exact HB.out)) hb) ?_; clear BK101 HB; intro BK101 HB; (try clear hb); (try clear hb2); (try clear hk); (try clear hi)))
 go_ret
 exact ⟨by first | rfl | (simp [errW_none, errW_some] <;> rfl) | (simp [*, errW_none, errW_some] <;> rfl), by repeat (first | (with_reducible first | exact HB.out | apply below_alloc | apply pw_below_drewN | apply below_drew1 | refine below_set ?_ GE101.out) | exact HB.out)⟩
end Go.Proofs.YtiibnkibckklgaaDoor.P
namespace Go.Proofs
open Go.Shelf
def Tryd.lays160_ren : Go.Shelf.Ren := ⟨fun | 160 => 140 | 232 => 159 | 231 => 158 | 227 => 160 | 234 => 162 | 233 => 161 | 236 => 164 | 235 => 163 | 228 => 185 | 271 => 188 | 151 => 187 | 197 => 186 | 120 => 206 | 152 => 205 | 260 => 204 | 137 => 214 | 119 => 215 | 224 => 202 | 225 => 201 | 217 => 200 | 266 => 212 | n => n, fun | 9 => 9 | 4 => 4 | 3 => 3 | 5 => 5 | 117 => 175 | 116 => 174 | 0 => 0 | 124 => 178 | 21 => 21 | 105 => 198 | 46 => 165 | 119 => 221 | 139 => 224 | 138 => 223 | n => n, fun | 3 => 2 | 4 => 3 | n => n⟩
theorem Tryd.lays160 : Go.Proofs.Lays.n160 Tryd.prog Tryd.lays160_ren := {
 mixed := by kernel_rfl
 f119 := Tryd.func215.trans (congrArg some (by kernel_rfl))
 f120 := Tryd.func206.trans (congrArg some (by kernel_rfl))
 f137 := Tryd.func214.trans (congrArg some (by kernel_rfl))
 f151 := Tryd.func187.trans (congrArg some (by kernel_rfl))
 f152 := Tryd.func205.trans (congrArg some (by kernel_rfl))
 f160 := Tryd.func140.trans (congrArg some (by kernel_rfl))
 f197 := Tryd.func186.trans (congrArg some (by kernel_rfl))
 f217 := Tryd.func200.trans (congrArg some (by kernel_rfl))
 f224 := Tryd.func202.trans (congrArg some (by kernel_rfl))
 f225 := Tryd.func201.trans (congrArg some (by kernel_rfl))
 f227 := Tryd.func160.trans (congrArg some (by kernel_rfl))
 f228 := Tryd.func185.trans (congrArg some (by kernel_rfl))
 f231 := Tryd.func158.trans (congrArg some (by kernel_rfl))
 f232 := Tryd.func159.trans (congrArg some (by kernel_rfl))
 f233 := Tryd.func161.trans (congrArg some (by kernel_rfl))
 f234 := Tryd.func162.trans (congrArg some (by kernel_rfl))
 f235 := Tryd.func163.trans (congrArg some (by kernel_rfl))
 f236 := Tryd.func164.trans (congrArg some (by kernel_rfl))
 f260 := Tryd.func204.trans (congrArg some (by kernel_rfl))
 f266 := Tryd.func212.trans (congrArg some (by kernel_rfl))
 f271 := Tryd.func188.trans (congrArg some (by kernel_rfl))
 t0 := Tryd.underlying0
 a0 := Tryd.isAgg0
 z0 := Tryd.sizeOf0
 v0 := Tryd.zeroValue0
 t3 := Tryd.underlying3
 a3 := Tryd.isAgg3
 z3 := Tryd.sizeOf3
 v3 := Tryd.zeroValue3
 t4 := Tryd.underlying4
 a4 := Tryd.isAgg4
 z4 := Tryd.sizeOf4
 v4 := Tryd.zeroValue4
 t5 := Tryd.underlying5
 a5 := Tryd.isAgg5
 z5 := Tryd.sizeOf5
 v5 := Tryd.zeroValue5
 t9 := Tryd.underlying9
 a9 := Tryd.isAgg9
 z9 := Tryd.sizeOf9
 v9 := Tryd.zeroValue9
 t21 := Tryd.underlying21
 a21 := Tryd.isAgg21
 z21 := Tryd.sizeOf21
 v21 := Tryd.zeroValue21
 t46 := Tryd.underlying165
 a46 := Tryd.isAgg165
 z46 := Tryd.sizeOf165
 v46 := Tryd.zeroValue165
 t105 := Tryd.underlying198
 a105 := Tryd.isAgg198
 z105 := Tryd.sizeOf198
 v105 := Tryd.zeroValue198
 t116 := Tryd.underlying174
 a116 := Tryd.isAgg174
 z116 := Tryd.sizeOf174
 t117 := Tryd.underlying175
 a117 := Tryd.isAgg175
 z117 := Tryd.sizeOf175
 v117 := Tryd.zeroValue175
 t119 := Tryd.underlying221
 a119 := Tryd.isAgg221
 z119 := Tryd.sizeOf221
 t124 := Tryd.underlying178
 a124 := Tryd.isAgg178
 z124 := Tryd.sizeOf178
 v124 := Tryd.zeroValue178
 t138 := Tryd.underlying223
 a138 := Tryd.isAgg223
 z138 := Tryd.sizeOf223
 v138 := Tryd.zeroValue223
 t139 := Tryd.underlying224
 a139 := Tryd.isAgg224
 z139 := Tryd.sizeOf224
 v139 := Tryd.zeroValue224
 g3 := by kernel_rfl
 g4 := by kernel_rfl }
def Tryd.lays125_ren : Go.Shelf.Ren := ⟨fun | 125 => 148 | 128 => 179 | 129 => 180 | n => n, fun | 46 => 165 | 3 => 3 | 51 => 196 | 53 => 182 | 4 => 4 | 5 => 5 | 9 => 9 | n => n, fun | n => n⟩
theorem Tryd.lays125 : Go.Proofs.Lays.n125 Tryd.prog Tryd.lays125_ren := {
 mixed := by kernel_rfl
 f125 := Tryd.func148.trans (congrArg some (by kernel_rfl))
 f128 := Tryd.func179.trans (congrArg some (by kernel_rfl))
 f129 := Tryd.func180.trans (congrArg some (by kernel_rfl))
 t3 := Tryd.underlying3
 a3 := Tryd.isAgg3
 z3 := Tryd.sizeOf3
 v3 := Tryd.zeroValue3
 t4 := Tryd.underlying4
 a4 := Tryd.isAgg4
 z4 := Tryd.sizeOf4
 v4 := Tryd.zeroValue4
 t5 := Tryd.underlying5
 a5 := Tryd.isAgg5
 z5 := Tryd.sizeOf5
 v5 := Tryd.zeroValue5
 t9 := Tryd.underlying9
 a9 := Tryd.isAgg9
 z9 := Tryd.sizeOf9
 v9 := Tryd.zeroValue9
 t46 := Tryd.underlying165
 a46 := Tryd.isAgg165
 z46 := Tryd.sizeOf165
 v46 := Tryd.zeroValue165
 t51 := Tryd.underlying196
 a51 := Tryd.isAgg196
 z51 := Tryd.sizeOf196
 v51 := Tryd.zeroValue196
 t53 := Tryd.underlying182
 a53 := Tryd.isAgg182
 z53 := Tryd.sizeOf182
 v53 := Tryd.zeroValue182 }
end Go.Proofs
namespace Go.Proofs.YtiibnkibckklgaaDoor.P
set_option linter.unusedVariables false
set_option linter.unusedSimpArgs false
open Go.RowKit Go.Shelf
def isSignB (c : UInt8) : Bool := [65, 66, 67, 68, 69, 97, 98, 99, 100].contains c
def isSmallB (c : UInt8) : Bool := [97, 98, 99, 100].contains c
def impl_areSigns.f (a0 : ByteArray) (a1 : Int) : Option (Bool) := if a1 ≤ 1000 then some (decide ((a0.size : Int) ≤ a1) && a0.data.toList.all isSignB) else none
def impl_areSmalls.f (a0 : ByteArray) (a1 : Int) : Option (Bool) := if a1 ≤ 1000 then some (decide ((a0.size : Int) ≤ a1) && a0.data.toList.all isSmallB) else none
theorem dropWhile_nil {α : Type} (p : α → Bool) : ∀ l : List α, (l.dropWhile p = [] ↔ l.all p = true)
 | [] => by simp
 | a :: l => by
  by_cases h : p a = true
  ·simp [h, dropWhile_nil p l]
  simp [h]
theorem trimS_nil (l cs : List UInt8) : Lib.trimS l cs = [] ↔ l.all (fun c => cs.contains c) = true := by
 unfold Lib.trimS Lib.trimLeftS
 rw [dropWhile_nil]
 unfold Lib.trimRightS
 have key : ∀ r : List UInt8, (r.dropWhile (fun c => cs.contains c)).all (fun c => cs.contains c) = r.all (fun c => cs.contains c) := by
  intro r
  induction r with
  | nil => rfl
  | cons a r ih =>
   by_cases h : cs.contains a = true
   ·rw [List.dropWhile_cons_of_pos h, ih, List.all_cons, h]; simp
   rw [List.dropWhile_cons_of_neg h]
 rw [List.all_reverse, key, List.all_reverse]
set_option maxHeartbeats 1000000 in
theorem impl_areSigns.calls (a0 : ByteArray) (a1 : Int) (r : Bool) (w : World) (h : impl_areSigns.f a0 a1 = some r) :
  Calls Tryd.prog 105 #[.string a0, .int .i64 a1] w fun e w' => e = .returned (.bool r) ∧ Below w.heap.size w w' := by
 unfold impl_areSigns.f at h
 split at h
 case isFalse => cases h
 rename_i hm
 injection h with h
 by_cases hl : (a0.size : Int) ≤ a1
 ·have hcon := Any.strings_Trim_laid Tryd.lays160 (by kernel_rfl) a0 ⟨#[65, 66, 67, 68, 69, 97, 98, 99, 100]⟩ w (by omega) (by decide) (ascii_of_all (by decide))
  have ht := trimS_nil a0.data.toList [65, 66, 67, 68, 69, 97, 98, 99, 100]
  change Calls Tryd.prog 140 _ _ (fun e w' => e = .returned (.string ⟨(Lib.trimS a0.data.toList [65, 66, 67, 68, 69, 97, 98, 99, 100]).toArray⟩) ∧ Below w.heap.size w w') at hcon
  generalize hl2 : Lib.trimS a0.data.toList [65, 66, 67, 68, 69, 97, 98, 99, 100] = l2 at hcon ht
  have hr : r = l2.isEmpty := by
   subst h
   rw [decide_eq_true hl, Bool.true_and]
   cases l2 with
   | nil => exact ht.1 rfl
   | cons a l =>
    simp only [List.isEmpty_cons]
    cases hb : a0.data.toList.all isSignB with
    | false => rfl
    | true => exact absurd (ht.2 hb) (by simp)
  clear hl2 ht h
  subst hr
  go_enter Tryd.func105, Tryd.ntmps105
  go_wp2_with (go_at_call 140; refine hcon.mono ?_; rintro e w' ⟨rfl, hB⟩)
  go_ret
  exact ⟨rfl, hB⟩
 obtain rfl : r = false := by rw [← h, decide_eq_false hl]; rfl
 clear h
 go_enter Tryd.func105, Tryd.ntmps105
 go_wp2
 go_ret
 exact ⟨rfl, Below.refl _ _⟩
set_option maxHeartbeats 1000000 in
theorem impl_areSmalls.calls (a0 : ByteArray) (a1 : Int) (r : Bool) (w : World) (h : impl_areSmalls.f a0 a1 = some r) :
  Calls Tryd.prog 107 #[.string a0, .int .i64 a1] w fun e w' => e = .returned (.bool r) ∧ Below w.heap.size w w' := by
 unfold impl_areSmalls.f at h
 split at h
 case isFalse => cases h
 rename_i hm
 injection h with h
 by_cases hl : (a0.size : Int) ≤ a1
 ·have hcon := Any.strings_Trim_laid Tryd.lays160 (by kernel_rfl) a0 ⟨#[97, 98, 99, 100]⟩ w (by omega) (by decide) (ascii_of_all (by decide))
  have ht := trimS_nil a0.data.toList [97, 98, 99, 100]
  change Calls Tryd.prog 140 _ _ (fun e w' => e = .returned (.string ⟨(Lib.trimS a0.data.toList [97, 98, 99, 100]).toArray⟩) ∧ Below w.heap.size w w') at hcon
  generalize hl2 : Lib.trimS a0.data.toList [97, 98, 99, 100] = l2 at hcon ht
  have hr : r = l2.isEmpty := by
   subst h
   rw [decide_eq_true hl, Bool.true_and]
   cases l2 with
   | nil => exact ht.1 rfl
   | cons a l =>
    simp only [List.isEmpty_cons]
    cases hb : a0.data.toList.all isSmallB with
    | false => rfl
    | true => exact absurd (ht.2 hb) (by simp)
  clear hl2 ht h
  subst hr
  go_enter Tryd.func107, Tryd.ntmps107
  go_wp2_with (go_at_call 140; refine hcon.mono ?_; rintro e w' ⟨rfl, hB⟩)
  go_ret
  exact ⟨rfl, hB⟩
 obtain rfl : r = false := by rw [← h, decide_eq_false hl]; rfl
 clear h
 go_enter Tryd.func107, Tryd.ntmps107
 go_wp2
 go_ret
 exact ⟨rfl, Below.refl _ _⟩
end Go.Proofs.YtiibnkibckklgaaDoor.P
namespace Go.Proofs.YtiibnkibckklgaaDoor.P
open Go.RowKit Go.Proofs.YtiibnkibckklgaaDoorW.PrintWords Go.Proofs.YtiibnkibckklgaaDoorW.PrintLast Go.Proofs.YtiibnkibckklgaaDoorW.PrintMore
attribute [local go_sem] max2_int min2_int max_two min_two max_three min_three max_four min_four
set_option linter.unusedVariables false
set_option linter.unusedSimpArgs false
theorem q46_1 {p : Prop} (h : p := by repeat (first | (with_reducible first | exact HB.out | apply below_alloc | apply pw_below_drewN | apply below_drew1 | refine below_set ?_ GE101.out | refine below_set ?_ GE104.out) | exact HB.out)) : p := h
theorem q46_2 {p : Prop} (h : p := by (with_reducible repeat (first | refine blk_drewN ?_ _ | refine blk_drew ?_ | refine blk_alloc ?_ _)); exact BK101.out) : p := h
theorem q46_3 {p : Prop} (h : p := by (try simp only [List.map_toArray, List.map_cons, List.map_nil]); first | done | rfl | (simp only [List.length_drop, List.length_take]; rfl)) : p := h
theorem q46_4 {p : Prop} (h : p := by first | (with_reducible assumption) | assumption) : p := h
theorem q46_5 {p : Prop} (h : p := by (with_reducible repeat (first | refine blk_drewN ?_ _ | refine blk_drew ?_ | refine blk_alloc ?_ _)); exact BK104.out) : p := h
theorem q46_6 {p : Prop} (h : p := by repeat (first | exact (Kd.C_below HR110.out HB.out) | (with_reducible refine Kd.C_alloc ?_ _) | (with_reducible refine Kd.C_drewN ?_ _) | (with_reducible refine Kd.C_drew ?_))) : p := h
theorem q46_7 {p : Prop} (h : p := by first | rfl | (simp; done) | (simp [*]; done)) : p := h
/-! ### impl_GramOk: function 52 -/
mutual
def impl_GramOk.j0 : Nat → Bool → ByteArray → List (S46) → Option (Bool)
 | 0, _, _, _ => none
 | k + 1, x14, x102000, x102001 => if x14 = true then (some false) else (impl_GramOk.l0 k x102001 (x102001.length : Int) 0 x102000 x102001)
def impl_GramOk.l0 : Nat → List (S46) → Int → Int → ByteArray → List (S46) → Option (Bool)
 | 0, _, _, _, _, _ => none
 | k + 1, x16, x17, x18, x102000, x102001 => if x18 < x17 then (if 0 ≤ x18 then (if x18 < (x16.length : Int) then ((impl_SignBig.f ((rd_T46 x16 x18).f0)).bind fun t105 => (if t105 = true then ((impl_areSigns.f ((rd_T46 x16 x18).f1) 4).bind fun t106 => (if t106 = true then (if x18 ≤ (x102001.length : Int) then ((impl_Rule_106.f k (x102001.take (x18 : Int).toNat) ((rd_T46 x16 x18).f0) ((rd_T46 x16 x18).f1)).bind fun t111 => (if t111 = true then (some false) else (impl_GramOk.l0 k x16 x17 (wrap64 (x18 + 1)) x102000 x102001))) else (none)) else (some false))) else (some false))) else (none)) else (none)) else (some true)
end
def impl_GramOk.f (k : Nat) (a0_0 : ByteArray) (l0_1 : List (S46)) : Option (Bool) := (impl_SignBig.f a0_0).bind fun t102 => (if t102 = true then (impl_GramOk.j0 k (decide ((l0_1.length : Int) > 8)) a0_0 l0_1) else (impl_GramOk.j0 k true a0_0 l0_1))
theorem impl_GramOk.mono_l : ∀ k, (∀ y0 y1 y2, LeO (impl_GramOk.j0 k y0 y1 y2) (impl_GramOk.j0 (k + 1) y0 y1 y2)) ∧ (∀ y0 y1 y2 y3 y4, LeO (impl_GramOk.l0 k y0 y1 y2 y3 y4) (impl_GramOk.l0 (k + 1) y0 y1 y2 y3 y4))
 | 0 => ⟨fun _ _ _ r h => by simp [impl_GramOk.j0] at h, fun _ _ _ _ _ r h => by simp [impl_GramOk.l0] at h⟩
 | k + 1 => by
  obtain ⟨ih0, ih1⟩ := impl_GramOk.mono_l k
  refine ⟨?_, ?_⟩
  ·intro y0 y1 y2
   unfold impl_GramOk.j0
   repeat' first
   | (with_reducible exact ih0 _ _ _)
   | (with_reducible exact ih1 _ _ _ _ _)
   | (with_reducible exact impl_Rule_106.mono _ _ _ _)
   | (with_reducible exact LeO.refl _)
   | (with_reducible exact LeO.none _)
   | (with_reducible refine LeO.ite ?_ ?_)
   | (with_reducible refine LeO.bind ?_ (fun _ => ?_))
   | exact ih0 _ _ _
   | exact ih1 _ _ _ _ _
   | exact impl_Rule_106.mono _ _ _ _
   | exact LeO.none _
   | refine LeO.ite ?_ ?_
   | refine LeO.bind ?_ (fun _ => ?_)
  intro y0 y1 y2 y3 y4
  unfold impl_GramOk.l0
  repeat' first
  | (with_reducible exact ih0 _ _ _)
  | (with_reducible exact ih1 _ _ _ _ _)
  | (with_reducible exact impl_Rule_106.mono _ _ _ _)
  | (with_reducible exact LeO.refl _)
  | (with_reducible exact LeO.none _)
  | (with_reducible refine LeO.ite ?_ ?_)
  | (with_reducible refine LeO.bind ?_ (fun _ => ?_))
  | exact ih0 _ _ _
  | exact ih1 _ _ _ _ _
  | exact impl_Rule_106.mono _ _ _ _
  | exact LeO.none _
  | refine LeO.ite ?_ ?_
  | refine LeO.bind ?_ (fun _ => ?_)
theorem impl_GramOk.mono : ∀ a0 a1 k, LeO (impl_GramOk.f k a0 a1) (impl_GramOk.f (k + 1) a0 a1) := by
 intro a0 a1 k
 obtain ⟨ih0, ih1⟩ := impl_GramOk.mono_l k
 unfold impl_GramOk.f
 repeat' first
   | (with_reducible exact ih0 _ _ _)
   | (with_reducible exact ih1 _ _ _ _ _)
   | (with_reducible exact impl_Rule_106.mono _ _ _ _)
   | (with_reducible exact LeO.refl _)
   | (with_reducible exact LeO.none _)
   | (with_reducible refine LeO.ite ?_ ?_)
   | (with_reducible refine LeO.bind ?_ (fun _ => ?_))
   | exact ih0 _ _ _
   | exact ih1 _ _ _ _ _
   | exact impl_Rule_106.mono _ _ _ _
   | exact LeO.none _
   | refine LeO.ite ?_ ?_
   | refine LeO.bind ?_ (fun _ => ?_)
def impl_GramOk.T6 : Bool × List (List Nat × List Nat) := (true, [([], []), ([0], [0]), ([1], [1]), ([2], [2]), ([3, 2], [3]), ([4], [4]), ([5, 4], [4, 5]), ([6, 4, 4], [4, 6]), ([7, 4], [4, 7]), ([4, 8], [4, 8]), ([9, 7], [9]), ([10], [10]), ([11, 10], [10, 11]), ([10], [10]), ([12, 13, 10], [10, 12, 13]), ([10], [10]), ([14, 15, 10, 10], [10, 14, 15]), ([10, 16], [10, 16])])
def impl_GramOk.B6 : List Nat := [0, 1, 3, 7, 15, 31, 63, 127, 255, 511, 1023, 2047, 4095, 2047, 16383, 2047, 65535, 131071]
theorem impl_GramOk.tab6 : rtab .any (opsOf Tryd.f52 6) = impl_GramOk.T6 := by kernel_rfl
theorem impl_GramOk.bits6 : waitsOk impl_GramOk.T6.2 impl_GramOk.B6 = true := by kernel_rfl
set_option maxHeartbeats 8000000 in
set_option maxRecDepth 100000 in
theorem impl_GramOk.calls (k : Nat) (a0_0 : ByteArray) (A0_1 : Option Addr) (c0_1 : Nat) (l0_1 : List (S46)) (r : Bool) (w : World) (hr0_1 : Kd.C k46 w A0_1 l0_1.length l0_1) (hc0_1 : l0_1.length ≤ c0_1) (h : impl_GramOk.f k a0_0 l0_1 = some r) :
  Calls Tryd.prog 52 #[.agg #[.string a0_0, .slice A0_1 l0_1.length c0_1]] w fun e w' => e = .returned (.bool r) ∧ Below w.heap.size w w' := by
 have hu25 := Tryd.underlying25
 have hu46 := Tryd.underlying46
 have HR0_1 := Aside0.mk hr0_1
 have HC0_1 := Aside0.mk hc0_1
 clear hr0_1 hc0_1
 have HB := Aside0.mk (Below.refl w.heap.size w)
 have H : ((impl_SignBig.f a0_0).bind fun t102 => (if t102 = true then (impl_GramOk.j0 k (decide ((l0_1.length : Int) > 8)) a0_0 l0_1) else (impl_GramOk.j0 k true a0_0 l0_1))) = some r := h
 clear h
 have HC2 := Aside0.mk H
 clear H
 go_enter Tryd.func52, Tryd.ntmps52
 go_upto_region 1 with (first | ((with_reducible refine gate_dst (N := 1) rfl ?_); (try (refine gate_guard (by rfl) ?_; dsimp only)); refine box_event ?hg (N := 1) ?hd (cs := #[.string a0_0, .slice A0_1 l0_1.length c0_1]) (t := 25) ?hr ?_; (case hd => rfl); (case hg => rfl); (case hr => first | (go_simp; done) | (go_simp; rfl)); intro gb101 hg w3 hbox hb; refine rn4 (below_step q46_1 hb) (hbox) ((by rw [hg]; exact (below_size q46_1) : w.heap.size ≤ gb101)) ((by rw [hg]; exact (below_size q46_1) : w.heap.size ≤ gb101)) ?_; clear HB; intro HB BK101 GW101 GE101; clear hb hbox hg))
 (try simp only [Act.put, List.setIfInBounds_toArray, List.set_cons_zero, List.set_cons_succ])
 go_cut [14] (fun v14 wc => ∃ (kq : Nat) (x14_1 : Bool), v14 = .bool x14_1 ∧ Aside0 (impl_GramOk.j0 kq x14_1 a0_0 l0_1 = some r) ∧ Aside0 (kq ≤ k) ∧ Aside0 (wc.heap[gb101]? = some (.cells #[.string a0_0, (.slice A0_1 l0_1.length c0_1)] 25 (0, 0))) ∧ Aside0 (Below w.heap.size w wc))
 case first =>
  have H := HC2.out
  clear HC2
  replace H := Option.bind_eq_some_iff.mp H
  obtain ⟨t102, A40, H⟩ := H
  replace H : (if t102 = true then (impl_GramOk.j0 k (decide ((l0_1.length : Int) > 8)) a0_0 l0_1) else (impl_GramOk.j0 k true a0_0 l0_1)) = some r := H
  have A4 := Aside0.mk A40
  clear A40
  by_cases c5 : t102 = true
  ·subst c5
   have H1 : (impl_GramOk.j0 k (decide ((l0_1.length : Int) > 8)) a0_0 l0_1) = some r := by rw [if_pos rfl] at H; exact H
   clear H
   have H := H1
   clear H1
   have H' := Aside0.mk H
   clear H
   have hcz6_0 : w3.cell? ⟨gb101, 0, none⟩ = some (.string a0_0) := (blk_cell BK101.out 0).trans rfl
   have hcz6_1 : w3.cell? ⟨gb101, 1, none⟩ = some (.slice A0_1 l0_1.length c0_1) := (blk_cell BK101.out 1).trans rfl
   have hfz6_0 := blk_frozen BK101.out 0
   have hfz6_1 := blk_frozen BK101.out 1
   go_wp2_with (first | ((with_reducible refine gate_callee (f := 28) rfl ?_); refine goesL_ (some 7) rfl rfl Tryd.func28 (by kernel_rfl) rfl #[.string a0_0] rfl q46_3 ?_; (with_reducible refine (impl_SignBig.calls a0_0 true _ A4.out).mono ?_); rintro e w' ⟨rfl, ⟨nd, rfl⟩⟩; refine ⟨_, rfl, ?_⟩))
   go_meet
   case rel => exact ⟨_, (decide ((l0_1.length : Int) > 8)), q46_7, H', ⟨by first | omega | exact Nat.le_refl _⟩, ⟨by (with_reducible repeat (first | refine blk_drewN ?_ _ | refine blk_drew ?_ | refine blk_alloc ?_ _)); exact BK101.out⟩, ⟨by repeat (first | (with_reducible first | exact HB.out | apply below_alloc | apply pw_below_drewN | apply below_drew1 | refine below_set ?_ GE101.out | refine below_set ?_ GE104.out) | exact HB.out)⟩⟩
  replace c5 := Bool.eq_false_iff.mpr c5
  subst c5
  have H1 : (impl_GramOk.j0 k true a0_0 l0_1) = some r := by rw [if_neg (show ¬ (false = true) by decide)] at H; exact H
  clear H
  have H := H1
  clear H1
  have H' := Aside0.mk H
  clear H
  have hcz7_0 : w3.cell? ⟨gb101, 0, none⟩ = some (.string a0_0) := (blk_cell BK101.out 0).trans rfl
  have hcz7_1 : w3.cell? ⟨gb101, 1, none⟩ = some (.slice A0_1 l0_1.length c0_1) := (blk_cell BK101.out 1).trans rfl
  have hfz7_0 := blk_frozen BK101.out 0
  have hfz7_1 := blk_frozen BK101.out 1
  go_wp2_with (first | ((with_reducible refine gate_callee (f := 28) rfl ?_); refine goesL_ (some 7) rfl rfl Tryd.func28 (by kernel_rfl) rfl #[.string a0_0] rfl q46_3 ?_; (with_reducible refine (impl_SignBig.calls a0_0 false _ A4.out).mono ?_); rintro e w' ⟨rfl, ⟨nd, rfl⟩⟩; refine ⟨_, rfl, ?_⟩))
  go_meet
  case rel => exact ⟨_, (true), q46_7, H', ⟨by first | omega | exact Nat.le_refl _⟩, ⟨by (with_reducible repeat (first | refine blk_drewN ?_ _ | refine blk_drew ?_ | refine blk_alloc ?_ _)); exact BK101.out⟩, ⟨by repeat (first | (with_reducible first | exact HB.out | apply below_alloc | apply pw_below_drewN | apply below_drew1 | refine below_set ?_ GE101.out | refine below_set ?_ GE104.out) | exact HB.out)⟩⟩
 case rest =>
  clear HC2
  try clear c2
  try clear p2
  try clear c5
  try clear hcz6_0
  try clear hcz6_1
  try clear hcz7_0
  try clear hcz7_1
  try clear hfz6_0
  try clear hfz6_1
  try clear hfz7_0
  try clear hfz7_1
  obtain ⟨kq, x14_1, rfl, HA, HJ1, BK101, HB⟩ := hcut
  cases kq with
  | zero => exact absurd HA.out (by simp [impl_GramOk.j0])
  | succ kj1 =>
   have H := HA.out
   clear HA
   simp only [impl_GramOk.j0] at H
   by_cases c8 : x14_1 = true
   ·subst c8
    have H1 : (some false) = some r := by rw [if_pos rfl] at H; exact H
    clear H
    have H := H1
    clear H1
    obtain rfl := Option.some.inj H
    go_wp2
    go_ret
    exact ⟨by first | rfl | (simp [errW_none, errW_some] <;> rfl) | (simp [*, errW_none, errW_some] <;> rfl), by repeat (first | (with_reducible first | exact HB.out | apply below_alloc | apply pw_below_drewN | apply below_drew1 | refine below_set ?_ GE101.out | refine below_set ?_ GE104.out) | exact HB.out)⟩
   replace c8 := Bool.eq_false_iff.mpr c8
   subst c8
   have H1 : (impl_GramOk.l0 kj1 l0_1 (l0_1.length : Int) 0 a0_0 l0_1) = some r := by rw [if_neg (show ¬ (false = true) by decide)] at H; exact H
   clear H
   have H := H1
   clear H1
   have H' := Aside0.mk H
   clear H
   have hcz9_0 : wc.cell? ⟨gb101, 0, none⟩ = some (.string a0_0) := (blk_cell BK101.out 0).trans rfl
   have hcz9_1 : wc.cell? ⟨gb101, 1, none⟩ = some (.slice A0_1 l0_1.length c0_1) := (blk_cell BK101.out 1).trans rfl
   have hfz9_0 := blk_frozen BK101.out 0
   have hfz9_1 := blk_frozen BK101.out 1
   go_wp2
   go_loopg [18] kj1 (fun kq v18 w' => ∃ (x18_2 : Int), v18 = .int .i64 x18_2 ∧ Aside0 (impl_GramOk.l0 kq l0_1 (l0_1.length : Int) x18_2 a0_0 l0_1 = some r) ∧ Aside0 (kq ≤ kj1) ∧ Aside0 (w'.heap[gb101]? = some (.cells #[.string a0_0, (.slice A0_1 l0_1.length c0_1)] 25 (0, 0))) ∧ Aside0 (Below w.heap.size w w'))
   case atStart => exact ⟨(0), q46_7, H', ⟨Nat.le_refl _⟩, ⟨by (with_reducible repeat (first | refine blk_drewN ?_ _ | refine blk_drew ?_ | refine blk_alloc ?_ _)); exact BK101.out⟩, ⟨by repeat (first | (with_reducible first | exact HB.out | apply below_alloc | apply pw_below_drewN | apply below_drew1 | refine below_set ?_ GE101.out | refine below_set ?_ GE104.out) | exact HB.out)⟩⟩
   case round =>
    clear H'
    try clear c2
    try clear p2
    try clear c5
    try clear c8
    try clear hcz6_0
    try clear hcz6_1
    try clear hcz7_0
    try clear hcz7_1
    try clear hcz9_0
    try clear hcz9_1
    try clear hfz6_0
    try clear hfz6_1
    try clear hfz7_0
    try clear hfz7_1
    try clear hfz9_0
    try clear hfz9_1
    try clear p2
    obtain ⟨x18_2, rfl, HA, HK2, BK101, HB⟩ := hrel
    cases gk with
    | zero => exact absurd HA.out (by simp [impl_GramOk.l0])
    | succ k2 =>
     have H := HA.out
     clear HA
     simp only [impl_GramOk.l0] at H
     by_cases c10 : x18_2 < (l0_1.length : Int)
     rotate_left
     ·rw [if_neg c10] at H
      have c10b0 : decide (x18_2 < (l0_1.length : Int)) = false := decide_eq_false c10
      clear c10
      obtain rfl := Option.some.inj H
      go_wp2
      go_ret
      exact ⟨by first | rfl | (simp [errW_none, errW_some] <;> rfl) | (simp [*, errW_none, errW_some] <;> rfl), by repeat (first | (with_reducible first | exact HB.out | apply below_alloc | apply pw_below_drewN | apply below_drew1 | refine below_set ?_ GE101.out | refine below_set ?_ GE104.out) | exact HB.out)⟩
     rw [if_pos c10] at H
     have c10b0 : decide (x18_2 < (l0_1.length : Int)) = true := decide_eq_true c10
     clear c10
     by_cases c11 : 0 ≤ x18_2
     rotate_left
     ·rw [if_neg c11] at H
      exact absurd H (by simp)
     rw [if_pos c11] at H
     have c11b0 : decide (0 ≤ x18_2) = true := decide_eq_true c11
     clear c11
     by_cases c12 : x18_2 < (l0_1.length : Int)
     rotate_left
     ·rw [if_neg c12] at H
      exact absurd H (by simp)
     rw [if_pos c12] at H
     have c12b0 : decide (x18_2 < (l0_1.length : Int)) = true := decide_eq_true c12
     clear c12
     replace H := Option.bind_eq_some_iff.mp H
     obtain ⟨t105, A130, H⟩ := H
     replace H : (if t105 = true then ((impl_areSigns.f ((rd_T46 l0_1 x18_2).f1) 4).bind fun t106 => (if t106 = true then (if x18_2 ≤ (l0_1.length : Int) then ((impl_Rule_106.f k2 (l0_1.take (x18_2 : Int).toNat) ((rd_T46 l0_1 x18_2).f0) ((rd_T46 l0_1 x18_2).f1)).bind fun t111 => (if t111 = true then (some false) else (impl_GramOk.l0 k2 l0_1 (l0_1.length : Int) (wrap64 (x18_2 + 1)) a0_0 l0_1))) else (none)) else (some false))) else (some false)) = some r := H
     have A13 := Aside0.mk A130
     clear A130
     by_cases c14 : t105 = true
     rotate_left
     ·replace c14 := Bool.eq_false_iff.mpr c14
      subst c14
      have H1 : (some false) = some r := by rw [if_neg (show ¬ (false = true) by decide)] at H; exact H
      clear H
      have H := H1
      clear H1
      obtain rfl := Option.some.inj H
      have p103 : 0 ≤ (x18_2 : Int) := of_decide_eq_true q46_4
      have q103 : x18_2 < (l0_1.length : Int) := of_decide_eq_true q46_4
      obtain ⟨ad103, e103, hx103_0, hx103_1⟩ := at_T46 HR0_1.out x18_2 p103 q103
      cases e103
      replace hx103_0 := (HB.out.cell (World.block_lt_of_cell? w _ hx103_0)).trans hx103_0
      replace hx103_1 := (HB.out.cell (World.block_lt_of_cell? w _ hx103_1)).trans hx103_1
      replace p103 := eq_true p103
      replace q103 := eq_true q103
      try go_wp2_with (first | ((with_reducible refine gate_dst (N := 4) rfl ?_); (try (refine gate_guard (by rfl) ?_; dsimp only)); refine box_event ?hg (N := 4) ?hd (cs := #[.string (⟨#[]⟩ : ByteArray), .string (⟨#[]⟩ : ByteArray)]) (t := 46) ?hr ?_; (case hd => rfl); (case hg => rfl); (case hr => first | (go_simp; done) | (go_simp; rfl)); intro gb104 hg w43 hbox hb; refine rn7 (blk_below (g := gb101) (o := .cells #[.string a0_0, .slice (some ad103) l0_1.length c0_1] 25 (0, 0)) q46_2 hb) (below_step q46_1 hb) (hbox) ((by rw [hg]; exact (below_size q46_1) : w.heap.size ≤ gb104)) ((by rw [hg]; exact (below_size q46_1) : w.heap.size ≤ gb104)) ((by rw [hg]; exact Nat.ne_of_lt (blk_lt (g := gb101) (o := .cells #[.string a0_0, .slice (some ad103) l0_1.length c0_1] 25 (0, 0)) q46_2) : gb101 ≠ gb104)) ((by rw [hg]; exact Nat.ne_of_gt (blk_lt (g := gb101) (o := .cells #[.string a0_0, .slice (some ad103) l0_1.length c0_1] 25 (0, 0)) q46_2) : gb104 ≠ gb101)) ?_; clear BK101 HB; intro BK101 HB BK104 GW104 GE104 NB101_104 NB104_101; clear hb hbox hg; have hnb44 := NB104_101.out; have hnc44 := NB101_104.out; have hcz45_0 : w43.cell? ⟨gb104, 0, none⟩ = some (.string (⟨#[]⟩ : ByteArray)) := (blk_cell BK104.out 0).trans rfl; have hcz45_1 : w43.cell? ⟨gb104, 1, none⟩ = some (.string (⟨#[]⟩ : ByteArray)) := (blk_cell BK104.out 1).trans rfl; have hfz45_0 := blk_frozen BK104.out 0; have hfz45_1 := blk_frozen BK104.out 1))
      have n0_ : Aside0 (((w43.setCell ⟨gb104, 0, none⟩ (.string ((rd_T46 l0_1 x18_2).f0))).setCell ⟨gb104, 1, none⟩ (.string ((rd_T46 l0_1 x18_2).f1))).heap[gb101]? = some (.cells #[.string a0_0, .slice (some ad103) l0_1.length c0_1] 25 (0, 0))) := ⟨by (with_reducible repeat (first | refine blk_drewN ?_ _ | refine blk_drew ?_ | refine blk_alloc ?_ _)); refine blk_far ?_ NB101_104.out _; (with_reducible repeat (first | refine blk_drewN ?_ _ | refine blk_drew ?_ | refine blk_alloc ?_ _)); refine blk_far ?_ NB101_104.out _; (with_reducible repeat (first | refine blk_drewN ?_ _ | refine blk_drew ?_ | refine blk_alloc ?_ _)); exact BK101.out⟩
      have n1_ : Aside0 (((w43.setCell ⟨gb104, 0, none⟩ (.string ((rd_T46 l0_1 x18_2).f0))).setCell ⟨gb104, 1, none⟩ (.string ((rd_T46 l0_1 x18_2).f1))).heap[gb104]? = some (.cells #[.string ((rd_T46 l0_1 x18_2).f0), .string ((rd_T46 l0_1 x18_2).f1)] 46 (0, 0))) := ⟨by (with_reducible repeat (first | refine blk_drewN ?_ _ | refine blk_drew ?_ | refine blk_alloc ?_ _)); refine blk_put (cs := #[.string ((rd_T46 l0_1 x18_2).f0), .string (⟨#[]⟩ : ByteArray)]) ?_ 1 _ rfl; (with_reducible repeat (first | refine blk_drewN ?_ _ | refine blk_drew ?_ | refine blk_alloc ?_ _)); refine blk_put (cs := #[.string (⟨#[]⟩ : ByteArray), .string (⟨#[]⟩ : ByteArray)]) ?_ 0 _ rfl; (with_reducible repeat (first | refine blk_drewN ?_ _ | refine blk_drew ?_ | refine blk_alloc ?_ _)); exact BK104.out⟩
      have n2_ : Aside0 (Below w.heap.size w ((w43.setCell ⟨gb104, 0, none⟩ (.string ((rd_T46 l0_1 x18_2).f0))).setCell ⟨gb104, 1, none⟩ (.string ((rd_T46 l0_1 x18_2).f1)))) := ⟨by repeat (first | (with_reducible first | exact HB.out | apply below_alloc | apply pw_below_drewN | apply below_drew1 | refine below_set ?_ GE101.out | refine below_set ?_ GE104.out) | exact HB.out)⟩
      (try clear BK101)
      (try clear BK104)
      (try clear HB)
      generalize ((w43.setCell ⟨gb104, 0, none⟩ (.string ((rd_T46 l0_1 x18_2).f0))).setCell ⟨gb104, 1, none⟩ (.string ((rd_T46 l0_1 x18_2).f1))) = w46 at n0_ n1_ n2_ ⊢
      have BK101 := n0_
      have BK104 := n1_
      have HB := n2_
      clear n0_ n1_ n2_
      refine rn3 (blk_drew BK101.out) (blk_drew BK104.out) (below_drew1 HB.out) ?_
      clear BK101 BK104 HB
      intro BK101 BK104 HB
      refine start_ (n := 18) (S := fun w' => w'.cell? ⟨gb104, 0, none⟩ = some (.string ((rd_T46 l0_1 x18_2).f0)) ∧ w'.cell? ⟨gb104, 1, none⟩ = some (.string ((rd_T46 l0_1 x18_2).f1))) (ds := []) #[false, false, false, false, false, false, false, false, false, false, false, false, false, false, false, false, false, false] (by kernel_rfl) rfl rfl ⟨(blk_cell BK104.out 0).trans rfl, (blk_cell BK104.out 1).trans rfl⟩ (fun hHeld => ?_); refine with_tabW impl_GramOk.tab6 impl_GramOk.bits6 (fun HT_ HW_ => ?_)
      generalize w46.drew = w47 at BK101 BK104 HB hHeld ⊢
      refine pz 0 23 HT_ ?_
      refine tz 1 24 HT_ HW_ hHeld ?_
      refine oz 2 (some 25) HT_ (fun K hK => ?_)
      refine goes_ Tryd.func28 (by kernel_rfl) rfl #[.string ((rd_T46 l0_1 x18_2).f0)] (by rfl) rfl rfl q46_3 ?_
      with_reducible refine (impl_SignBig.calls ((rd_T46 l0_1 x18_2).f0) false _ A13.out).mono ?_
      rintro e w' ⟨rfl, ⟨nd, rfl⟩⟩
      refine ⟨_, rfl, ?_⟩
      refine hK.out _ _ ⟨(blk_cell BK104.out 0).trans rfl, (blk_cell BK104.out 1).trans rfl⟩ (fun hHeld => ?_)
      clear hK K
      refine norm_ (a' := ?_) ?_ ?_
      rotate_left
      ·show Act.put _ (some 25) _ = _
       simp only [Act.put, List.setIfInBounds_toArray, List.set_cons_zero, List.set_cons_succ, i64_w, i32_w]
       rfl
      refine pz 3 26 HT_ ?_
      refine pz 4 27 HT_ ?_
      refine puz 5 28 HT_ ?_
      refine puz 6 29 HT_ ?_
      refine puz 7 30 HT_ ?_
      refine puz 8 31 HT_ ?_
      refine pz 9 32 HT_ ?_
      refine pz 10 33 HT_ ?_
      refine puz 11 34 HT_ ?_
      refine puz 12 35 HT_ ?_
      refine puz 13 36 HT_ ?_
      refine puz 14 37 HT_ ?_
      refine puz 15 38 HT_ ?_
      refine puz 16 39 HT_ ?_
      refine pz 17 40 HT_ ?_
      refine dz HT_ ?_
      try go_wp2
      go_ret
      exact ⟨by first | rfl | (simp [errW_none, errW_some] <;> rfl) | (simp [*, errW_none, errW_some] <;> rfl), by repeat (first | (with_reducible first | exact HB.out | apply below_alloc | apply pw_below_drewN | apply below_drew1 | refine below_set ?_ GE101.out | refine below_set ?_ GE104.out) | exact HB.out)⟩
     subst c14
     have H1 : ((impl_areSigns.f ((rd_T46 l0_1 x18_2).f1) 4).bind fun t106 => (if t106 = true then (if x18_2 ≤ (l0_1.length : Int) then ((impl_Rule_106.f k2 (l0_1.take (x18_2 : Int).toNat) ((rd_T46 l0_1 x18_2).f0) ((rd_T46 l0_1 x18_2).f1)).bind fun t111 => (if t111 = true then (some false) else (impl_GramOk.l0 k2 l0_1 (l0_1.length : Int) (wrap64 (x18_2 + 1)) a0_0 l0_1))) else (none)) else (some false))) = some r := by rw [if_pos rfl] at H; exact H
     clear H
     have H := H1
     clear H1
     replace H := Option.bind_eq_some_iff.mp H
     obtain ⟨t106, A150, H⟩ := H
     replace H : (if t106 = true then (if x18_2 ≤ (l0_1.length : Int) then ((impl_Rule_106.f k2 (l0_1.take (x18_2 : Int).toNat) ((rd_T46 l0_1 x18_2).f0) ((rd_T46 l0_1 x18_2).f1)).bind fun t111 => (if t111 = true then (some false) else (impl_GramOk.l0 k2 l0_1 (l0_1.length : Int) (wrap64 (x18_2 + 1)) a0_0 l0_1))) else (none)) else (some false)) = some r := H
     have A15 := Aside0.mk A150
     clear A150
     by_cases c16 : t106 = true
     rotate_left
     ·replace c16 := Bool.eq_false_iff.mpr c16
      subst c16
      have H1 : (some false) = some r := by rw [if_neg (show ¬ (false = true) by decide)] at H; exact H
      clear H
      have H := H1
      clear H1
      obtain rfl := Option.some.inj H
      have p103 : 0 ≤ (x18_2 : Int) := of_decide_eq_true q46_4
      have q103 : x18_2 < (l0_1.length : Int) := of_decide_eq_true q46_4
      obtain ⟨ad103, e103, hx103_0, hx103_1⟩ := at_T46 HR0_1.out x18_2 p103 q103
      cases e103
      replace hx103_0 := (HB.out.cell (World.block_lt_of_cell? w _ hx103_0)).trans hx103_0
      replace hx103_1 := (HB.out.cell (World.block_lt_of_cell? w _ hx103_1)).trans hx103_1
      replace p103 := eq_true p103
      replace q103 := eq_true q103
      try go_wp2_with (first | ((with_reducible refine gate_dst (N := 4) rfl ?_); (try (refine gate_guard (by rfl) ?_; dsimp only)); refine box_event ?hg (N := 4) ?hd (cs := #[.string (⟨#[]⟩ : ByteArray), .string (⟨#[]⟩ : ByteArray)]) (t := 46) ?hr ?_; (case hd => rfl); (case hg => rfl); (case hr => first | (go_simp; done) | (go_simp; rfl)); intro gb104 hg w37 hbox hb; refine rn7 (blk_below (g := gb101) (o := .cells #[.string a0_0, .slice (some ad103) l0_1.length c0_1] 25 (0, 0)) q46_2 hb) (below_step q46_1 hb) (hbox) ((by rw [hg]; exact (below_size q46_1) : w.heap.size ≤ gb104)) ((by rw [hg]; exact (below_size q46_1) : w.heap.size ≤ gb104)) ((by rw [hg]; exact Nat.ne_of_lt (blk_lt (g := gb101) (o := .cells #[.string a0_0, .slice (some ad103) l0_1.length c0_1] 25 (0, 0)) q46_2) : gb101 ≠ gb104)) ((by rw [hg]; exact Nat.ne_of_gt (blk_lt (g := gb101) (o := .cells #[.string a0_0, .slice (some ad103) l0_1.length c0_1] 25 (0, 0)) q46_2) : gb104 ≠ gb101)) ?_; clear BK101 HB; intro BK101 HB BK104 GW104 GE104 NB101_104 NB104_101; clear hb hbox hg; have hnb38 := NB104_101.out; have hnc38 := NB101_104.out; have hcz39_0 : w37.cell? ⟨gb104, 0, none⟩ = some (.string (⟨#[]⟩ : ByteArray)) := (blk_cell BK104.out 0).trans rfl; have hcz39_1 : w37.cell? ⟨gb104, 1, none⟩ = some (.string (⟨#[]⟩ : ByteArray)) := (blk_cell BK104.out 1).trans rfl; have hfz39_0 := blk_frozen BK104.out 0; have hfz39_1 := blk_frozen BK104.out 1))
      have n0_ : Aside0 (((w37.setCell ⟨gb104, 0, none⟩ (.string ((rd_T46 l0_1 x18_2).f0))).setCell ⟨gb104, 1, none⟩ (.string ((rd_T46 l0_1 x18_2).f1))).heap[gb101]? = some (.cells #[.string a0_0, .slice (some ad103) l0_1.length c0_1] 25 (0, 0))) := ⟨by (with_reducible repeat (first | refine blk_drewN ?_ _ | refine blk_drew ?_ | refine blk_alloc ?_ _)); refine blk_far ?_ NB101_104.out _; (with_reducible repeat (first | refine blk_drewN ?_ _ | refine blk_drew ?_ | refine blk_alloc ?_ _)); refine blk_far ?_ NB101_104.out _; (with_reducible repeat (first | refine blk_drewN ?_ _ | refine blk_drew ?_ | refine blk_alloc ?_ _)); exact BK101.out⟩
      have n1_ : Aside0 (((w37.setCell ⟨gb104, 0, none⟩ (.string ((rd_T46 l0_1 x18_2).f0))).setCell ⟨gb104, 1, none⟩ (.string ((rd_T46 l0_1 x18_2).f1))).heap[gb104]? = some (.cells #[.string ((rd_T46 l0_1 x18_2).f0), .string ((rd_T46 l0_1 x18_2).f1)] 46 (0, 0))) := ⟨by (with_reducible repeat (first | refine blk_drewN ?_ _ | refine blk_drew ?_ | refine blk_alloc ?_ _)); refine blk_put (cs := #[.string ((rd_T46 l0_1 x18_2).f0), .string (⟨#[]⟩ : ByteArray)]) ?_ 1 _ rfl; (with_reducible repeat (first | refine blk_drewN ?_ _ | refine blk_drew ?_ | refine blk_alloc ?_ _)); refine blk_put (cs := #[.string (⟨#[]⟩ : ByteArray), .string (⟨#[]⟩ : ByteArray)]) ?_ 0 _ rfl; (with_reducible repeat (first | refine blk_drewN ?_ _ | refine blk_drew ?_ | refine blk_alloc ?_ _)); exact BK104.out⟩
      have n2_ : Aside0 (Below w.heap.size w ((w37.setCell ⟨gb104, 0, none⟩ (.string ((rd_T46 l0_1 x18_2).f0))).setCell ⟨gb104, 1, none⟩ (.string ((rd_T46 l0_1 x18_2).f1)))) := ⟨by repeat (first | (with_reducible first | exact HB.out | apply below_alloc | apply pw_below_drewN | apply below_drew1 | refine below_set ?_ GE101.out | refine below_set ?_ GE104.out) | exact HB.out)⟩
      (try clear BK101)
      (try clear BK104)
      (try clear HB)
      generalize ((w37.setCell ⟨gb104, 0, none⟩ (.string ((rd_T46 l0_1 x18_2).f0))).setCell ⟨gb104, 1, none⟩ (.string ((rd_T46 l0_1 x18_2).f1))) = w40 at n0_ n1_ n2_ ⊢
      have BK101 := n0_
      have BK104 := n1_
      have HB := n2_
      clear n0_ n1_ n2_
      refine rn3 (blk_drew BK101.out) (blk_drew BK104.out) (below_drew1 HB.out) ?_
      clear BK101 BK104 HB
      intro BK101 BK104 HB
      refine start_ (n := 18) (S := fun w' => w'.cell? ⟨gb104, 0, none⟩ = some (.string ((rd_T46 l0_1 x18_2).f0)) ∧ w'.cell? ⟨gb104, 1, none⟩ = some (.string ((rd_T46 l0_1 x18_2).f1))) (ds := []) #[false, false, false, false, false, false, false, false, false, false, false, false, false, false, false, false, false, false] (by kernel_rfl) rfl rfl ⟨(blk_cell BK104.out 0).trans rfl, (blk_cell BK104.out 1).trans rfl⟩ (fun hHeld => ?_); refine with_tabW impl_GramOk.tab6 impl_GramOk.bits6 (fun HT_ HW_ => ?_)
      generalize w40.drew = w41 at BK101 BK104 HB hHeld ⊢
      refine pz 0 23 HT_ ?_
      refine tz 1 24 HT_ HW_ hHeld ?_
      refine oz 2 (some 25) HT_ (fun K hK => ?_)
      refine goes_ Tryd.func28 (by kernel_rfl) rfl #[.string ((rd_T46 l0_1 x18_2).f0)] (by rfl) rfl rfl q46_3 ?_
      with_reducible refine (impl_SignBig.calls ((rd_T46 l0_1 x18_2).f0) true _ A13.out).mono ?_
      rintro e w' ⟨rfl, ⟨nd, rfl⟩⟩
      refine ⟨_, rfl, ?_⟩
      refine hK.out _ _ ⟨(blk_cell BK104.out 0).trans rfl, (blk_cell BK104.out 1).trans rfl⟩ (fun hHeld => ?_)
      clear hK K
      refine norm_ (a' := ?_) ?_ ?_
      rotate_left
      ·show Act.put _ (some 25) _ = _
       simp only [Act.put, List.setIfInBounds_toArray, List.set_cons_zero, List.set_cons_succ, i64_w, i32_w]
       rfl
      refine pz 3 26 HT_ ?_
      refine pz 4 27 HT_ ?_
      refine pz 5 28 HT_ ?_
      refine tz 6 29 HT_ HW_ hHeld ?_
      refine oz 7 (some 30) HT_ (fun K hK => ?_)
      refine goes_ Tryd.func105 (by kernel_rfl) rfl #[.string ((rd_T46 l0_1 x18_2).f1), .int .i64 4] (by rfl) rfl rfl q46_3 ?_
      with_reducible refine (impl_areSigns.calls ((rd_T46 l0_1 x18_2).f1) 4 false _ A15.out).mono ?_
      rintro e w42 ⟨rfl, hb⟩
      refine ⟨_, rfl, ?_⟩
      refine rn3 (blk_below (g := gb101) (o := .cells #[.string a0_0, .slice (some ad103) l0_1.length c0_1] 25 (0, 0)) q46_2 hb) (blk_below (g := gb104) (o := .cells #[.string ((rd_T46 l0_1 x18_2).f0), .string ((rd_T46 l0_1 x18_2).f1)] 46 (0, 0)) q46_5 hb) (below_step q46_1 hb) ?_
      clear BK101 BK104 HB
      intro BK101 BK104 HB
      (try clear hb)
      (try clear hb2)
      (try clear hk)
      (try clear hi)
      refine hK.out _ _ ⟨(blk_cell BK104.out 0).trans rfl, (blk_cell BK104.out 1).trans rfl⟩ (fun hHeld => ?_)
      clear hK K
      refine norm_ (a' := ?_) ?_ ?_
      rotate_left
      ·show Act.put _ (some 30) _ = _
       simp only [Act.put, List.setIfInBounds_toArray, List.set_cons_zero, List.set_cons_succ, i64_w, i32_w]
       rfl
      refine pz 8 31 HT_ ?_
      refine pz 9 32 HT_ ?_
      refine pz 10 33 HT_ ?_
      refine puz 11 34 HT_ ?_
      refine puz 12 35 HT_ ?_
      refine puz 13 36 HT_ ?_
      refine puz 14 37 HT_ ?_
      refine puz 15 38 HT_ ?_
      refine puz 16 39 HT_ ?_
      refine pz 17 40 HT_ ?_
      refine dz HT_ ?_
      try go_wp2
      go_ret
      exact ⟨by first | rfl | (simp [errW_none, errW_some] <;> rfl) | (simp [*, errW_none, errW_some] <;> rfl), by repeat (first | (with_reducible first | exact HB.out | apply below_alloc | apply pw_below_drewN | apply below_drew1 | refine below_set ?_ GE101.out | refine below_set ?_ GE104.out) | exact HB.out)⟩
     subst c16
     have H1 : (if x18_2 ≤ (l0_1.length : Int) then ((impl_Rule_106.f k2 (l0_1.take (x18_2 : Int).toNat) ((rd_T46 l0_1 x18_2).f0) ((rd_T46 l0_1 x18_2).f1)).bind fun t111 => (if t111 = true then (some false) else (impl_GramOk.l0 k2 l0_1 (l0_1.length : Int) (wrap64 (x18_2 + 1)) a0_0 l0_1))) else (none)) = some r := by rw [if_pos rfl] at H; exact H
     clear H
     have H := H1
     clear H1
     have c17b0 := eq_true (of_decide_eq_true q46_4 : 0 ≤ x18_2)
     by_cases c18 : x18_2 ≤ (l0_1.length : Int)
     rotate_left
     ·rw [if_neg c18] at H
      exact absurd H (by simp)
     rw [if_pos c18] at H
     have c18b0 := eq_true c18
     have c18b1 : decide (x18_2 ≤ (l0_1.length : Int)) = true := decide_eq_true c18
     clear c18
     obtain ⟨y107, hy107⟩ : ∃ y_ : List (S46), y_ = (l0_1.take (x18_2 : Int).toNat) := ⟨_, rfl⟩
     replace H : ((impl_Rule_106.f k2 y107 ((rd_T46 l0_1 x18_2).f0) ((rd_T46 l0_1 x18_2).f1)).bind fun t111 => (if t111 = true then (some false) else (impl_GramOk.l0 k2 l0_1 (l0_1.length : Int) (wrap64 (x18_2 + 1)) a0_0 l0_1))) = some r := by first | (rw [hy107]; with_reducible exact H) | (have H2_ := (Option.bind_some _ _).symm.trans H; rw [hy107]; with_reducible exact H2_) | (have H2_ := (Option.bind_some _ _).symm.trans H; with_reducible exact H2_) | with_reducible exact H | (rw [hy107]; exact H) | exact H
     have Ny107 := Aside0.mk hy107
     clear hy107
     replace H := Option.bind_eq_some_iff.mp H
     obtain ⟨t111, A190, H⟩ := H
     replace H : (if t111 = true then (some false) else (impl_GramOk.l0 k2 l0_1 (l0_1.length : Int) (wrap64 (x18_2 + 1)) a0_0 l0_1)) = some r := H
     have A19 := Aside0.mk A190
     clear A190
     by_cases c20 : t111 = true
     ·subst c20
      have H1 : (some false) = some r := by rw [if_pos rfl] at H; exact H
      clear H
      have H := H1
      clear H1
      obtain rfl := Option.some.inj H
      have p103 : 0 ≤ (x18_2 : Int) := of_decide_eq_true q46_4
      have q103 : x18_2 < (l0_1.length : Int) := of_decide_eq_true q46_4
      obtain ⟨ad103, e103, hx103_0, hx103_1⟩ := at_T46 HR0_1.out x18_2 p103 q103
      cases e103
      replace hx103_0 := (HB.out.cell (World.block_lt_of_cell? w _ hx103_0)).trans hx103_0
      replace hx103_1 := (HB.out.cell (World.block_lt_of_cell? w _ hx103_1)).trans hx103_1
      replace p103 := eq_true p103
      replace q103 := eq_true q103
      try go_wp2_with (first | ((with_reducible refine gate_dst (N := 4) rfl ?_); (try (refine gate_guard (by rfl) ?_; dsimp only)); refine box_event ?hg (N := 4) ?hd (cs := #[.string (⟨#[]⟩ : ByteArray), .string (⟨#[]⟩ : ByteArray)]) (t := 46) ?hr ?_; (case hd => rfl); (case hg => rfl); (case hr => first | (go_simp; done) | (go_simp; rfl)); intro gb104 hg w21 hbox hb; refine rn7 (blk_below (g := gb101) (o := .cells #[.string a0_0, .slice (some ad103) l0_1.length c0_1] 25 (0, 0)) q46_2 hb) (below_step q46_1 hb) (hbox) ((by rw [hg]; exact (below_size q46_1) : w.heap.size ≤ gb104)) ((by rw [hg]; exact (below_size q46_1) : w.heap.size ≤ gb104)) ((by rw [hg]; exact Nat.ne_of_lt (blk_lt (g := gb101) (o := .cells #[.string a0_0, .slice (some ad103) l0_1.length c0_1] 25 (0, 0)) q46_2) : gb101 ≠ gb104)) ((by rw [hg]; exact Nat.ne_of_gt (blk_lt (g := gb101) (o := .cells #[.string a0_0, .slice (some ad103) l0_1.length c0_1] 25 (0, 0)) q46_2) : gb104 ≠ gb101)) ?_; clear BK101 HB; intro BK101 HB BK104 GW104 GE104 NB101_104 NB104_101; clear hb hbox hg; have hnb22 := NB104_101.out; have hnc22 := NB101_104.out; have hcz23_0 : w21.cell? ⟨gb104, 0, none⟩ = some (.string (⟨#[]⟩ : ByteArray)) := (blk_cell BK104.out 0).trans rfl; have hcz23_1 : w21.cell? ⟨gb104, 1, none⟩ = some (.string (⟨#[]⟩ : ByteArray)) := (blk_cell BK104.out 1).trans rfl; have hfz23_0 := blk_frozen BK104.out 0; have hfz23_1 := blk_frozen BK104.out 1))
      have n0_ : Aside0 (((w21.setCell ⟨gb104, 0, none⟩ (.string ((rd_T46 l0_1 x18_2).f0))).setCell ⟨gb104, 1, none⟩ (.string ((rd_T46 l0_1 x18_2).f1))).heap[gb101]? = some (.cells #[.string a0_0, .slice (some ad103) l0_1.length c0_1] 25 (0, 0))) := ⟨by (with_reducible repeat (first | refine blk_drewN ?_ _ | refine blk_drew ?_ | refine blk_alloc ?_ _)); refine blk_far ?_ NB101_104.out _; (with_reducible repeat (first | refine blk_drewN ?_ _ | refine blk_drew ?_ | refine blk_alloc ?_ _)); refine blk_far ?_ NB101_104.out _; (with_reducible repeat (first | refine blk_drewN ?_ _ | refine blk_drew ?_ | refine blk_alloc ?_ _)); exact BK101.out⟩
      have n1_ : Aside0 (((w21.setCell ⟨gb104, 0, none⟩ (.string ((rd_T46 l0_1 x18_2).f0))).setCell ⟨gb104, 1, none⟩ (.string ((rd_T46 l0_1 x18_2).f1))).heap[gb104]? = some (.cells #[.string ((rd_T46 l0_1 x18_2).f0), .string ((rd_T46 l0_1 x18_2).f1)] 46 (0, 0))) := ⟨by (with_reducible repeat (first | refine blk_drewN ?_ _ | refine blk_drew ?_ | refine blk_alloc ?_ _)); refine blk_put (cs := #[.string ((rd_T46 l0_1 x18_2).f0), .string (⟨#[]⟩ : ByteArray)]) ?_ 1 _ rfl; (with_reducible repeat (first | refine blk_drewN ?_ _ | refine blk_drew ?_ | refine blk_alloc ?_ _)); refine blk_put (cs := #[.string (⟨#[]⟩ : ByteArray), .string (⟨#[]⟩ : ByteArray)]) ?_ 0 _ rfl; (with_reducible repeat (first | refine blk_drewN ?_ _ | refine blk_drew ?_ | refine blk_alloc ?_ _)); exact BK104.out⟩
      have n2_ : Aside0 (Below w.heap.size w ((w21.setCell ⟨gb104, 0, none⟩ (.string ((rd_T46 l0_1 x18_2).f0))).setCell ⟨gb104, 1, none⟩ (.string ((rd_T46 l0_1 x18_2).f1)))) := ⟨by repeat (first | (with_reducible first | exact HB.out | apply below_alloc | apply pw_below_drewN | apply below_drew1 | refine below_set ?_ GE101.out | refine below_set ?_ GE104.out) | exact HB.out)⟩
      (try clear BK101)
      (try clear BK104)
      (try clear HB)
      generalize ((w21.setCell ⟨gb104, 0, none⟩ (.string ((rd_T46 l0_1 x18_2).f0))).setCell ⟨gb104, 1, none⟩ (.string ((rd_T46 l0_1 x18_2).f1))) = w24 at n0_ n1_ n2_ ⊢
      have BK101 := n0_
      have BK104 := n1_
      have HB := n2_
      clear n0_ n1_ n2_
      refine rn3 (blk_drew BK101.out) (blk_drew BK104.out) (below_drew1 HB.out) ?_
      clear BK101 BK104 HB
      intro BK101 BK104 HB
      refine start_ (n := 18) (S := fun w' => w'.cell? ⟨gb104, 0, none⟩ = some (.string ((rd_T46 l0_1 x18_2).f0)) ∧ w'.cell? ⟨gb104, 1, none⟩ = some (.string ((rd_T46 l0_1 x18_2).f1)) ∧ w'.cell? ⟨gb101, 0, none⟩ = some (.string a0_0) ∧ w'.cell? ⟨gb101, 1, none⟩ = some (.slice (some ad103) l0_1.length c0_1)) (ds := []) #[false, false, false, false, false, false, false, false, false, false, false, false, false, false, false, false, false, false] (by kernel_rfl) rfl rfl ⟨(blk_cell BK104.out 0).trans rfl, (blk_cell BK104.out 1).trans rfl, (blk_cell BK101.out 0).trans rfl, (blk_cell BK101.out 1).trans rfl⟩ (fun hHeld => ?_); refine with_tabW impl_GramOk.tab6 impl_GramOk.bits6 (fun HT_ HW_ => ?_)
      generalize w24.drew = w25 at BK101 BK104 HB hHeld ⊢
      refine pz 0 23 HT_ ?_
      refine tz 1 24 HT_ HW_ hHeld ?_
      refine oz 2 (some 25) HT_ (fun K hK => ?_)
      refine goes_ Tryd.func28 (by kernel_rfl) rfl #[.string ((rd_T46 l0_1 x18_2).f0)] (by rfl) rfl rfl q46_3 ?_
      with_reducible refine (impl_SignBig.calls ((rd_T46 l0_1 x18_2).f0) true _ A13.out).mono ?_
      rintro e w' ⟨rfl, ⟨nd, rfl⟩⟩
      refine ⟨_, rfl, ?_⟩
      refine hK.out _ _ ⟨(blk_cell BK104.out 0).trans rfl, (blk_cell BK104.out 1).trans rfl, (blk_cell BK101.out 0).trans rfl, (blk_cell BK101.out 1).trans rfl⟩ (fun hHeld => ?_)
      clear hK K
      refine norm_ (a' := ?_) ?_ ?_
      rotate_left
      ·show Act.put _ (some 25) _ = _
       simp only [Act.put, List.setIfInBounds_toArray, List.set_cons_zero, List.set_cons_succ, i64_w, i32_w]
       rfl
      refine pz 3 26 HT_ ?_
      refine pz 4 27 HT_ ?_
      refine pz 5 28 HT_ ?_
      refine tz 6 29 HT_ HW_ hHeld ?_
      refine oz 7 (some 30) HT_ (fun K hK => ?_)
      refine goes_ Tryd.func105 (by kernel_rfl) rfl #[.string ((rd_T46 l0_1 x18_2).f1), .int .i64 4] (by rfl) rfl rfl q46_3 ?_
      with_reducible refine (impl_areSigns.calls ((rd_T46 l0_1 x18_2).f1) 4 true _ A15.out).mono ?_
      rintro e w26 ⟨rfl, hb⟩
      refine ⟨_, rfl, ?_⟩
      refine rn3 (blk_below (g := gb101) (o := .cells #[.string a0_0, .slice (some ad103) l0_1.length c0_1] 25 (0, 0)) q46_2 hb) (blk_below (g := gb104) (o := .cells #[.string ((rd_T46 l0_1 x18_2).f0), .string ((rd_T46 l0_1 x18_2).f1)] 46 (0, 0)) q46_5 hb) (below_step q46_1 hb) ?_
      clear BK101 BK104 HB
      intro BK101 BK104 HB
      (try clear hb)
      (try clear hb2)
      (try clear hk)
      (try clear hi)
      have q27 : (x18_2 : Int) ≤ ((l0_1.length : Int) : Int) := of_decide_eq_true q46_4
      obtain ⟨i027, hi027, _, hsz27, _⟩ := info_parts info46
      have hroom27 : l0_1.length ≤ c0_1 := HC0_1.out
      have hC27 : Kd.C k46 _ (some ad103) l0_1.length l0_1 := HR0_1.out
      have hcut27 := cut_to (P := Tryd.prog) 23 46 .i64 Tryd.underlying23 hi027 (some ad103) l0_1.length c0_1 x18_2 (of_decide_eq_true q46_4) q27 hroom27
      have hr27 := Kd.C_take (m := (x18_2 : Int).toNat) hC27 (by omega)
      have hy27 : y107.length = (x18_2 : Int).toNat := (by rw [Ny107.out, List.length_take]; omega)
      rw [← Ny107.out] at hr27
      rw [← hy27] at hcut27
      have HR110 := Aside0.mk hr27
      have HC110 := Aside0.mk (show y107.length ≤ c0_1 from (by omega))
      clear hr27 hC27 hroom27 hi027 hsz27
      have KY27 := Aside0.mk hy27
      clear hy27
      replace q27 := eq_true q27
      refine hK.out _ _ ⟨(blk_cell BK104.out 0).trans rfl, (blk_cell BK104.out 1).trans rfl, (blk_cell BK101.out 0).trans rfl, (blk_cell BK101.out 1).trans rfl⟩ (fun hHeld => ?_)
      clear hK K
      refine norm_ (a' := ?_) ?_ ?_
      rotate_left
      ·show Act.put _ (some 30) _ = _
       simp only [Act.put, List.setIfInBounds_toArray, List.set_cons_zero, List.set_cons_succ, i64_w, i32_w]
       rfl
      refine pz 8 31 HT_ ?_
      refine pz 9 32 HT_ ?_
      refine pz 10 33 HT_ ?_
      refine pz 11 34 HT_ ?_
      refine pz 13 36 HT_ ?_
      refine tz 12 35 HT_ HW_ hHeld ?_
      refine pz 14 37 HT_ ?_
      refine tz 15 38 HT_ HW_ hHeld ?_
      refine oz 16 (some 39) HT_ (fun K hK => ?_)
      refine goes_ Tryd.func106 (by kernel_rfl) rfl #[.slice (some ad103) y107.length c0_1, .agg #[.string ((rd_T46 l0_1 x18_2).f0), .string ((rd_T46 l0_1 x18_2).f1)]] (by rfl) rfl rfl q46_3 ?_
      with_reducible refine (impl_Rule_106.calls k2 _ _ y107 ((rd_T46 l0_1 x18_2).f0) ((rd_T46 l0_1 x18_2).f1) true _ ?side1 ?side2 A19.out).mono ?_
      (case side1 => exact q46_6)
      (case side2 => exact HC110.out)
      rintro e w28 ⟨rfl, hb⟩
      refine ⟨_, rfl, ?_⟩
      refine rn3 (blk_below (g := gb101) (o := .cells #[.string a0_0, .slice (some ad103) l0_1.length c0_1] 25 (0, 0)) q46_2 hb) (blk_below (g := gb104) (o := .cells #[.string ((rd_T46 l0_1 x18_2).f0), .string ((rd_T46 l0_1 x18_2).f1)] 46 (0, 0)) q46_5 hb) (below_step q46_1 hb) ?_
      clear BK101 BK104 HB
      intro BK101 BK104 HB
      (try clear hb)
      (try clear hb2)
      (try clear hk)
      (try clear hi)
      refine hK.out _ _ ⟨(blk_cell BK104.out 0).trans rfl, (blk_cell BK104.out 1).trans rfl, (blk_cell BK101.out 0).trans rfl, (blk_cell BK101.out 1).trans rfl⟩ (fun hHeld => ?_)
      clear hK K
      refine norm_ (a' := ?_) ?_ ?_
      rotate_left
      ·show Act.put _ (some 39) _ = _
       simp only [Act.put, List.setIfInBounds_toArray, List.set_cons_zero, List.set_cons_succ, i64_w, i32_w]
       rfl
      refine pz 17 40 HT_ ?_
      refine dz HT_ ?_
      try go_wp2
      go_ret
      exact ⟨by first | rfl | (simp [errW_none, errW_some] <;> rfl) | (simp [*, errW_none, errW_some] <;> rfl), by repeat (first | (with_reducible first | exact HB.out | apply below_alloc | apply pw_below_drewN | apply below_drew1 | refine below_set ?_ GE101.out | refine below_set ?_ GE104.out) | exact HB.out)⟩
     replace c20 := Bool.eq_false_iff.mpr c20
     subst c20
     have H1 : (impl_GramOk.l0 k2 l0_1 (l0_1.length : Int) (wrap64 (x18_2 + 1)) a0_0 l0_1) = some r := by rw [if_neg (show ¬ (false = true) by decide)] at H; exact H
     clear H
     have H := H1
     clear H1
     have H' := Aside0.mk H
     clear H
     have p103 : 0 ≤ (x18_2 : Int) := of_decide_eq_true q46_4
     have q103 : x18_2 < (l0_1.length : Int) := of_decide_eq_true q46_4
     obtain ⟨ad103, e103, hx103_0, hx103_1⟩ := at_T46 HR0_1.out x18_2 p103 q103
     cases e103
     replace hx103_0 := (HB.out.cell (World.block_lt_of_cell? w _ hx103_0)).trans hx103_0
     replace hx103_1 := (HB.out.cell (World.block_lt_of_cell? w _ hx103_1)).trans hx103_1
     replace p103 := eq_true p103
     replace q103 := eq_true q103
     try go_wp2_with (first | ((with_reducible refine gate_dst (N := 4) rfl ?_); (try (refine gate_guard (by rfl) ?_; dsimp only)); refine box_event ?hg (N := 4) ?hd (cs := #[.string (⟨#[]⟩ : ByteArray), .string (⟨#[]⟩ : ByteArray)]) (t := 46) ?hr ?_; (case hd => rfl); (case hg => rfl); (case hr => first | (go_simp; done) | (go_simp; rfl)); intro gb104 hg w29 hbox hb; refine rn7 (blk_below (g := gb101) (o := .cells #[.string a0_0, .slice (some ad103) l0_1.length c0_1] 25 (0, 0)) q46_2 hb) (below_step q46_1 hb) (hbox) ((by rw [hg]; exact (below_size q46_1) : w.heap.size ≤ gb104)) ((by rw [hg]; exact (below_size q46_1) : w.heap.size ≤ gb104)) ((by rw [hg]; exact Nat.ne_of_lt (blk_lt (g := gb101) (o := .cells #[.string a0_0, .slice (some ad103) l0_1.length c0_1] 25 (0, 0)) q46_2) : gb101 ≠ gb104)) ((by rw [hg]; exact Nat.ne_of_gt (blk_lt (g := gb101) (o := .cells #[.string a0_0, .slice (some ad103) l0_1.length c0_1] 25 (0, 0)) q46_2) : gb104 ≠ gb101)) ?_; clear BK101 HB; intro BK101 HB BK104 GW104 GE104 NB101_104 NB104_101; clear hb hbox hg; have hnb30 := NB104_101.out; have hnc30 := NB101_104.out; have hcz31_0 : w29.cell? ⟨gb104, 0, none⟩ = some (.string (⟨#[]⟩ : ByteArray)) := (blk_cell BK104.out 0).trans rfl; have hcz31_1 : w29.cell? ⟨gb104, 1, none⟩ = some (.string (⟨#[]⟩ : ByteArray)) := (blk_cell BK104.out 1).trans rfl; have hfz31_0 := blk_frozen BK104.out 0; have hfz31_1 := blk_frozen BK104.out 1))
     have n0_ : Aside0 (((w29.setCell ⟨gb104, 0, none⟩ (.string ((rd_T46 l0_1 x18_2).f0))).setCell ⟨gb104, 1, none⟩ (.string ((rd_T46 l0_1 x18_2).f1))).heap[gb101]? = some (.cells #[.string a0_0, .slice (some ad103) l0_1.length c0_1] 25 (0, 0))) := ⟨by (with_reducible repeat (first | refine blk_drewN ?_ _ | refine blk_drew ?_ | refine blk_alloc ?_ _)); refine blk_far ?_ NB101_104.out _; (with_reducible repeat (first | refine blk_drewN ?_ _ | refine blk_drew ?_ | refine blk_alloc ?_ _)); refine blk_far ?_ NB101_104.out _; (with_reducible repeat (first | refine blk_drewN ?_ _ | refine blk_drew ?_ | refine blk_alloc ?_ _)); exact BK101.out⟩
     have n1_ : Aside0 (((w29.setCell ⟨gb104, 0, none⟩ (.string ((rd_T46 l0_1 x18_2).f0))).setCell ⟨gb104, 1, none⟩ (.string ((rd_T46 l0_1 x18_2).f1))).heap[gb104]? = some (.cells #[.string ((rd_T46 l0_1 x18_2).f0), .string ((rd_T46 l0_1 x18_2).f1)] 46 (0, 0))) := ⟨by (with_reducible repeat (first | refine blk_drewN ?_ _ | refine blk_drew ?_ | refine blk_alloc ?_ _)); refine blk_put (cs := #[.string ((rd_T46 l0_1 x18_2).f0), .string (⟨#[]⟩ : ByteArray)]) ?_ 1 _ rfl; (with_reducible repeat (first | refine blk_drewN ?_ _ | refine blk_drew ?_ | refine blk_alloc ?_ _)); refine blk_put (cs := #[.string (⟨#[]⟩ : ByteArray), .string (⟨#[]⟩ : ByteArray)]) ?_ 0 _ rfl; (with_reducible repeat (first | refine blk_drewN ?_ _ | refine blk_drew ?_ | refine blk_alloc ?_ _)); exact BK104.out⟩
     have n2_ : Aside0 (Below w.heap.size w ((w29.setCell ⟨gb104, 0, none⟩ (.string ((rd_T46 l0_1 x18_2).f0))).setCell ⟨gb104, 1, none⟩ (.string ((rd_T46 l0_1 x18_2).f1)))) := ⟨by repeat (first | (with_reducible first | exact HB.out | apply below_alloc | apply pw_below_drewN | apply below_drew1 | refine below_set ?_ GE101.out | refine below_set ?_ GE104.out) | exact HB.out)⟩
     (try clear BK101)
     (try clear BK104)
     (try clear HB)
     generalize ((w29.setCell ⟨gb104, 0, none⟩ (.string ((rd_T46 l0_1 x18_2).f0))).setCell ⟨gb104, 1, none⟩ (.string ((rd_T46 l0_1 x18_2).f1))) = w32 at n0_ n1_ n2_ ⊢
     have BK101 := n0_
     have BK104 := n1_
     have HB := n2_
     clear n0_ n1_ n2_
     refine rn3 (blk_drew BK101.out) (blk_drew BK104.out) (below_drew1 HB.out) ?_
     clear BK101 BK104 HB
     intro BK101 BK104 HB
     refine start_ (n := 18) (S := fun w' => w'.cell? ⟨gb104, 0, none⟩ = some (.string ((rd_T46 l0_1 x18_2).f0)) ∧ w'.cell? ⟨gb104, 1, none⟩ = some (.string ((rd_T46 l0_1 x18_2).f1)) ∧ w'.cell? ⟨gb101, 0, none⟩ = some (.string a0_0) ∧ w'.cell? ⟨gb101, 1, none⟩ = some (.slice (some ad103) l0_1.length c0_1)) (ds := []) #[false, false, false, false, false, false, false, false, false, false, false, false, false, false, false, false, false, false] (by kernel_rfl) rfl rfl ⟨(blk_cell BK104.out 0).trans rfl, (blk_cell BK104.out 1).trans rfl, (blk_cell BK101.out 0).trans rfl, (blk_cell BK101.out 1).trans rfl⟩ (fun hHeld => ?_); refine with_tabW impl_GramOk.tab6 impl_GramOk.bits6 (fun HT_ HW_ => ?_)
     generalize w32.drew = w33 at BK101 BK104 HB hHeld ⊢
     refine pz 0 23 HT_ ?_
     refine tz 1 24 HT_ HW_ hHeld ?_
     refine oz 2 (some 25) HT_ (fun K hK => ?_)
     refine goes_ Tryd.func28 (by kernel_rfl) rfl #[.string ((rd_T46 l0_1 x18_2).f0)] (by rfl) rfl rfl q46_3 ?_
     with_reducible refine (impl_SignBig.calls ((rd_T46 l0_1 x18_2).f0) true _ A13.out).mono ?_
     rintro e w' ⟨rfl, ⟨nd, rfl⟩⟩
     refine ⟨_, rfl, ?_⟩
     refine hK.out _ _ ⟨(blk_cell BK104.out 0).trans rfl, (blk_cell BK104.out 1).trans rfl, (blk_cell BK101.out 0).trans rfl, (blk_cell BK101.out 1).trans rfl⟩ (fun hHeld => ?_)
     clear hK K
     refine norm_ (a' := ?_) ?_ ?_
     rotate_left
     ·show Act.put _ (some 25) _ = _
      simp only [Act.put, List.setIfInBounds_toArray, List.set_cons_zero, List.set_cons_succ, i64_w, i32_w]
      rfl
     refine pz 3 26 HT_ ?_
     refine pz 4 27 HT_ ?_
     refine pz 5 28 HT_ ?_
     refine tz 6 29 HT_ HW_ hHeld ?_
     refine oz 7 (some 30) HT_ (fun K hK => ?_)
     refine goes_ Tryd.func105 (by kernel_rfl) rfl #[.string ((rd_T46 l0_1 x18_2).f1), .int .i64 4] (by rfl) rfl rfl q46_3 ?_
     with_reducible refine (impl_areSigns.calls ((rd_T46 l0_1 x18_2).f1) 4 true _ A15.out).mono ?_
     rintro e w34 ⟨rfl, hb⟩
     refine ⟨_, rfl, ?_⟩
     refine rn3 (blk_below (g := gb101) (o := .cells #[.string a0_0, .slice (some ad103) l0_1.length c0_1] 25 (0, 0)) q46_2 hb) (blk_below (g := gb104) (o := .cells #[.string ((rd_T46 l0_1 x18_2).f0), .string ((rd_T46 l0_1 x18_2).f1)] 46 (0, 0)) q46_5 hb) (below_step q46_1 hb) ?_
     clear BK101 BK104 HB
     intro BK101 BK104 HB
     (try clear hb)
     (try clear hb2)
     (try clear hk)
     (try clear hi)
     have q35 : (x18_2 : Int) ≤ ((l0_1.length : Int) : Int) := of_decide_eq_true q46_4
     obtain ⟨i035, hi035, _, hsz35, _⟩ := info_parts info46
     have hroom35 : l0_1.length ≤ c0_1 := HC0_1.out
     have hC35 : Kd.C k46 _ (some ad103) l0_1.length l0_1 := HR0_1.out
     have hcut35 := cut_to (P := Tryd.prog) 23 46 .i64 Tryd.underlying23 hi035 (some ad103) l0_1.length c0_1 x18_2 (of_decide_eq_true q46_4) q35 hroom35
     have hr35 := Kd.C_take (m := (x18_2 : Int).toNat) hC35 (by omega)
     have hy35 : y107.length = (x18_2 : Int).toNat := (by rw [Ny107.out, List.length_take]; omega)
     rw [← Ny107.out] at hr35
     rw [← hy35] at hcut35
     have HR110 := Aside0.mk hr35
     have HC110 := Aside0.mk (show y107.length ≤ c0_1 from (by omega))
     clear hr35 hC35 hroom35 hi035 hsz35
     have KY35 := Aside0.mk hy35
     clear hy35
     replace q35 := eq_true q35
     refine hK.out _ _ ⟨(blk_cell BK104.out 0).trans rfl, (blk_cell BK104.out 1).trans rfl, (blk_cell BK101.out 0).trans rfl, (blk_cell BK101.out 1).trans rfl⟩ (fun hHeld => ?_)
     clear hK K
     refine norm_ (a' := ?_) ?_ ?_
     rotate_left
     ·show Act.put _ (some 30) _ = _
      simp only [Act.put, List.setIfInBounds_toArray, List.set_cons_zero, List.set_cons_succ, i64_w, i32_w]
      rfl
     refine pz 8 31 HT_ ?_
     refine pz 9 32 HT_ ?_
     refine pz 10 33 HT_ ?_
     refine pz 11 34 HT_ ?_
     refine pz 13 36 HT_ ?_
     refine tz 12 35 HT_ HW_ hHeld ?_
     refine pz 14 37 HT_ ?_
     refine tz 15 38 HT_ HW_ hHeld ?_
     refine oz 16 (some 39) HT_ (fun K hK => ?_)
     refine goes_ Tryd.func106 (by kernel_rfl) rfl #[.slice (some ad103) y107.length c0_1, .agg #[.string ((rd_T46 l0_1 x18_2).f0), .string ((rd_T46 l0_1 x18_2).f1)]] (by rfl) rfl rfl q46_3 ?_
     with_reducible refine (impl_Rule_106.calls k2 _ _ y107 ((rd_T46 l0_1 x18_2).f0) ((rd_T46 l0_1 x18_2).f1) false _ ?side1 ?side2 A19.out).mono ?_
     (case side1 => exact q46_6)
     (case side2 => exact HC110.out)
     rintro e w36 ⟨rfl, hb⟩
     refine ⟨_, rfl, ?_⟩
     refine rn3 (blk_below (g := gb101) (o := .cells #[.string a0_0, .slice (some ad103) l0_1.length c0_1] 25 (0, 0)) q46_2 hb) (blk_below (g := gb104) (o := .cells #[.string ((rd_T46 l0_1 x18_2).f0), .string ((rd_T46 l0_1 x18_2).f1)] 46 (0, 0)) q46_5 hb) (below_step q46_1 hb) ?_
     clear BK101 BK104 HB
     intro BK101 BK104 HB
     (try clear hb)
     (try clear hb2)
     (try clear hk)
     (try clear hi)
     refine hK.out _ _ ⟨(blk_cell BK104.out 0).trans rfl, (blk_cell BK104.out 1).trans rfl, (blk_cell BK101.out 0).trans rfl, (blk_cell BK101.out 1).trans rfl⟩ (fun hHeld => ?_)
     clear hK K
     refine norm_ (a' := ?_) ?_ ?_
     rotate_left
     ·show Act.put _ (some 39) _ = _
      simp only [Act.put, List.setIfInBounds_toArray, List.set_cons_zero, List.set_cons_succ, i64_w, i32_w]
      rfl
     refine pz 17 40 HT_ ?_
     refine dz HT_ ?_
     try go_wp2
     go_roundg k2
     case measure => have := HJ1.out; have := HK2.out; omega
     case rel => exact ⟨(wrap64 (x18_2 + 1)), q46_7, H', ⟨by have := HJ1.out; have := HK2.out; omega⟩, ⟨by (with_reducible repeat (first | refine blk_drewN ?_ _ | refine blk_drew ?_ | refine blk_alloc ?_ _)); exact BK101.out⟩, ⟨by repeat (first | (with_reducible first | exact HB.out | apply below_alloc | apply pw_below_drewN | apply below_drew1 | refine below_set ?_ GE101.out | refine below_set ?_ GE104.out) | exact HB.out)⟩⟩
/-! ### impl_isMost: function 95 -/
def impl_isMost.f (a0 : Int) : Option (Bool) := if a0 ≥ 0 then (some (decide (a0 ≤ 4))) else (some false)
set_option maxHeartbeats 8000000 in
set_option maxRecDepth 100000 in
theorem impl_isMost.calls (a0 : Int) (r : Bool) (w : World) (h : impl_isMost.f a0 = some r) :
  Calls Tryd.prog 95 #[.int .i64 a0] w fun e w' => e = .returned (.bool r) ∧ Drawn0 w w' := by
 have H : (if a0 ≥ 0 then (some (decide (a0 ≤ 4))) else (some false)) = some r := h
 clear h
 by_cases c2 : a0 ≥ 0
 ·rw [if_pos c2] at H
  have c2b0 : decide (0 ≤ a0) = true := decide_eq_true c2
  clear c2
  obtain rfl := Option.some.inj H
  go_enter Tryd.func95, Tryd.ntmps95
  go_wp2
  go_ret
  exact ⟨by first | rfl | (simp; done) | (simp [*]; done), by repeat (first | exact Drawn0.refl _ | apply Drawn0.step)⟩
 rw [if_neg c2] at H
 have c2b0 : decide (0 ≤ a0) = false := decide_eq_false c2
 clear c2
 obtain rfl := Option.some.inj H
 go_enter Tryd.func95, Tryd.ntmps95
 go_wp2
 go_ret
 exact ⟨by first | rfl | (simp; done) | (simp [*]; done), by repeat (first | exact Drawn0.refl _ | apply Drawn0.step)⟩
/-! ### impl_wordsUpTo: function 96 -/
mutual
def impl_wordsUpTo.l0 : Nat → ByteArray → List ByteArray → List ByteArray → Int → Int → Option (List ByteArray)
 | 0, _, _, _, _, _ => none
 | k + 1, x0, x5, x6, x13, x14 => if x14 < x13 then (impl_wordsUpTo.l1 k x0 x5 (([] : List ByteArray)) x13 x14 x6 (x6.length : Int) 0) else (some x5)
def impl_wordsUpTo.l1 : Nat → ByteArray → List ByteArray → List ByteArray → Int → Int → List ByteArray → Int → Int → Option (List ByteArray)
 | 0, _, _, _, _, _, _, _, _ => none
 | k + 1, x0, x5, x7, x13, x14, x17, x18, x19 => if x19 < x18 then (if 0 ≤ x19 then (if x19 < (x17.length : Int) then (impl_wordsUpTo.l2 k x0 x5 x7 (rdOf ByteArray.empty x17 x19) x13 x14 x17 x18 x19 (x0.size : Int) 0) else (none)) else (none)) else (if x5.length + x7.length < 8796093022208 then (impl_wordsUpTo.l0 k x0 (x5 ++ x7) x7 x13 (wrap64 (x14 + 1))) else (none))
def impl_wordsUpTo.l2 : Nat → ByteArray → List ByteArray → List ByteArray → ByteArray → Int → Int → List ByteArray → Int → Int → Int → Int → Option (List ByteArray)
 | 0, _, _, _, _, _, _, _, _, _, _, _ => none
 | k + 1, x0, x5, x7, x9, x13, x14, x17, x18, x19, x24, x25 => if x25 < x24 then (if 0 ≤ x25 then (if x25 ≤ (wrap64 (x25 + 1)) then (if (wrap64 (x25 + 1)) ≤ (x0.size : Int) then (if x9.size + (x0.extract (x25 : Int).toNat ((wrap64 (x25 + 1)) : Int).toNat).size ≤ 9223372036854775807 then (if x7.length < 8796093022208 then (impl_wordsUpTo.l2 k x0 x5 (x7 ++ [x9 ++ (x0.extract (x25 : Int).toNat ((wrap64 (x25 + 1)) : Int).toNat)]) x9 x13 x14 x17 x18 x19 x24 (wrap64 (x25 + 1))) else (none)) else (none)) else (none)) else (none)) else (none)) else (impl_wordsUpTo.l1 k x0 x5 x7 x13 x14 x17 x18 (wrap64 (x19 + 1)))
end
def impl_wordsUpTo.f (k : Nat) (a0 : ByteArray) (a1 : Int) : Option (List ByteArray) := impl_wordsUpTo.l0 k a0 (([(⟨#[]⟩ : ByteArray)] : List ByteArray)) (([(⟨#[]⟩ : ByteArray)] : List ByteArray)) a1 0
theorem impl_wordsUpTo.mono_l : ∀ k, (∀ y0 y1 y2 y3 y4, LeO (impl_wordsUpTo.l0 k y0 y1 y2 y3 y4) (impl_wordsUpTo.l0 (k + 1) y0 y1 y2 y3 y4)) ∧ (∀ y0 y1 y2 y3 y4 y5 y6 y7, LeO (impl_wordsUpTo.l1 k y0 y1 y2 y3 y4 y5 y6 y7) (impl_wordsUpTo.l1 (k + 1) y0 y1 y2 y3 y4 y5 y6 y7)) ∧ (∀ y0 y1 y2 y3 y4 y5 y6 y7 y8 y9 y10, LeO (impl_wordsUpTo.l2 k y0 y1 y2 y3 y4 y5 y6 y7 y8 y9 y10) (impl_wordsUpTo.l2 (k + 1) y0 y1 y2 y3 y4 y5 y6 y7 y8 y9 y10))
 | 0 => ⟨fun _ _ _ _ _ r h => by simp [impl_wordsUpTo.l0] at h, fun _ _ _ _ _ _ _ _ r h => by simp [impl_wordsUpTo.l1] at h, fun _ _ _ _ _ _ _ _ _ _ _ r h => by simp [impl_wordsUpTo.l2] at h⟩
 | k + 1 => by
  obtain ⟨ih0, ih1, ih2⟩ := impl_wordsUpTo.mono_l k
  refine ⟨?_, ?_, ?_⟩
  ·intro y0 y1 y2 y3 y4
   unfold impl_wordsUpTo.l0
   repeat' first
   | (with_reducible exact ih0 _ _ _ _ _)
   | (with_reducible exact ih1 _ _ _ _ _ _ _ _)
   | (with_reducible exact ih2 _ _ _ _ _ _ _ _ _ _ _)
   | (with_reducible exact LeO.refl _)
   | (with_reducible exact LeO.none _)
   | (with_reducible refine LeO.ite ?_ ?_)
   | (with_reducible refine LeO.bind ?_ (fun _ => ?_))
   | exact ih0 _ _ _ _ _
   | exact ih1 _ _ _ _ _ _ _ _
   | exact ih2 _ _ _ _ _ _ _ _ _ _ _
   | exact LeO.none _
   | refine LeO.ite ?_ ?_
   | refine LeO.bind ?_ (fun _ => ?_)
  ·intro y0 y1 y2 y3 y4 y5 y6 y7
   unfold impl_wordsUpTo.l1
   repeat' first
   | (with_reducible exact ih0 _ _ _ _ _)
   | (with_reducible exact ih1 _ _ _ _ _ _ _ _)
   | (with_reducible exact ih2 _ _ _ _ _ _ _ _ _ _ _)
   | (with_reducible exact LeO.refl _)
   | (with_reducible exact LeO.none _)
   | (with_reducible refine LeO.ite ?_ ?_)
   | (with_reducible refine LeO.bind ?_ (fun _ => ?_))
   | exact ih0 _ _ _ _ _
   | exact ih1 _ _ _ _ _ _ _ _
   | exact ih2 _ _ _ _ _ _ _ _ _ _ _
   | exact LeO.none _
   | refine LeO.ite ?_ ?_
   | refine LeO.bind ?_ (fun _ => ?_)
  intro y0 y1 y2 y3 y4 y5 y6 y7 y8 y9 y10
  unfold impl_wordsUpTo.l2
  repeat' first
  | (with_reducible exact ih0 _ _ _ _ _)
  | (with_reducible exact ih1 _ _ _ _ _ _ _ _)
  | (with_reducible exact ih2 _ _ _ _ _ _ _ _ _ _ _)
  | (with_reducible exact LeO.refl _)
  | (with_reducible exact LeO.none _)
  | (with_reducible refine LeO.ite ?_ ?_)
  | (with_reducible refine LeO.bind ?_ (fun _ => ?_))
  | exact ih0 _ _ _ _ _
  | exact ih1 _ _ _ _ _ _ _ _
  | exact ih2 _ _ _ _ _ _ _ _ _ _ _
  | exact LeO.none _
  | refine LeO.ite ?_ ?_
  | refine LeO.bind ?_ (fun _ => ?_)
theorem impl_wordsUpTo.mono : ∀ a0 a1 k, LeO (impl_wordsUpTo.f k a0 a1) (impl_wordsUpTo.f (k + 1) a0 a1) := by
 intro a0 a1 k
 obtain ⟨ih0, ih1, ih2⟩ := impl_wordsUpTo.mono_l k
 unfold impl_wordsUpTo.f
 repeat' first
   | (with_reducible exact ih0 _ _ _ _ _)
   | (with_reducible exact ih1 _ _ _ _ _ _ _ _)
   | (with_reducible exact ih2 _ _ _ _ _ _ _ _ _ _ _)
   | (with_reducible exact LeO.refl _)
   | (with_reducible exact LeO.none _)
   | (with_reducible refine LeO.ite ?_ ?_)
   | (with_reducible refine LeO.bind ?_ (fun _ => ?_))
   | exact ih0 _ _ _ _ _
   | exact ih1 _ _ _ _ _ _ _ _
   | exact ih2 _ _ _ _ _ _ _ _ _ _ _
   | exact LeO.none _
   | refine LeO.ite ?_ ?_
   | refine LeO.bind ?_ (fun _ => ?_)
set_option maxHeartbeats 8000000 in
set_option maxRecDepth 100000 in
theorem impl_wordsUpTo.calls (k : Nat) (a0 : ByteArray) (a1 : Int) (r : List ByteArray) (w : World) (h : impl_wordsUpTo.f k a0 a1 = some r) :
  Calls Tryd.prog 96 #[.string a0, .int .i64 a1] w fun e w' => ∃ v0_ : Value, e = .returned (v0_) ∧ Kd.R Kd.string 9 w' w.heap.size (fun _ => True) v0_ r ∧ Below w.heap.size w w' := by
 have HB := Aside0.mk (Below.refl w.heap.size w)
 have H : (impl_wordsUpTo.l0 k a0 (([(⟨#[]⟩ : ByteArray)] : List ByteArray)) (([(⟨#[]⟩ : ByteArray)] : List ByteArray)) a1 0) = some r := h
 clear h
 obtain ⟨y101, hy101⟩ : ∃ y_ : List ByteArray, y_ = (([(⟨#[]⟩ : ByteArray)] : List ByteArray)) := ⟨_, rfl⟩
 replace H : (impl_wordsUpTo.l0 k a0 y101 (([(⟨#[]⟩ : ByteArray)] : List ByteArray)) a1 0) = some r := by first | (rw [hy101]; with_reducible exact H) | (have H2_ := (Option.bind_some _ _).symm.trans H; rw [hy101]; with_reducible exact H2_) | (have H2_ := (Option.bind_some _ _).symm.trans H; with_reducible exact H2_) | with_reducible exact H | (rw [hy101]; exact H) | exact H
 have Ny101 := Aside0.mk hy101
 clear hy101
 obtain ⟨y104, hy104⟩ : ∃ y_ : List ByteArray, y_ = (([(⟨#[]⟩ : ByteArray)] : List ByteArray)) := ⟨_, rfl⟩
 replace H : (impl_wordsUpTo.l0 k a0 y101 y104 a1 0) = some r := by first | (rw [hy104]; with_reducible exact H) | (have H2_ := (Option.bind_some _ _).symm.trans H; rw [hy104]; with_reducible exact H2_) | (have H2_ := (Option.bind_some _ _).symm.trans H; with_reducible exact H2_) | with_reducible exact H | (rw [hy104]; exact H) | exact H
 have Ny104 := Aside0.mk hy104
 clear hy104
 have H' := Aside0.mk H
 clear H
 go_enter Tryd.func96, Tryd.ntmps96
 go_wp2_with (first | ((with_reducible refine gate_dst (N := 11) rfl ?_); refine Kd.R_lit Kd.string _ 9 ?hg (N := 11) ?hd (xs := ([(⟨#[]⟩ : ByteArray)] : List ByteArray)) (inner := [.string (⟨#[]⟩ : ByteArray)]) (ok := fun _ => True) (okp := fun _ => True) ?hr ?hp (fun _ hk => hk) trivial (Below.refl _ _) (Nat.le_refl _) (by simp) ?_; (case hd => rfl); (case hg => rfl); (case hr => first | (go_simp; done) | (go_simp; rfl)); (case hp => exact (Reps.one (show Kd.M Kd.string _ _ _ (⟨#[]⟩ : ByteArray) [.string (⟨#[]⟩ : ByteArray)] from rfl) (Reps.none _ _))); intro v102 w3 ho4 hb hg_ hnew_; clear hg_ hnew_; (first | rw [← Ny101.out] at ho4 | (simp only [Int.reduceToNat] at ho4; rw [← Ny101.out] at ho4)); refine rn2 (Kd.R_lower ho4 (below_size (by repeat (first | (with_reducible first | exact HB.out | apply below_alloc | apply pw_below_drewN | apply below_drew1) | exact HB.out)))) (below_step (by repeat (first | (with_reducible first | exact HB.out | apply below_alloc | apply pw_below_drewN | apply below_drew1) | exact HB.out)) hb) ?_; clear HB; intro HO103 HB; clear hb ho4) | ((with_reducible refine gate_dst (N := 12) rfl ?_); refine Kd.R_lit Kd.string _ 9 ?hg (N := 12) ?hd (xs := ([(⟨#[]⟩ : ByteArray)] : List ByteArray)) (inner := [.string (⟨#[]⟩ : ByteArray)]) (ok := fun _ => True) (okp := fun _ => True) ?hr ?hp (fun _ hk => hk) trivial (Below.refl _ _) (Nat.le_refl _) (by simp) ?_; (case hd => rfl); (case hg => rfl); (case hr => first | (go_simp; done) | (go_simp; rfl)); (case hp => exact (Reps.one (show Kd.M Kd.string _ _ _ (⟨#[]⟩ : ByteArray) [.string (⟨#[]⟩ : ByteArray)] from rfl) (Reps.none _ _))); intro v105 w5 ho6 hb hg_ hnew_; clear hg_ hnew_; (first | rw [← Ny104.out] at ho6 | (simp only [Int.reduceToNat] at ho6; rw [← Ny104.out] at ho6)); refine rn3 (Kd.R_elder' (by (with_reducible repeat (first | apply Kd.R_alloc | apply Kd.R_drewN | apply Kd.R_drew)); exact HO103.out) (Kd.R_base ho6) hb) (Kd.R_lower (Kd.R_new' ho6 (Kd.R_lt (by (with_reducible repeat (first | apply Kd.R_alloc | apply Kd.R_drewN | apply Kd.R_drew)); exact HO103.out))) (below_size (by repeat (first | (with_reducible first | exact HB.out | apply below_alloc | apply pw_below_drewN | apply below_drew1) | exact HB.out)))) (below_step (by repeat (first | (with_reducible first | exact HB.out | apply below_alloc | apply pw_below_drewN | apply below_drew1) | exact HB.out)) hb) ?_; clear HO103 HB; intro HO103 HO106 HB; clear hb ho6))
 go_loopg [5, 6, 14] k (fun kq v5 v6 v14 w' => ∃ (x5_1 : List ByteArray) (x6_1 : List ByteArray) (x14_1 : Int), v14 = .int .i64 x14_1 ∧ Aside0 (impl_wordsUpTo.l0 kq a0 x5_1 x6_1 a1 x14_1 = some r) ∧ Aside0 (kq ≤ k) ∧ Aside0 (Kd.R Kd.string 9 w' w.heap.size (fun k_ => some k_ ≠ (v6 : Value).ownBlock) v5 x5_1) ∧ Aside0 (Kd.R Kd.string 9 w' w.heap.size (fun k_ => some k_ ≠ (v5 : Value).ownBlock) v6 x6_1) ∧ Aside0 (Below w.heap.size w w'))
 case atStart => exact ⟨(y101), (y104), (0), (by first | rfl | (simp; done) | (simp [*]; done)), H', ⟨Nat.le_refl _⟩, ⟨by (with_reducible repeat (first | apply Kd.R_alloc | apply Kd.R_drewN | apply Kd.R_drew)); exact Kd.R_mono HO103.out (fun _ hk => hk.2)⟩, ⟨by (with_reducible repeat (first | apply Kd.R_alloc | apply Kd.R_drewN | apply Kd.R_drew)); exact Kd.R_mono HO106.out (fun _ hk => hk.2)⟩, ⟨by repeat (first | (with_reducible first | exact HB.out | apply below_alloc | apply pw_below_drewN | apply below_drew1) | exact HB.out)⟩⟩
 case round =>
  clear H'
  try clear p2
  obtain ⟨x5_1, x6_1, x14_1, rfl, HA, HK1, HO_5, HO_6, HB⟩ := hrel
  cases gk with
  | zero => exact absurd HA.out (by simp [impl_wordsUpTo.l0])
  | succ k1 =>
   have H := HA.out
   clear HA
   simp only [impl_wordsUpTo.l0] at H
   by_cases c7 : x14_1 < a1
   rotate_left
   ·rw [if_neg c7] at H
    have c7b0 : decide (x14_1 < a1) = false := decide_eq_false c7
    clear c7
    obtain rfl := Option.some.inj H
    go_wp2
    go_ret
    exact ⟨_, by first | rfl | (simp [errW_none, errW_some] <;> rfl) | (simp [*, errW_none, errW_some] <;> rfl), by (with_reducible repeat (first | apply Kd.R_alloc | apply Kd.R_drewN | apply Kd.R_drew)); exact Kd.R_mono HO_5.out (fun _ hk => trivial), by repeat (first | (with_reducible first | exact HB.out | apply below_alloc | apply pw_below_drewN | apply below_drew1) | exact HB.out)⟩
   rw [if_pos c7] at H
   have c7b0 : decide (x14_1 < a1) = true := decide_eq_true c7
   clear c7
   obtain ⟨y107, hy107⟩ : ∃ y_ : List ByteArray, y_ = (([] : List ByteArray)) := ⟨_, rfl⟩
   replace H : (impl_wordsUpTo.l1 k1 a0 x5_1 y107 a1 x14_1 x6_1 (x6_1.length : Int) 0) = some r := by first | (rw [hy107]; with_reducible exact H) | (have H2_ := (Option.bind_some _ _).symm.trans H; rw [hy107]; with_reducible exact H2_) | (have H2_ := (Option.bind_some _ _).symm.trans H; with_reducible exact H2_) | with_reducible exact H | (rw [hy107]; exact H) | exact H
   have Ny107 := Aside0.mk hy107
   clear hy107
   have H' := Aside0.mk H
   clear H
   go_wp2_with (first | ((with_reducible refine gate_dst (N := 16) rfl ?_); refine Kd.R_lit Kd.string _ 9 ?hg (N := 16) ?hd (xs := ([] : List ByteArray)) (inner := []) (ok := fun _ => True) (okp := fun _ => True) ?hr ?hp (fun _ hk => hk) trivial (Below.refl _ _) (Nat.le_refl _) (by simp) ?_; (case hd => rfl); (case hg => rfl); (case hr => first | (go_simp; done) | (go_simp; rfl)); (case hp => exact (Reps.none _ _)); intro v108 w8 ho9 hb hg_ hnew_; clear hg_ hnew_; (first | rw [← Ny107.out] at ho9 | (simp only [Int.reduceToNat] at ho9; rw [← Ny107.out] at ho9)); refine rn4 (Kd.R_elder' (by (with_reducible repeat (first | apply Kd.R_alloc | apply Kd.R_drewN | apply Kd.R_drew)); exact HO_5.out) (Kd.R_base ho9) hb) (Kd.R_elder' (by (with_reducible repeat (first | apply Kd.R_alloc | apply Kd.R_drewN | apply Kd.R_drew)); exact HO_6.out) (Kd.R_base ho9) hb) (Kd.R_lower (Kd.R_new' (Kd.R_new' ho9 (Kd.R_lt (by (with_reducible repeat (first | apply Kd.R_alloc | apply Kd.R_drewN | apply Kd.R_drew)); exact HO_5.out))) (Kd.R_lt (by (with_reducible repeat (first | apply Kd.R_alloc | apply Kd.R_drewN | apply Kd.R_drew)); exact HO_6.out))) (below_size (by repeat (first | (with_reducible first | exact HB.out | apply below_alloc | apply pw_below_drewN | apply below_drew1) | exact HB.out)))) (below_step (by repeat (first | (with_reducible first | exact HB.out | apply below_alloc | apply pw_below_drewN | apply below_drew1) | exact HB.out)) hb) ?_; clear HO_5 HO_6 HB; intro HO_5 HO_6 HO109 HB; clear hb ho9; obtain ⟨Ao10, co10, eo10⟩ := Kd.R_slice HO_6.out; subst eo10))
   go_loopg [7, 19] k1 (fun kq v7 v19 w' => ∃ (x7_2 : List ByteArray) (x19_2 : Int), v19 = .int .i64 x19_2 ∧ Aside0 (impl_wordsUpTo.l1 kq a0 x5_1 x7_2 a1 x14_1 x6_1 (x6_1.length : Int) x19_2 = some r) ∧ Aside0 (kq ≤ k1) ∧ Aside0 (Kd.R Kd.string 9 w' w.heap.size (fun k_ => some k_ ≠ (v7 : Value).ownBlock ∧ some k_ ≠ ((.slice Ao10 x6_1.length co10) : Value).ownBlock) u5 x5_1) ∧ Aside0 (Kd.R Kd.string 9 w' w.heap.size (fun k_ => some k_ ≠ (u5 : Value).ownBlock ∧ some k_ ≠ ((.slice Ao10 x6_1.length co10) : Value).ownBlock) v7 x7_2) ∧ Aside0 (Kd.R Kd.string 9 w' w.heap.size (fun k_ => some k_ ≠ (u5 : Value).ownBlock ∧ some k_ ≠ (v7 : Value).ownBlock) (.slice Ao10 x6_1.length co10) x6_1) ∧ Aside0 (Below w.heap.size w w'))
   case atStart => exact ⟨(y107), (0), (by first | rfl | (simp; done) | (simp [*]; done)), H', ⟨Nat.le_refl _⟩, ⟨by (with_reducible repeat (first | apply Kd.R_alloc | apply Kd.R_drewN | apply Kd.R_drew)); exact Kd.R_mono HO_5.out (fun _ hk => ⟨hk.2, hk.1⟩)⟩, ⟨by (with_reducible repeat (first | apply Kd.R_alloc | apply Kd.R_drewN | apply Kd.R_drew)); exact Kd.R_mono HO109.out (fun _ hk => ⟨hk.1.2, hk.2⟩)⟩, ⟨by (with_reducible repeat (first | apply Kd.R_alloc | apply Kd.R_drewN | apply Kd.R_drew)); exact HO_6.out⟩, ⟨by repeat (first | (with_reducible first | exact HB.out | apply below_alloc | apply pw_below_drewN | apply below_drew1) | exact HB.out)⟩⟩
   case round =>
    clear H'
    try clear p2
    try clear c7
    try clear c7b0
    try clear c9
    try clear p2
    obtain ⟨x7_2, x19_2, rfl, HA, HK2, HO_5, HO_7, HO_17, HB⟩ := hrel
    cases gk with
    | zero => exact absurd HA.out (by simp [impl_wordsUpTo.l1])
    | succ k2 =>
     have H := HA.out
     clear HA
     simp only [impl_wordsUpTo.l1] at H
     by_cases c11 : x19_2 < (x6_1.length : Int)
     rotate_left
     ·rw [if_neg c11] at H
      have c11b0 : decide (x19_2 < (x6_1.length : Int)) = false := decide_eq_false c11
      clear c11
      by_cases c21 : x5_1.length + x7_2.length < 8796093022208
      ·rw [if_pos c21] at H
       have LMc21 := Aside0.mk c21
       clear c21
       obtain ⟨y110, hy110⟩ : ∃ y_ : List ByteArray, y_ = (x5_1 ++ x7_2) := ⟨_, rfl⟩
       replace H : (impl_wordsUpTo.l0 k2 a0 y110 x7_2 a1 (wrap64 (x14_1 + 1))) = some r := by first | (rw [hy110]; with_reducible exact H) | (have H2_ := (Option.bind_some _ _).symm.trans H; rw [hy110]; with_reducible exact H2_) | (have H2_ := (Option.bind_some _ _).symm.trans H; with_reducible exact H2_) | with_reducible exact H | (rw [hy110]; exact H) | exact H
       have Ny110 := Aside0.mk hy110
       clear hy110
       have H' := Aside0.mk H
       clear H
       obtain ⟨Ao23, co23, eo23⟩ := Kd.R_slice HO_7.out
       subst eo23
       go_wp2_with (first | ((with_reducible refine gate_builtin (b := .append) (xs := #[.tmp 40, .tmp 41]) rfl ?_); at_builtin; refine Kd.R_append_rows Kd.string (w0 := w) w.heap.size rfl (.tmp 40) (.tmp 41) 63 9 (.string ⟨#[]⟩) 16 rfl Tryd.underlying63 info9 rfl (by decide) (by omega) u5 x5_1 x7_2 _ _ _ (fun k_ => some k_ ≠ (.slice Ao23 x7_2.length co23 : Value).ownBlock ∧ some k_ ≠ (.slice Ao10 x6_1.length co10 : Value).ownBlock) (fun _ => False) rfl rfl ?aO ?aR (fun _ _ h => h) (fun _ h => h.elim) ?aF ?aB ?aS ?aL ?_; (case aR => repeat (first | exact (Kd.R_reads' HO_7.out).2.2 | (with_reducible refine Kd.C_alloc ?_ _) | (with_reducible refine Kd.C_drewN ?_ _) | (with_reducible refine Kd.C_drew ?_))); (case aB => exact (by repeat (first | (with_reducible first | exact HB.out | apply below_alloc | apply pw_below_drewN | apply below_drew1) | exact HB.out))); (case aF => exact (fun k_ hk => ⟨Kd.fresh' (Kd.R_lt (by (with_reducible repeat (first | apply Kd.R_alloc | apply Kd.R_drewN | apply Kd.R_drew)); exact HO_7.out)) k_ hk, Kd.fresh' (Kd.R_lt (by (with_reducible repeat (first | apply Kd.R_alloc | apply Kd.R_drewN | apply Kd.R_drew)); exact HO_17.out)) k_ hk⟩)); (case aO => exact (by (with_reducible repeat (first | apply Kd.R_alloc | apply Kd.R_drewN | apply Kd.R_drew)); exact HO_5.out)); (case aS => exact (below_size (by repeat (first | (with_reducible first | exact HB.out | apply below_alloc | apply pw_below_drewN | apply below_drew1) | exact HB.out)))); (case aL => have := LMc21.out; omega); intro v111 w22 ho hb hg hat; rw [← Ny110.out] at ho; refine rn4 (Kd.R_after (ok := (fun k_ => some k_ ≠ (.slice Ao10 x6_1.length co10 : Value).ownBlock)) (by (with_reducible repeat (first | apply Kd.R_alloc | apply Kd.R_drewN | apply Kd.R_drew)); exact Kd.R_mono HO_7.out (fun _ hk => ⟨hk.2, hk.1⟩)) hg hat) (Kd.R_after (ok := (fun k_ => some k_ ≠ (.slice Ao23 x7_2.length co23 : Value).ownBlock)) (by (with_reducible repeat (first | apply Kd.R_alloc | apply Kd.R_drewN | apply Kd.R_drew)); exact Kd.R_mono HO_17.out (fun _ hk => ⟨hk.2, hk.1⟩)) hg hat) (hb) (ho) ?_; clear HO_7 HO_17 HB HO_5; intro HO_7 HO_17 HB HO112; clear ho hb hg hat))
       go_roundg k2
       case measure => have := HK1.out; have := HK2.out; omega
       case rel => exact ⟨(y110), (x7_2), (wrap64 (x14_1 + 1)), (by first | rfl | (simp; done) | (simp [*]; done)), H', ⟨by have := HK1.out; have := HK2.out; omega⟩, ⟨by (with_reducible repeat (first | apply Kd.R_alloc | apply Kd.R_drewN | apply Kd.R_drew)); exact Kd.R_mono HO112.out (fun _ hk => hk.1)⟩, ⟨by (with_reducible repeat (first | apply Kd.R_alloc | apply Kd.R_drewN | apply Kd.R_drew)); exact Kd.R_mono HO_7.out (fun _ hk => hk.2)⟩, ⟨by repeat (first | (with_reducible first | exact HB.out | apply below_alloc | apply pw_below_drewN | apply below_drew1) | exact HB.out)⟩⟩
      rw [if_neg c21] at H
      exact absurd H (by simp)
     rw [if_pos c11] at H
     have c11b0 : decide (x19_2 < (x6_1.length : Int)) = true := decide_eq_true c11
     clear c11
     by_cases c12 : 0 ≤ x19_2
     rotate_left
     ·rw [if_neg c12] at H
      exact absurd H (by simp)
     rw [if_pos c12] at H
     have c12b0 : decide (0 ≤ x19_2) = true := decide_eq_true c12
     clear c12
     by_cases c13 : x19_2 < (x6_1.length : Int)
     rotate_left
     ·rw [if_neg c13] at H
      exact absurd H (by simp)
     rw [if_pos c13] at H
     have c13b0 : decide (x19_2 < (x6_1.length : Int)) = true := decide_eq_true c13
     clear c13
     have H' := Aside0.mk H
     clear H
     have p113 : 0 ≤ (x19_2 : Int) := of_decide_eq_true (by first | (with_reducible assumption) | assumption)
     have q113 : x19_2 < (x6_1.length : Int) := of_decide_eq_true (by first | (with_reducible assumption) | assumption)
     obtain ⟨ad113, e113, hx113_0⟩ := Kd.at_string (Kd.R_reads' HO_17.out).2.2 x19_2 p113 q113
     cases e113
     replace p113 := eq_true p113
     replace q113 := eq_true q113
     go_wp2
     go_loopg [7, 25] k2 (fun kq v7 v25 w' => ∃ (x7_3 : List ByteArray) (x25_3 : Int), v25 = .int .i64 x25_3 ∧ Aside0 (impl_wordsUpTo.l2 kq a0 x5_1 x7_3 (rdOf ByteArray.empty x6_1 x19_2) a1 x14_1 x6_1 (x6_1.length : Int) x19_2 (a0.size : Int) x25_3 = some r) ∧ Aside0 (kq ≤ k2) ∧ Aside0 (Kd.R Kd.string 9 w' w.heap.size (fun k_ => some k_ ≠ (v7 : Value).ownBlock ∧ some k_ ≠ ((.slice (some ad113) x6_1.length co10) : Value).ownBlock) u5 x5_1) ∧ Aside0 (Kd.R Kd.string 9 w' w.heap.size (fun k_ => some k_ ≠ (u5 : Value).ownBlock ∧ some k_ ≠ ((.slice (some ad113) x6_1.length co10) : Value).ownBlock) v7 x7_3) ∧ Aside0 (Kd.R Kd.string 9 w' w.heap.size (fun k_ => some k_ ≠ (u5 : Value).ownBlock ∧ some k_ ≠ (v7 : Value).ownBlock) (.slice (some ad113) x6_1.length co10) x6_1) ∧ Aside0 (Below w.heap.size w w'))
     case atStart => exact ⟨(x7_2), (0), (by first | rfl | (simp; done) | (simp [*]; done)), H', ⟨Nat.le_refl _⟩, ⟨by (with_reducible repeat (first | apply Kd.R_alloc | apply Kd.R_drewN | apply Kd.R_drew)); exact HO_5.out⟩, ⟨by (with_reducible repeat (first | apply Kd.R_alloc | apply Kd.R_drewN | apply Kd.R_drew)); exact HO_7.out⟩, ⟨by (with_reducible repeat (first | apply Kd.R_alloc | apply Kd.R_drewN | apply Kd.R_drew)); exact HO_17.out⟩, ⟨by repeat (first | (with_reducible first | exact HB.out | apply below_alloc | apply pw_below_drewN | apply below_drew1) | exact HB.out)⟩⟩
     case round =>
      clear H'
      try clear c1
      try clear p1
      try clear q1
      try clear hx1
      try clear p2
      try clear c7
      try clear c7b0
      try clear c9
      try clear c11
      try clear c11b0
      try clear p11
      try clear q11
      try clear hx11
      try clear c12
      try clear c12b0
      try clear c13
      try clear c13b0
      try clear hx113_0
      try clear p113
      try clear p2
      try clear q113
      obtain ⟨x7_3, x25_3, rfl, HA, HK3, HO_5, HO_7, HO_17, HB⟩ := hrel
      cases gk with
      | zero => exact absurd HA.out (by simp [impl_wordsUpTo.l2])
      | succ k3 =>
       have H := HA.out
       clear HA
       simp only [impl_wordsUpTo.l2] at H
       by_cases c14 : x25_3 < (a0.size : Int)
       rotate_left
       ·rw [if_neg c14] at H
        have c14b0 : decide (x25_3 < (a0.size : Int)) = false := decide_eq_false c14
        clear c14
        have H' := Aside0.mk H
        clear H
        go_wp2
        go_roundg k3
        case measure => have := HK1.out; have := HK2.out; have := HK3.out; omega
        case rel => exact ⟨(x7_3), (wrap64 (x19_2 + 1)), (by first | rfl | (simp; done) | (simp [*]; done)), H', ⟨by have := HK1.out; have := HK2.out; have := HK3.out; omega⟩, ⟨by (with_reducible repeat (first | apply Kd.R_alloc | apply Kd.R_drewN | apply Kd.R_drew)); exact HO_5.out⟩, ⟨by (with_reducible repeat (first | apply Kd.R_alloc | apply Kd.R_drewN | apply Kd.R_drew)); exact HO_7.out⟩, ⟨by (with_reducible repeat (first | apply Kd.R_alloc | apply Kd.R_drewN | apply Kd.R_drew)); exact HO_17.out⟩, ⟨by repeat (first | (with_reducible first | exact HB.out | apply below_alloc | apply pw_below_drewN | apply below_drew1) | exact HB.out)⟩⟩
       rw [if_pos c14] at H
       have c14b0 : decide (x25_3 < (a0.size : Int)) = true := decide_eq_true c14
       clear c14
       by_cases c15 : 0 ≤ x25_3
       rotate_left
       ·rw [if_neg c15] at H
        exact absurd H (by simp)
       rw [if_pos c15] at H
       have c15b0 := eq_true c15
       have c15b1 : decide (0 ≤ x25_3) = true := decide_eq_true c15
       clear c15
       by_cases c16 : x25_3 ≤ (wrap64 (x25_3 + 1))
       rotate_left
       ·rw [if_neg c16] at H
        exact absurd H (by simp)
       rw [if_pos c16] at H
       have c16b0 := eq_true c16
       have c16b1 : decide (x25_3 ≤ (wrap64 (x25_3 + 1))) = true := decide_eq_true c16
       by_cases c17 : (wrap64 (x25_3 + 1)) ≤ (a0.size : Int)
       rotate_left
       ·rw [if_neg c17] at H
        exact absurd H (by simp)
       rw [if_pos c17] at H
       have c17b0 := eq_true c17
       have c17b1 : decide ((wrap64 (x25_3 + 1)) ≤ (a0.size : Int)) = true := decide_eq_true c17
       by_cases c18 : (rdOf ByteArray.empty x6_1 x19_2).size + (a0.extract (x25_3 : Int).toNat ((wrap64 (x25_3 + 1)) : Int).toNat).size ≤ 9223372036854775807
       rotate_left
       ·rw [if_neg c18] at H
        exact absurd H (by simp)
       rw [if_pos c18] at H
       have c18b0 := eq_true c18
       have c18b1 : decide ((rdOf ByteArray.empty x6_1 x19_2).size + (a0.extract (x25_3 : Int).toNat ((wrap64 (x25_3 + 1)) : Int).toNat).size ≤ 9223372036854775807) = true := decide_eq_true c18
       try have c18b2 : (9223372036854775807 < (rdOf ByteArray.empty x6_1 x19_2).size + (a0.extract (x25_3 : Int).toNat ((wrap64 (x25_3 + 1)) : Int).toNat).size) = False := eq_false (Nat.not_lt.2 c18)
       try have c18b3 : ∀ n_ : Nat, (rdOf ByteArray.empty x6_1 x19_2).size + (a0.extract (x25_3 : Int).toNat ((wrap64 (x25_3 + 1)) : Int).toNat).size = n_ → (9223372036854775807 < n_) = False := fun n_ h_ => h_ ▸ c18b2
       by_cases c19 : x7_3.length < 8796093022208
       ·rw [if_pos c19] at H
        have LMc19 := Aside0.mk c19
        clear c19
        obtain ⟨y114, hy114⟩ : ∃ y_ : List ByteArray, y_ = (x7_3 ++ [(rdOf ByteArray.empty x6_1 x19_2) ++ (a0.extract (x25_3 : Int).toNat ((wrap64 (x25_3 + 1)) : Int).toNat)]) := ⟨_, rfl⟩
        replace H : (impl_wordsUpTo.l2 k3 a0 x5_1 y114 (rdOf ByteArray.empty x6_1 x19_2) a1 x14_1 x6_1 (x6_1.length : Int) x19_2 (a0.size : Int) (wrap64 (x25_3 + 1))) = some r := by first | (rw [hy114]; with_reducible exact H) | (have H2_ := (Option.bind_some _ _).symm.trans H; rw [hy114]; with_reducible exact H2_) | (have H2_ := (Option.bind_some _ _).symm.trans H; with_reducible exact H2_) | with_reducible exact H | (rw [hy114]; exact H) | exact H
        have Ny114 := Aside0.mk hy114
        clear hy114
        have H' := Aside0.mk H
        clear H
        go_wp2_with (first | ((with_reducible refine gate_builtin (b := .append) (xs := #[.tmp 28, .tmp 36]) rfl ?_); at_builtin; refine Kd.R_append Kd.string (w0 := w) w.heap.size rfl (.tmp 28) (.tmp 36) 63 9 (.string ⟨#[]⟩) 16 rfl Tryd.underlying63 info9 rfl (by decide) (by omega) u7 x7_3 ((rdOf ByteArray.empty x6_1 x19_2) ++ (a0.extract (x25_3 : Int).toNat ((wrap64 (x25_3 + 1)) : Int).toNat)) [.string ((rdOf ByteArray.empty x6_1 x19_2) ++ (a0.extract (x25_3 : Int).toNat ((wrap64 (x25_3 + 1)) : Int).toNat))] (fun k_ => some k_ ≠ (u5 : Value).ownBlock ∧ some k_ ≠ (.slice (some ad113) x6_1.length co10 : Value).ownBlock) (fun _ => False) rfl rfl ?aP (fun _ hk => hk.elim) ?aF ?aO ?aB ?aS ?aL ?_; (case aP => exact rfl); (case aB => exact (by repeat (first | (with_reducible first | exact HB.out | apply below_alloc | apply pw_below_drewN | apply below_drew1) | exact HB.out))); (case aF => exact (fun k_ hk => ⟨Kd.fresh' (Kd.R_lt (by (with_reducible repeat (first | apply Kd.R_alloc | apply Kd.R_drewN | apply Kd.R_drew)); exact HO_5.out)) k_ hk, Kd.fresh' (Kd.R_lt (by (with_reducible repeat (first | apply Kd.R_alloc | apply Kd.R_drewN | apply Kd.R_drew)); exact HO_17.out)) k_ hk⟩)); (case aO => exact (by (with_reducible repeat (first | apply Kd.R_alloc | apply Kd.R_drewN | apply Kd.R_drew)); exact HO_7.out)); (case aS => exact (below_size (by repeat (first | (with_reducible first | exact HB.out | apply below_alloc | apply pw_below_drewN | apply below_drew1) | exact HB.out)))); (case aL => have := LMc19.out; omega); intro v115 w20 ho hb hg hat; rw [← Ny114.out] at ho; refine rn4 (Kd.R_after (ok := (fun k_ => some k_ ≠ (.slice (some ad113) x6_1.length co10 : Value).ownBlock)) (by (with_reducible repeat (first | apply Kd.R_alloc | apply Kd.R_drewN | apply Kd.R_drew)); exact Kd.R_mono HO_5.out (fun _ hk => ⟨hk.2, hk.1⟩)) hg hat) (Kd.R_after (ok := (fun k_ => some k_ ≠ (u5 : Value).ownBlock)) (by (with_reducible repeat (first | apply Kd.R_alloc | apply Kd.R_drewN | apply Kd.R_drew)); exact HO_17.out) hg hat) (hb) (ho) ?_; clear HO_5 HO_17 HB HO_7; intro HO_5 HO_17 HB HO116; clear ho hb hg hat))
        go_roundg k3
        case measure => have := HK1.out; have := HK2.out; have := HK3.out; omega
        case rel => exact ⟨(y114), (wrap64 (x25_3 + 1)), (by first | rfl | (simp; done) | (simp [*]; done)), H', ⟨by have := HK1.out; have := HK2.out; have := HK3.out; omega⟩, ⟨by (with_reducible repeat (first | apply Kd.R_alloc | apply Kd.R_drewN | apply Kd.R_drew)); exact Kd.R_mono HO_5.out (fun _ hk => ⟨hk.2, hk.1⟩)⟩, ⟨by (with_reducible repeat (first | apply Kd.R_alloc | apply Kd.R_drewN | apply Kd.R_drew)); exact HO116.out⟩, ⟨by (with_reducible repeat (first | apply Kd.R_alloc | apply Kd.R_drewN | apply Kd.R_drew)); exact HO_17.out⟩, ⟨by repeat (first | (with_reducible first | exact HB.out | apply below_alloc | apply pw_below_drewN | apply below_drew1) | exact HB.out)⟩⟩
       rw [if_neg c19] at H
       exact absurd H (by simp)
end Go.Proofs.YtiibnkibckklgaaDoor.P
namespace Go.Proofs.YtiibnkibckklgaaDoor.P
set_option linter.unusedVariables false
set_option linter.unusedSimpArgs false
open Go.RowKit Go.Maps Go.Proofs.YtiibnkibckklgaaDoorW.PrintWords
theorem partLaid : laidOutB Tryd.prog = true := by kernel_rfl
theorem partRow : (159 : TypeId) < Tryd.prog.types.size := of_decide_eq_true (by kernel_rfl)
theorem partWide : (match Tryd.prog.underlying 159 with | some (.array _ _) | some (.struct _) => true | _ => false) = true := by rw [Tryd.underlying159]
set_option maxRecDepth 100000 in
theorem partKeyed : Keyed Tryd.prog 159 := Keyed.of_law (deep_law_laid partLaid (m := 2) (by omega) partRow (by kernel_rfl) partWide)
def partV (s : ByteArray) (i j : Int) : Value := .agg #[.string s, .int .i64 i, .int .i64 j]
def partLit (s : ByteArray) (i j : Int) : Lit := .string (keyBytes [.string s.data.toList, .int .i64 i, .int .i64 j])
theorem partType : Tryd.prog.keyType 159 = true := by kernel_rfl
theorem partCells : Tryd.prog.cellsOf 159 = 3 := by kernel_rfl
theorem partCellsS : Tryd.prog.cellsOf 9 = 1 := by kernel_rfl
theorem partCellsI : Tryd.prog.cellsOf 3 = 1 := by kernel_rfl
theorem partTypes : ∃ m, Tryd.prog.types.size = m + 1 := by
 have h : (159 : Nat) < Tryd.prog.types.size := partRow
 generalize Tryd.prog.types.size = z at h
 exact ⟨z - 1, by omega⟩
theorem partKey (s : ByteArray) (i j : Int) (hs : s.size ≤ maxLen) (hi : (Lit.int .i64 i).wf = true) (hj : (Lit.int .i64 j).wf = true) : keyOf Tryd.prog 159 (partV s i j) = some (partLit s i j) := by
 obtain ⟨m, hm⟩ := partTypes
 have hf : (partV s i j).formed Tryd.prog 159 = true := by simp [Value.formed, partV, Tryd.underlying159, partCells]
 unfold keyOf
 rw [Tryd.underlying159]
 simp only [partType, hf, Bool.and_self, if_true]
 have hk : Tryd.prog.keyLits (Tryd.prog.types.size + 1) 159 (partV s i j).cells.toList = some [.string s.data.toList, .int .i64 i, .int .i64 j] := by
  rw [hm]
  simp [Program.keyLits, partV, Value.cells, Tryd.underlying159, Tryd.underlying9, Tryd.underlying3, partCells, partCellsS, partCellsI, hs, hi, hj]
 rw [hk]
 rfl
theorem i64wf {i : Int} (h0 : -9223372036854775808 ≤ i) (h1 : i ≤ 9223372036854775807) : (Lit.int .i64 i).wf = true := WalkArith.wf_i64 ⟨h0, h1⟩
theorem partInj {s s' : ByteArray} {i j i' j' : Int} (hs : s.size ≤ maxLen) (hs' : s'.size ≤ maxLen) (hi : (Lit.int .i64 i).wf = true) (hj : (Lit.int .i64 j).wf = true) (hi' : (Lit.int .i64 i').wf = true) (hj' : (Lit.int .i64 j').wf = true)
  (h : partLit s i j = partLit s' i' j') : s = s' ∧ i = i' ∧ j = j' := by
 have h1 := partKey s i j hs hi hj
 have h2 := partKey s' i' j' hs' hi' hj'
 rw [← h] at h2
 have := partKeyed.inj h1 h2
 unfold partV at this
 injection this with this
 have h3 := congrArg Array.toList this
 simp at h3
 exact h3
end Go.Proofs.YtiibnkibckklgaaDoor.P
namespace Go.Proofs.YtiibnkibckklgaaDoor.P
set_option linter.unusedVariables false
set_option linter.unusedSimpArgs false
open Go.RowKit Go.Proofs.YtiibnkibckklgaaDoorW.PrintWords
def Tot {α : Type} (g : Nat → Option α) (P : α → Prop) : Prop := ∃ K r, P r ∧ ∀ k, K ≤ k → g k = some r
section
variable {α β : Type} {g : Nat → Option α} {P Q : α → Prop}
theorem Tot.ret {r : α} (h : P r) : Tot (fun _ => some r) P := ⟨0, r, h, fun _ _ => rfl⟩
theorem Tot.of {o : Option α} {r : α} (e : o = some r) (h : P r) : Tot (fun _ => o) P := ⟨0, r, h, fun _ _ => e⟩
theorem Tot.bind {h : α → Nat → Option β} {R : β → Prop} (hg : Tot g P) (hh : ∀ r, P r → Tot (h r) R) : Tot (fun k => (g k).bind fun r => h r k) R := by
 obtain ⟨K, r, hp, hK⟩ := hg
 obtain ⟨L, s, hq, hL⟩ := hh r hp
 exact ⟨max K L, s, hq, fun k hk => by simp only [hK k (by omega), hL k (by omega), Option.bind_some]⟩
theorem Tot.ite {c : Prop} [Decidable c] {h : Nat → Option α} (h1 : c → Tot g P) (h2 : ¬ c → Tot h P) : Tot (fun k => if c then g k else h k) P := by
 by_cases hc : c
 ·obtain ⟨K, r, hp, hK⟩ := h1 hc
  exact ⟨K, r, hp, fun k hk => by simp only [if_pos hc, hK k hk]⟩
 obtain ⟨K, r, hp, hK⟩ := h2 hc
 exact ⟨K, r, hp, fun k hk => by simp only [if_neg hc, hK k hk]⟩
theorem Tot.pos {c : Prop} [Decidable c] {h : Nat → Option α} (hc : c) (h1 : Tot g P) : Tot (fun k => if c then g k else h k) P := Tot.ite (fun _ => h1) (fun h => absurd hc h)
theorem Tot.neg {c : Prop} [Decidable c] {h : Nat → Option α} (hc : ¬ c) (h1 : Tot h P) : Tot (fun k => if c then g k else h k) P := Tot.ite (fun h => absurd h hc) (fun _ => h1)
theorem Tot.step {h : Nat → Option α} (e : ∀ k, g (k + 1) = h k) (t : Tot h P) : Tot g P := by
 obtain ⟨K, r, hp, hK⟩ := t
 refine ⟨K + 1, r, hp, fun k hk => ?_⟩
 obtain ⟨m, rfl⟩ : ∃ m, k = m + 1 := ⟨k - 1, by omega⟩
 rw [e, hK m (by omega)]
theorem Tot.mono (t : Tot g P) (h : ∀ r, P r → Q r) : Tot g Q := by
 obtain ⟨K, r, hp, hK⟩ := t
 exact ⟨K, r, h r hp, hK⟩
theorem Tot.get (t : Tot g P) : ∃ k r, g k = some r ∧ P r := by
 obtain ⟨K, r, hp, hK⟩ := t
 exact ⟨K, r, hK K (Nat.le_refl _), hp⟩
end
theorem w64 {x : Int} (h0 : -9223372036854775808 ≤ x) (h1 : x ≤ 9223372036854775807) : wrap64 x = x := by unfold wrap64; omega
/-! ### texts -/
theorem bytes_toList (s : ByteArray) : s.toList = s.data.toList := ByteArray.toList_eq s
theorem bytes_ext {a b : ByteArray} (h : a.data.toList = b.data.toList) : a = b := by
 cases a with | mk a => cases b with | mk b =>
 congr
 exact Array.toList_inj.mp h
theorem toList_beq (a b : ByteArray) : (a.toList == b.toList) = decide (a = b) := by
 rw [bytes_toList, bytes_toList]
 by_cases h : a = b
 ·subst h; simp
 simp [h]; exact fun h' => h (bytes_ext (by rw [h']))
theorem size_toList (s : ByteArray) : s.size = s.data.toList.length := by simp
theorem bt_get (s : ByteArray) (i : Nat) (h : i < s.size) : bt s (i : Int) = ((s.data.toList[i]'(by simpa using h)).toNat : Int) := by
 have := bt_at s (i : Int) (by simpa using h)
 rw [← this]
 rfl
theorem drop_cons_bt (s : ByteArray) (i : Nat) (h : i < s.size) : ∃ c : UInt8, s.data.toList.drop i = c :: s.data.toList.drop (i + 1) ∧ bt s (i : Int) = (c.toNat : Int) :=
 ⟨s.data.toList[i]'(by simpa using h), List.drop_eq_getElem_cons (by simpa using h), bt_get s i h⟩
end Go.Proofs.YtiibnkibckklgaaDoor.P
namespace Go.Proofs.YtiibnkibckklgaaDoor.P
open Go.RowKit Go.Proofs.YtiibnkibckklgaaDoorW.PrintWords Go.Proofs.YtiibnkibckklgaaDoorW.PrintLast Go.Proofs.YtiibnkibckklgaaDoorW.PrintMore
attribute [local go_sem] max2_int min2_int max_two min_two max_three min_three max_four min_four
set_option linter.unusedVariables false
set_option linter.unusedSimpArgs false
/-! ### impl_TextOk: function 53 -/
def impl_TextOk.f (a0 : ByteArray) : Option (Bool) := (impl_areSmalls.f a0 8).bind fun t101 => (some t101)
set_option maxHeartbeats 8000000 in
set_option maxRecDepth 100000 in
theorem impl_TextOk.calls (a0 : ByteArray) (r : Bool) (w : World) (h : impl_TextOk.f a0 = some r) :
  Calls Tryd.prog 53 #[.string a0] w fun e w' => e = .returned (.bool r) ∧ Below w.heap.size w w' := by
 have HB := Aside0.mk (Below.refl w.heap.size w)
 have H : ((impl_areSmalls.f a0 8).bind fun t101 => (some t101)) = some r := h
 clear h
 replace H := Option.bind_eq_some_iff.mp H
 obtain ⟨t101, A20, H⟩ := H
 replace H : (some t101) = some r := H
 have A2 := Aside0.mk A20
 clear A20
 obtain rfl := Option.some.inj H
 go_enter Tryd.func53, Tryd.ntmps53
 go_wp2_with (first | ((with_reducible refine gate_callee (f := 107) rfl ?_); refine goesL_ (some 4) rfl rfl Tryd.func107 (by kernel_rfl) rfl #[.string a0, .int .i64 8] rfl (by (try simp only [List.map_toArray, List.map_cons, List.map_nil]); first | done | rfl | (simp only [List.length_drop, List.length_take]; rfl)) ?_; (with_reducible refine (impl_areSmalls.calls a0 8 t101 _ A2.out).mono ?_); rintro e w3 ⟨rfl, hb⟩; refine ⟨_, rfl, ?_⟩; refine rn1 (below_step (by repeat (first | (with_reducible first | exact HB.out | apply below_alloc | apply pw_below_drewN | apply below_drew1) | exact HB.out)) hb) ?_; clear HB; intro HB; (try clear hb); (try clear hb2); (try clear hk); (try clear hi)))
 go_ret
 exact ⟨by first | rfl | (simp [errW_none, errW_some] <;> rfl) | (simp [*, errW_none, errW_some] <;> rfl), by repeat (first | (with_reducible first | exact HB.out | apply below_alloc | apply pw_below_drewN | apply below_drew1) | exact HB.out)⟩
/-! ### impl_areBoth: function 67 -/
def impl_areBoth.f (k : Nat) (a0_0 : ByteArray) (l0_1 : List (S46)) (a1 : ByteArray) : Option (Bool) := (impl_GramOk.f k a0_0 l0_1).bind fun t102 => (if t102 = true then ((impl_TextOk.f a1).bind fun t103 => (some t103)) else (some false))
theorem impl_areBoth.mono : ∀ a0 a1 a2 k, LeO (impl_areBoth.f k a0 a1 a2) (impl_areBoth.f (k + 1) a0 a1 a2) := by
 intro a0 a1 a2 k
 unfold impl_areBoth.f
 repeat' first
   | (with_reducible exact impl_GramOk.mono _ _ _)
   | (with_reducible exact LeO.refl _)
   | (with_reducible exact LeO.none _)
   | (with_reducible refine LeO.ite ?_ ?_)
   | (with_reducible refine LeO.bind ?_ (fun _ => ?_))
   | exact impl_GramOk.mono _ _ _
   | exact LeO.none _
   | refine LeO.ite ?_ ?_
   | refine LeO.bind ?_ (fun _ => ?_)
set_option maxHeartbeats 8000000 in
set_option maxRecDepth 100000 in
theorem impl_areBoth.calls (k : Nat) (a0_0 : ByteArray) (A0_1 : Option Addr) (c0_1 : Nat) (l0_1 : List (S46)) (a1 : ByteArray) (r : Bool) (w : World) (hr0_1 : Kd.C k46 w A0_1 l0_1.length l0_1) (hc0_1 : l0_1.length ≤ c0_1) (h : impl_areBoth.f k a0_0 l0_1 a1 = some r) :
  Calls Tryd.prog 67 #[.agg #[.string a0_0, .slice A0_1 l0_1.length c0_1], .string a1] w fun e w' => e = .returned (.bool r) ∧ Below w.heap.size w w' := by
 have hu25 := Tryd.underlying25
 have HR0_1 := Aside0.mk hr0_1
 have HC0_1 := Aside0.mk hc0_1
 clear hr0_1 hc0_1
 have HB := Aside0.mk (Below.refl w.heap.size w)
 have H : ((impl_GramOk.f k a0_0 l0_1).bind fun t102 => (if t102 = true then ((impl_TextOk.f a1).bind fun t103 => (some t103)) else (some false))) = some r := h
 clear h
 replace H := Option.bind_eq_some_iff.mp H
 obtain ⟨t102, A30, H⟩ := H
 replace H : (if t102 = true then ((impl_TextOk.f a1).bind fun t103 => (some t103)) else (some false)) = some r := H
 have A3 := Aside0.mk A30
 clear A30
 by_cases c4 : t102 = true
 ·subst c4
  have H1 : ((impl_TextOk.f a1).bind fun t103 => (some t103)) = some r := by rw [if_pos rfl] at H; exact H
  clear H
  have H := H1
  clear H1
  replace H := Option.bind_eq_some_iff.mp H
  obtain ⟨t103, A50, H⟩ := H
  replace H : (some t103) = some r := H
  have A5 := Aside0.mk A50
  clear A50
  obtain rfl := Option.some.inj H
  go_enter Tryd.func67, Tryd.ntmps67
  go_wp2_with (first | ((with_reducible refine gate_dst (N := 2) rfl ?_); refine box_event ?hg (N := 2) ?hd (cs := #[.string a0_0, .slice A0_1 l0_1.length c0_1]) (t := 25) ?hr ?_; (case hd => rfl); (case hg => rfl); (case hr => first | (go_simp; done) | (go_simp; rfl)); intro gb101 hg w6 hbox hb; refine rn4 (below_step (by repeat (first | (with_reducible first | exact HB.out | apply below_alloc | apply pw_below_drewN | apply below_drew1) | exact HB.out)) hb) (hbox) ((by rw [hg]; exact (below_size (by repeat (first | (with_reducible first | exact HB.out | apply below_alloc | apply pw_below_drewN | apply below_drew1) | exact HB.out))) : w.heap.size ≤ gb101)) ((by rw [hg]; exact (below_size (by repeat (first | (with_reducible first | exact HB.out | apply below_alloc | apply pw_below_drewN | apply below_drew1) | exact HB.out))) : w.heap.size ≤ gb101)) ?_; clear HB; intro HB BK101 GW101 GE101; clear hb hbox hg; have hcz7_0 : w6.cell? ⟨gb101, 0, none⟩ = some (.string a0_0) := (blk_cell BK101.out 0).trans rfl; have hcz7_1 : w6.cell? ⟨gb101, 1, none⟩ = some (.slice A0_1 l0_1.length c0_1) := (blk_cell BK101.out 1).trans rfl; have hfz7_0 := blk_frozen BK101.out 0; have hfz7_1 := blk_frozen BK101.out 1) | ((with_reducible refine gate_callee (f := 52) rfl ?_); refine goesL_ (some 6) rfl rfl Tryd.func52 (by kernel_rfl) rfl #[.agg #[.string a0_0, .slice A0_1 l0_1.length c0_1]] rfl (by (try simp only [List.map_toArray, List.map_cons, List.map_nil]); first | done | rfl | (simp only [List.length_drop, List.length_take]; rfl)) ?_; (with_reducible refine (impl_GramOk.calls k a0_0 _ _ l0_1 true _ ?side1 ?side2 A3.out).mono ?_); (case side1 => repeat (first | exact (Kd.C_below HR0_1.out HB.out) | (with_reducible refine Kd.C_alloc ?_ _) | (with_reducible refine Kd.C_drewN ?_ _) | (with_reducible refine Kd.C_drew ?_))); (case side2 => exact HC0_1.out); rintro e w8 ⟨rfl, hb⟩; refine ⟨_, rfl, ?_⟩; refine rn2 (blk_below (g := gb101) (o := .cells #[.string a0_0, .slice A0_1 l0_1.length c0_1] 25 (0, 0)) (by (with_reducible repeat (first | refine blk_drewN ?_ _ | refine blk_drew ?_ | refine blk_alloc ?_ _)); exact BK101.out) hb) (below_step (by repeat (first | (with_reducible first | exact HB.out | apply below_alloc | apply pw_below_drewN | apply below_drew1 | refine below_set ?_ GE101.out) | exact HB.out)) hb) ?_; clear BK101 HB; intro BK101 HB; (try clear hb); (try clear hb2); (try clear hk); (try clear hi)) | (go_at_call 53; (with_reducible refine (impl_TextOk.calls a1 t103 _ A5.out).mono ?_); rintro e w9 ⟨rfl, hb⟩; refine rn2 (blk_below (g := gb101) (o := .cells #[.string a0_0, .slice A0_1 l0_1.length c0_1] 25 (0, 0)) (by (with_reducible repeat (first | refine blk_drewN ?_ _ | refine blk_drew ?_ | refine blk_alloc ?_ _)); exact BK101.out) hb) (below_step (by repeat (first | (with_reducible first | exact HB.out | apply below_alloc | apply pw_below_drewN | apply below_drew1 | refine below_set ?_ GE101.out) | exact HB.out)) hb) ?_; clear BK101 HB; intro BK101 HB; (try clear hb); (try clear hb2); (try clear hk); (try clear hi)))
  go_ret
  exact ⟨by first | rfl | (simp [errW_none, errW_some] <;> rfl) | (simp [*, errW_none, errW_some] <;> rfl), by repeat (first | (with_reducible first | exact HB.out | apply below_alloc | apply pw_below_drewN | apply below_drew1 | refine below_set ?_ GE101.out) | exact HB.out)⟩
 replace c4 := Bool.eq_false_iff.mpr c4
 subst c4
 have H1 : (some false) = some r := by rw [if_neg (show ¬ (false = true) by decide)] at H; exact H
 clear H
 have H := H1
 clear H1
 obtain rfl := Option.some.inj H
 go_enter Tryd.func67, Tryd.ntmps67
 go_wp2_with (first | ((with_reducible refine gate_dst (N := 2) rfl ?_); refine box_event ?hg (N := 2) ?hd (cs := #[.string a0_0, .slice A0_1 l0_1.length c0_1]) (t := 25) ?hr ?_; (case hd => rfl); (case hg => rfl); (case hr => first | (go_simp; done) | (go_simp; rfl)); intro gb101 hg w10 hbox hb; refine rn4 (below_step (by repeat (first | (with_reducible first | exact HB.out | apply below_alloc | apply pw_below_drewN | apply below_drew1) | exact HB.out)) hb) (hbox) ((by rw [hg]; exact (below_size (by repeat (first | (with_reducible first | exact HB.out | apply below_alloc | apply pw_below_drewN | apply below_drew1) | exact HB.out))) : w.heap.size ≤ gb101)) ((by rw [hg]; exact (below_size (by repeat (first | (with_reducible first | exact HB.out | apply below_alloc | apply pw_below_drewN | apply below_drew1) | exact HB.out))) : w.heap.size ≤ gb101)) ?_; clear HB; intro HB BK101 GW101 GE101; clear hb hbox hg; have hcz11_0 : w10.cell? ⟨gb101, 0, none⟩ = some (.string a0_0) := (blk_cell BK101.out 0).trans rfl; have hcz11_1 : w10.cell? ⟨gb101, 1, none⟩ = some (.slice A0_1 l0_1.length c0_1) := (blk_cell BK101.out 1).trans rfl; have hfz11_0 := blk_frozen BK101.out 0; have hfz11_1 := blk_frozen BK101.out 1) | ((with_reducible refine gate_callee (f := 52) rfl ?_); refine goesL_ (some 6) rfl rfl Tryd.func52 (by kernel_rfl) rfl #[.agg #[.string a0_0, .slice A0_1 l0_1.length c0_1]] rfl (by (try simp only [List.map_toArray, List.map_cons, List.map_nil]); first | done | rfl | (simp only [List.length_drop, List.length_take]; rfl)) ?_; (with_reducible refine (impl_GramOk.calls k a0_0 _ _ l0_1 false _ ?side1 ?side2 A3.out).mono ?_); (case side1 => repeat (first | exact (Kd.C_below HR0_1.out HB.out) | (with_reducible refine Kd.C_alloc ?_ _) | (with_reducible refine Kd.C_drewN ?_ _) | (with_reducible refine Kd.C_drew ?_))); (case side2 => exact HC0_1.out); rintro e w12 ⟨rfl, hb⟩; refine ⟨_, rfl, ?_⟩; refine rn2 (blk_below (g := gb101) (o := .cells #[.string a0_0, .slice A0_1 l0_1.length c0_1] 25 (0, 0)) (by (with_reducible repeat (first | refine blk_drewN ?_ _ | refine blk_drew ?_ | refine blk_alloc ?_ _)); exact BK101.out) hb) (below_step (by repeat (first | (with_reducible first | exact HB.out | apply below_alloc | apply pw_below_drewN | apply below_drew1 | refine below_set ?_ GE101.out) | exact HB.out)) hb) ?_; clear BK101 HB; intro BK101 HB; (try clear hb); (try clear hb2); (try clear hk); (try clear hi)))
 go_ret
 exact ⟨by first | rfl | (simp [errW_none, errW_some] <;> rfl) | (simp [*, errW_none, errW_some] <;> rfl), by repeat (first | (with_reducible first | exact HB.out | apply below_alloc | apply pw_below_drewN | apply below_drew1 | refine below_set ?_ GE101.out) | exact HB.out)⟩
/-! ### spec_TextOk: function 54 -/
def spec_TextOk.l0 : Nat → ByteArray → Int → Option (Bool)
 | 0, _, _ => none
 | k + 1, x0, x3 => if x3 < (x0.size : Int) then (if 0 ≤ x3 then ((spec_l1Small.f (bt x0 x3)).bind fun t101 => (if t101 = true then (spec_TextOk.l0 k x0 (wrap64 (x3 + 1))) else (some false))) else (none)) else (some (decide ((x0.size : Int) ≤ 8)))
def spec_TextOk.f (k : Nat) (a0 : ByteArray) : Option (Bool) := spec_TextOk.l0 k a0 0
theorem spec_TextOk.mono_l : ∀ k, (∀ y0 y1, LeO (spec_TextOk.l0 k y0 y1) (spec_TextOk.l0 (k + 1) y0 y1))
 | 0 => fun _ _ r h => by simp [spec_TextOk.l0] at h
 | k + 1 => by
  have ih0 := spec_TextOk.mono_l k
  intro y0 y1
  unfold spec_TextOk.l0
  repeat' first
  | (with_reducible exact ih0 _ _)
  | (with_reducible exact LeO.refl _)
  | (with_reducible exact LeO.none _)
  | (with_reducible refine LeO.ite ?_ ?_)
  | (with_reducible refine LeO.bind ?_ (fun _ => ?_))
  | exact ih0 _ _
  | exact LeO.none _
  | refine LeO.ite ?_ ?_
  | refine LeO.bind ?_ (fun _ => ?_)
theorem spec_TextOk.mono : ∀ a0 k, LeO (spec_TextOk.f k a0) (spec_TextOk.f (k + 1) a0) := by
 intro a0 k
 have ih0 := spec_TextOk.mono_l k
 unfold spec_TextOk.f
 repeat' first
   | (with_reducible exact ih0 _ _)
   | (with_reducible exact LeO.refl _)
   | (with_reducible exact LeO.none _)
   | (with_reducible refine LeO.ite ?_ ?_)
   | (with_reducible refine LeO.bind ?_ (fun _ => ?_))
   | exact ih0 _ _
   | exact LeO.none _
   | refine LeO.ite ?_ ?_
   | refine LeO.bind ?_ (fun _ => ?_)
set_option maxHeartbeats 8000000 in
set_option maxRecDepth 100000 in
theorem spec_TextOk.calls (k : Nat) (a0 : ByteArray) (r : Bool) (w : World) (h : spec_TextOk.f k a0 = some r) :
  Calls Tryd.prog 54 #[.string a0] w fun e w' => e = .returned (.bool r) ∧ Drawn0 w w' := by
 have H : (spec_TextOk.l0 k a0 0) = some r := h
 clear h
 have H' := Aside0.mk H
 clear H
 go_enter Tryd.func54, Tryd.ntmps54
 go_wp2
 go_loopg [3] k (fun kq v3 w' => ∃ (x3_1 : Int), v3 = .int .i64 x3_1 ∧ Aside0 (spec_TextOk.l0 kq a0 x3_1 = some r) ∧ Aside0 (kq ≤ k) ∧ Drawn0 w w')
 case atStart => exact ⟨(0), (by first | rfl | (simp; done) | (simp [*]; done)), H', ⟨Nat.le_refl _⟩, by repeat (first | exact Drawn0.refl _ | apply Drawn0.step)⟩
 case round =>
  clear H'
  obtain ⟨x3_1, rfl, HA, HK1, ⟨m1, rfl⟩⟩ := hrel
  cases gk with
  | zero => exact absurd HA.out (by simp [spec_TextOk.l0])
  | succ k1 =>
   have H := HA.out
   clear HA
   simp only [spec_TextOk.l0] at H
   by_cases c2 : x3_1 < (a0.size : Int)
   rotate_left
   ·rw [if_neg c2] at H
    have c2b0 : decide (x3_1 < (a0.size : Int)) = false := decide_eq_false c2
    clear c2
    obtain rfl := Option.some.inj H
    go_wp2
    go_ret
    exact ⟨by first | rfl | (simp; done) | (simp [*]; done), by repeat (first | exact Drawn0.refl _ | apply Drawn0.step)⟩
   rw [if_pos c2] at H
   have c2b0 : decide (x3_1 < (a0.size : Int)) = true := decide_eq_true c2
   clear c2
   by_cases c3 : 0 ≤ x3_1
   rotate_left
   ·rw [if_neg c3] at H
    exact absurd H (by simp)
   rw [if_pos c3] at H
   have c3b0 : decide (0 ≤ x3_1) = true := decide_eq_true c3
   clear c3
   replace H := Option.bind_eq_some_iff.mp H
   obtain ⟨t101, A50, H⟩ := H
   replace H : (if t101 = true then (spec_TextOk.l0 k1 a0 (wrap64 (x3_1 + 1))) else (some false)) = some r := H
   have A5 := Aside0.mk A50
   clear A50
   by_cases c6 : t101 = true
   ·subst c6
    have H1 : (spec_TextOk.l0 k1 a0 (wrap64 (x3_1 + 1))) = some r := by rw [if_pos rfl] at H; exact H
    clear H
    have H := H1
    clear H1
    have H' := Aside0.mk H
    clear H
    have p4 : 0 ≤ (x3_1 : Int) := of_decide_eq_true (by first | (with_reducible assumption) | assumption)
    have q4 : x3_1 < (a0.size : Int) := of_decide_eq_true (by first | (with_reducible assumption) | assumption)
    have hx4 := bt_at a0 x3_1
    replace p4 := eq_true p4
    replace q4 := eq_true q4
    go_wp2_with (first | ((with_reducible refine gate_callee (f := 108) rfl ?_); refine goesL_ (some 13) rfl rfl Tryd.func108 (by kernel_rfl) rfl #[.int .u8 (bt a0 x3_1)] rfl (by (try simp only [List.map_toArray, List.map_cons, List.map_nil]); first | done | rfl | (simp only [List.length_drop, List.length_take]; rfl)) ?_; (with_reducible refine (spec_l1Small.calls (bt a0 x3_1) true _ A5.out).mono ?_); rintro e w' ⟨rfl, ⟨nd, rfl⟩⟩; refine ⟨_, rfl, ?_⟩))
    go_roundg k1
    case measure => have := HK1.out; omega
    case rel => exact ⟨(wrap64 (x3_1 + 1)), (by first | rfl | (simp; done) | (simp [*]; done)), H', ⟨by have := HK1.out; omega⟩, by repeat (first | exact Drawn0.refl _ | apply Drawn0.step)⟩
   replace c6 := Bool.eq_false_iff.mpr c6
   subst c6
   have H1 : (some false) = some r := by rw [if_neg (show ¬ (false = true) by decide)] at H; exact H
   clear H
   have H := H1
   clear H1
   obtain rfl := Option.some.inj H
   have p4 : 0 ≤ (x3_1 : Int) := of_decide_eq_true (by first | (with_reducible assumption) | assumption)
   have q4 : x3_1 < (a0.size : Int) := of_decide_eq_true (by first | (with_reducible assumption) | assumption)
   have hx4 := bt_at a0 x3_1
   replace p4 := eq_true p4
   replace q4 := eq_true q4
   go_wp2_with (first | ((with_reducible refine gate_callee (f := 108) rfl ?_); refine goesL_ (some 13) rfl rfl Tryd.func108 (by kernel_rfl) rfl #[.int .u8 (bt a0 x3_1)] rfl (by (try simp only [List.map_toArray, List.map_cons, List.map_nil]); first | done | rfl | (simp only [List.length_drop, List.length_take]; rfl)) ?_; (with_reducible refine (spec_l1Small.calls (bt a0 x3_1) false _ A5.out).mono ?_); rintro e w' ⟨rfl, ⟨nd, rfl⟩⟩; refine ⟨_, rfl, ?_⟩))
   go_ret
   exact ⟨by first | rfl | (simp; done) | (simp [*]; done), by repeat (first | exact Drawn0.refl _ | apply Drawn0.step)⟩
/-! ### spec_SignSmall: function 113 -/
def spec_SignSmall.f (a0 : ByteArray) : Option (Bool) := if (a0.size : Int) = 1 then (if 0 < (a0.size : Int) then ((spec_l1Small.f (bt a0 0)).bind fun t101 => (some t101)) else (none)) else (some false)
set_option maxHeartbeats 8000000 in
set_option maxRecDepth 100000 in
theorem spec_SignSmall.calls (a0 : ByteArray) (r : Bool) (w : World) (h : spec_SignSmall.f a0 = some r) :
  Calls Tryd.prog 113 #[.string a0] w fun e w' => e = .returned (.bool r) ∧ Drawn0 w w' := by
 have H : (if (a0.size : Int) = 1 then (if 0 < (a0.size : Int) then ((spec_l1Small.f (bt a0 0)).bind fun t101 => (some t101)) else (none)) else (some false)) = some r := h
 clear h
 by_cases c2 : (a0.size : Int) = 1
 rotate_left
 ·rw [if_neg c2] at H
  have c2b0 : ((a0.size : Int) == 1) = false := beq_eq_false_iff_ne.mpr c2
  have c2b1 : ((a0.size : Int) != 1) = true := bne_iff_ne.mpr c2
  obtain rfl := Option.some.inj H
  go_enter Tryd.func113, Tryd.ntmps113
  go_wp2
  go_ret
  exact ⟨by first | rfl | (simp; done) | (simp [*]; done), by repeat (first | exact Drawn0.refl _ | apply Drawn0.step)⟩
 rw [if_pos c2] at H
 have c2b0 : ((a0.size : Int) == 1) = true := beq_iff_eq.mpr c2
 have c2b1 : ((a0.size : Int) != 1) = false := bne_eq_false_iff_eq.mpr c2
 clear c2
 by_cases c3 : 0 < (a0.size : Int)
 rotate_left
 ·rw [if_neg c3] at H
  exact absurd H (by simp)
 rw [if_pos c3] at H
 have c3b0 : decide (0 < (a0.size : Int)) = true := decide_eq_true c3
 have c3b1 : decide (0 < a0.size) = true := decide_eq_true (by omega)
 clear c3
 replace H := Option.bind_eq_some_iff.mp H
 obtain ⟨t101, A50, H⟩ := H
 replace H : (some t101) = some r := H
 have A5 := Aside0.mk A50
 clear A50
 obtain rfl := Option.some.inj H
 have p4 : 0 ≤ (0 : Int) := (by omega)
 have q4 : 0 < a0.size := (by have : (0 : Int) < (a0.size : Int) := of_decide_eq_true (by first | (with_reducible assumption) | assumption); omega)
 have hx4 : ∀ h : 0 < a0.size, ((a0[0]'h).toNat : Int) = bt a0 0 := bt_at a0 0
 clear p4
 have qi4 : (0 < (a0.size : Int)) = True := eq_true (of_decide_eq_true (by first | (with_reducible assumption) | assumption))
 replace q4 := eq_true q4
 go_enter Tryd.func113, Tryd.ntmps113
 go_wp2_with (first | (go_at_call 108; (with_reducible refine (spec_l1Small.calls (bt a0 0) t101 _ A5.out).mono ?_); rintro e w' ⟨rfl, ⟨nd, rfl⟩⟩))
 go_ret
 exact ⟨by first | rfl | (simp; done) | (simp [*]; done), by repeat (first | exact Drawn0.refl _ | apply Drawn0.step)⟩
end Go.Proofs.YtiibnkibckklgaaDoor.P
