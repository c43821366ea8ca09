-- Joined texts of a claim (wip/tools/bundle.py).
import Derived.Test.YtiibnkibckklgaaDoorJGramSigns2
namespace Go.Proofs.YtiibnkibckklgaaDoor.P
open Go.RowKit Go.Proofs.YtiibnkibckklgaaDoorW.PrintWords Go.Proofs.YtiibnkibckklgaaDoorW.PrintLast Go.Proofs.YtiibnkibckklgaaDoorW.PrintMore
attribute [local go_sem] max2_int min2_int max_two min_two max_three min_three max_four min_four   -- for this text's walks alone
set_option linter.unusedVariables false
set_option linter.unusedSimpArgs false
theorem q37_1 {p : Prop} (h : p := by repeat (first | (with_reducible first | exact HK.out | apply KeepBut.set_ | apply keep_drewN | apply keep_drew | apply keep_alloc | refine keep_far ?_ GW101.out _ | refine keep_far ?_ GW102.out _ | refine keep_far ?_ GW109.out _) | exact HK.out)) : p := h
theorem q37_2 {p : Prop} (h : p := by (with_reducible repeat (first | refine blk_drewN ?_ _ | refine blk_drew ?_ | refine blk_alloc ?_ _)); exact BK101.out) : p := h
theorem q37_3 {p : Prop} (h : p := by (with_reducible repeat (first | refine blk_drewN ?_ _ | refine blk_drew ?_ | refine blk_alloc ?_ _)); exact BK102.out) : p := h
theorem q37_4 {p : Prop} (h : p := by (with_reducible repeat (first | refine blk_drewN ?_ _ | refine blk_drew ?_ | refine blk_alloc ?_ _)); exact BK109.out) : p := h
theorem q37_5 {p : Prop} (h : p := by repeat (first | (with_reducible first | exact HK.out | apply KeepBut.set_ | apply keep_drewN | apply keep_drew | apply keep_alloc | refine keep_far ?_ GW101.out _ | refine keep_far ?_ GW102.out _) | exact HK.out)) : p := h
theorem q37_6 {p : Prop} (h : p := by repeat (first | (with_reducible first | exact HB.out | apply below_alloc | apply pw_below_drewN | apply below_drew1 | refine below_set ?_ (IsS132.ge HI0.out) | refine below_set ?_ GE101.out | refine below_set ?_ GE102.out | refine below_set ?_ GE109.out) | exact HB.out)) : p := h
theorem q37_7 {p : Prop} (h : p := by repeat (first | (with_reducible first | exact HI0.out | apply IsS132.alloc | apply IsS132.drewN | apply IsS132.drew | apply IsS132.set_1 | refine IsS132.far ?_ NB0_101.out _ | refine IsS132.far ?_ NB0_102.out _ | refine IsS132.far ?_ NB0_109.out _) | exact HI0.out)) : p := h
theorem q37_8 {p : Prop} (h : p := by (try simp only [List.map_toArray, List.map_cons, List.map_nil]); first | done | rfl | (simp only [List.length_drop, List.length_take]; rfl)) : p := h
theorem q37_9 {p : Prop} (h : p := by (with_reducible repeat (first | apply Kd.R_alloc | apply Kd.R_drewN | apply Kd.R_drew)); exact HO_110001.out) : p := h
theorem q37_10 {p : Prop} (h : p := by (with_reducible repeat (first | refine blk_drewN ?_ _ | refine blk_drew ?_ | refine blk_alloc ?_ _)); refine blk_put (cs := #[.string a1_0, .slice none 0 0]) ?_ 1 _ rfl; (with_reducible repeat (first | refine blk_drewN ?_ _ | refine blk_drew ?_ | refine blk_alloc ?_ _)); refine blk_put (cs := #[.string (⟨#[]⟩ : ByteArray), .slice none 0 0]) ?_ 0 _ rfl; (with_reducible repeat (first | refine blk_drewN ?_ _ | refine blk_drew ?_ | refine blk_alloc ?_ _)); exact BK102.out) : p := h
theorem q37_11 {p : Prop} (h : p := by repeat (first | (with_reducible first | exact HB.out | apply below_alloc | apply pw_below_drewN | apply below_drew1 | refine below_set ?_ (IsS132.ge HI0.out) | refine below_set ?_ GE101.out | refine below_set ?_ GE102.out) | exact HB.out)) : p := h
theorem q37_12 {p : Prop} (h : p := by repeat (first | (with_reducible first | exact HI0.out | apply IsS132.alloc | apply IsS132.drewN | apply IsS132.drew | apply IsS132.set_1 | refine IsS132.far ?_ NB0_101.out _ | refine IsS132.far ?_ NB0_102.out _) | exact HI0.out)) : p := h
theorem q37_13 {p : Prop} (h : p := by (with_reducible repeat (first | refine blk_drewN ?_ _ | refine blk_drew ?_ | refine blk_alloc ?_ _)); refine blk_put (cs := #[.string a1_0, .slice none 0 0]) ?_ 1 _ rfl; (with_reducible repeat (first | refine blk_drewN ?_ _ | refine blk_drew ?_ | refine blk_alloc ?_ _)); refine blk_put (cs := #[.string (⟨#[]⟩ : ByteArray), .slice none 0 0]) ?_ 0 _ rfl; (with_reducible repeat (first | refine blk_drewN ?_ _ | refine blk_drew ?_ | refine blk_alloc ?_ _)); exact BK109.out) : p := h
theorem q37_14 {p : Prop} (h : p := by (with_reducible repeat (first | refine blk_drewN ?_ _ | refine blk_drew ?_ | refine blk_alloc ?_ _)); refine blk_far ?_ NB101_109.out _; (with_reducible repeat (first | refine blk_drewN ?_ _ | refine blk_drew ?_ | refine blk_alloc ?_ _)); refine blk_far ?_ NB101_109.out _; (with_reducible repeat (first | refine blk_drewN ?_ _ | refine blk_drew ?_ | refine blk_alloc ?_ _)); exact BK101.out) : p := h
theorem q37_15 {p : Prop} (h : p := by (with_reducible repeat (first | refine blk_drewN ?_ _ | refine blk_drew ?_ | refine blk_alloc ?_ _)); refine blk_far ?_ NB102_109.out _; (with_reducible repeat (first | refine blk_drewN ?_ _ | refine blk_drew ?_ | refine blk_alloc ?_ _)); refine blk_far ?_ NB102_109.out _; (with_reducible repeat (first | refine blk_drewN ?_ _ | refine blk_drew ?_ | refine blk_alloc ?_ _)); exact BK102.out) : p := h
theorem q37_16 {p : Prop} (h : p := by repeat (first | (with_reducible first | exact HK.out | apply KeepBut.set_ | apply keep_drewN | apply keep_drew | apply keep_alloc | refine keep_far ?_ GW101.out _) | exact HK.out)) : p := h
theorem q37_17 {p : Prop} (h : p := by (with_reducible repeat (first | apply Kd.R_alloc | apply Kd.R_drewN | apply Kd.R_drew)); exact (Kd.R_mono (Kd.R_far (p := ⟨gb109, 1, none⟩) (Kd.R_far (p := ⟨gb109, 0, none⟩) (Kd.R_types HO108.out BK109.out (by decide)) (fun _ hk => hk.2) (.string a1_0)) (fun _ hk => hk.2) (.slice Ao14 y106.length co14)) (fun _ h_ => h_.1))) : p := h
theorem q37_18 {p : Prop} (h : p := by (with_reducible repeat (first | apply Kd.R_alloc | apply Kd.R_drewN | apply Kd.R_drew)); exact HO105.out) : p := h
theorem q37_19 {p : Prop} (h : p := by (with_reducible repeat (first | apply Kd.R_alloc | apply Kd.R_drewN | apply Kd.R_drew)); exact HO108.out) : p := h
theorem q37_20 {p : Prop} (h : p := by repeat (first | (with_reducible first | exact HK.out | apply KeepBut.set_ | apply keep_drewN | apply keep_drew | apply keep_alloc) | exact HK.out)) : p := h
theorem q37_21 {p : Prop} (h : p := by simp only [putAll, Act.put, List.setIfInBounds_toArray, List.set_cons_zero, List.set_cons_succ]) : p := h
theorem q37_22 {p : Prop} (h : p := by have h_ := Kd.R_ne HO_110001.out BK101.out (by decide); intro e_; exact h_ (by rw [e_]; rfl)) : p := h
theorem q37_23 {p : Prop} (h : p := by have h_ := Kd.R_ne HO_110001.out BK102.out (by decide); intro e_; exact h_ (by rw [e_]; rfl)) : p := h
theorem q37_24 {p : Prop} (h : p := by have h_ := Kd.R_ne HO_110001.out BK109.out (by decide); intro e_; exact h_ (by rw [e_]; rfl)) : p := h
/-! ### spec_l1Bent: function 99 -/
mutual
def spec_l1Bent.j0 : Nat → Int → Bool → List Int → Int → ByteArray → List (S46) → Option (ByteArray × (List (S46)) × Int)
 | 0, _, _, _, _, _, _ => none
 | k + 1, x6, x24, x1000, x1001, x110000, x110001 => if x24 = true then (some (x110000, x110001, x1001)) else ((spec_l17Rd_pick.f k x1000 x1001 x6).bind fun bt112 => ((spec_l17Rd_pick.f k x1000 bt112.2 5).bind fun bt114 => (if bt114.1 = 0 then ((spec_l17Rd_of.f k x1000 bt114.2 (([(⟨#[]⟩ : ByteArray), (⟨#[97]⟩ : ByteArray), (⟨#[65, 66]⟩ : ByteArray), (⟨#[70]⟩ : ByteArray), (⟨#[66]⟩ : ByteArray)] : List ByteArray))).bind fun bt119 => (some (bt119.1, x110001, bt119.2))) else (if bt114.1 = 1 then ((spec_l17Rd_of.f k x1000 bt114.2 (([(⟨#[]⟩ : ByteArray), (⟨#[97]⟩ : ByteArray), (⟨#[65, 66]⟩ : ByteArray), (⟨#[70]⟩ : ByteArray)] : List ByteArray))).bind fun bt124 => (if 0 ≤ bt112.1 then (if bt112.1 < (x110001.length : Int) then (some (x110000, (x110001.set (bt112.1 : Int).toNat (⟨bt124.1, (rd_T46 x110001 bt112.1).f1⟩ : S46)), bt124.2)) else (none)) else (none))) else (if bt114.1 = 2 then ((spec_l17Rd_of.f k x1000 bt114.2 (([(⟨#[97, 97, 97, 97, 97]⟩ : ByteArray), (⟨#[101]⟩ : ByteArray), (⟨#[32]⟩ : ByteArray), (⟨#[97, 62]⟩ : ByteArray), (⟨#[70]⟩ : ByteArray)] : List ByteArray))).bind fun bt130 => (if 0 ≤ bt112.1 then (if bt112.1 < (x110001.length : Int) then (some (x110000, (x110001.set (bt112.1 : Int).toNat (⟨(rd_T46 x110001 bt112.1).f0, bt130.1⟩ : S46)), bt130.2)) else (none)) else (none))) else (if bt114.1 = 3 then (if 0 ≤ bt112.1 then (if bt112.1 < (x110001.length : Int) then (if x110001.length < 4398046511104 then (some (x110000, (x110001 ++ [(⟨(rd_T46 x110001 bt112.1).f0, (rd_T46 x110001 bt112.1).f1⟩ : S46)]), bt114.2)) else (none)) else (none)) else (none)) else (spec_l1Bent.l0 k x1000 bt114.2 x110000 x110001)))))))
def spec_l1Bent.l0 : Nat → List Int → Int → ByteArray → List (S46) → Option (ByteArray × (List (S46)) × Int)
 | 0, _, _, _, _ => none
 | k + 1, x1000, x1001, x110000, x110001 => if (x110001.length : Int) ≤ 8 then ((spec_l1Signed.f k x1000 x1001 3).bind fun bt137 => (if x110001.length < 4398046511104 then (spec_l1Bent.l0 k x1000 bt137.2 x110000 (x110001 ++ [(⟨(⟨#[69]⟩ : ByteArray), bt137.1⟩ : S46)])) else (none))) else (some (x110000, x110001, x1001))
end
def spec_l1Bent.f (k : Nat) (s0_0 : List Int) (s0_1 : Int) (a1_0 : ByteArray) (l1_1 : List (S46)) : Option (ByteArray × (List (S46)) × Int) := (some (([] : List (S46)) : List (S46))).bind fun y103 => (if y103.length + l1_1.length < 4398046511104 then ((some (y103 ++ l1_1 : List (S46))).bind fun y106 => ((spec_l17Rd_pick.f k s0_0 s0_1 12).bind fun bt110 => (if bt110.1 > 0 then (spec_l1Bent.j0 k (y106.length : Int) true s0_0 bt110.2 a1_0 y106) else (spec_l1Bent.j0 k (y106.length : Int) ((y106.length : Int) == 0) s0_0 bt110.2 a1_0 y106)))) else (none))
theorem spec_l1Bent.mono_l : ∀ k, (∀ y0 y1 y2 y3 y4 y5, LeO (spec_l1Bent.j0 k y0 y1 y2 y3 y4 y5) (spec_l1Bent.j0 (k + 1) y0 y1 y2 y3 y4 y5)) ∧ (∀ y0 y1 y2 y3, LeO (spec_l1Bent.l0 k y0 y1 y2 y3) (spec_l1Bent.l0 (k + 1) y0 y1 y2 y3))
 | 0 => ⟨fun _ _ _ _ _ _ r h => by simp [spec_l1Bent.j0] at h, fun _ _ _ _ r h => by simp [spec_l1Bent.l0] at h⟩
 | k + 1 => by
  obtain ⟨ih0, ih1⟩ := spec_l1Bent.mono_l k
  refine ⟨?_, ?_⟩
  ·intro y0 y1 y2 y3 y4 y5
   unfold spec_l1Bent.j0
   repeat' first
   | (with_reducible exact ih0 _ _ _ _ _ _)
   | (with_reducible exact ih1 _ _ _ _)
   | (with_reducible exact spec_l17Rd_of.mono _ _ _ _)
   | (with_reducible exact spec_l17Rd_pick.mono _ _ _ _)
   | (with_reducible exact spec_l1Signed.mono _ _ _ _)
   | (with_reducible exact LeO.refl _)
   | (with_reducible exact LeO.none _)
   | (with_reducible refine LeO.ite ?_ ?_)
   | (with_reducible refine LeO.bind ?_ (fun _ => ?_))
   | exact ih0 _ _ _ _ _ _
   | exact ih1 _ _ _ _
   | exact spec_l17Rd_of.mono _ _ _ _
   | exact spec_l17Rd_pick.mono _ _ _ _
   | exact spec_l1Signed.mono _ _ _ _
   | exact LeO.none _
   | refine LeO.ite ?_ ?_
   | refine LeO.bind ?_ (fun _ => ?_)
  ·intro y0 y1 y2 y3
   unfold spec_l1Bent.l0
   repeat' first
   | (with_reducible exact ih0 _ _ _ _ _ _)
   | (with_reducible exact ih1 _ _ _ _)
   | (with_reducible exact spec_l17Rd_of.mono _ _ _ _)
   | (with_reducible exact spec_l17Rd_pick.mono _ _ _ _)
   | (with_reducible exact spec_l1Signed.mono _ _ _ _)
   | (with_reducible exact LeO.refl _)
   | (with_reducible exact LeO.none _)
   | (with_reducible refine LeO.ite ?_ ?_)
   | (with_reducible refine LeO.bind ?_ (fun _ => ?_))
   | exact ih0 _ _ _ _ _ _
   | exact ih1 _ _ _ _
   | exact spec_l17Rd_of.mono _ _ _ _
   | exact spec_l17Rd_pick.mono _ _ _ _
   | exact spec_l1Signed.mono _ _ _ _
   | exact LeO.none _
   | refine LeO.ite ?_ ?_
   | refine LeO.bind ?_ (fun _ => ?_)
theorem spec_l1Bent.mono : ∀ a0 a1 a2 a3 k, LeO (spec_l1Bent.f k a0 a1 a2 a3) (spec_l1Bent.f (k + 1) a0 a1 a2 a3) := by
 intro a0 a1 a2 a3 k
 obtain ⟨ih0, ih1⟩ := spec_l1Bent.mono_l k
 unfold spec_l1Bent.f
 repeat' first
   | (with_reducible exact ih0 _ _ _ _ _ _)
   | (with_reducible exact ih1 _ _ _ _)
   | (with_reducible exact spec_l17Rd_of.mono _ _ _ _)
   | (with_reducible exact spec_l17Rd_pick.mono _ _ _ _)
   | (with_reducible exact spec_l1Signed.mono _ _ _ _)
   | (with_reducible exact LeO.refl _)
   | (with_reducible exact LeO.none _)
   | (with_reducible refine LeO.ite ?_ ?_)
   | (with_reducible refine LeO.bind ?_ (fun _ => ?_))
   | exact ih0 _ _ _ _ _ _
   | exact ih1 _ _ _ _
   | exact spec_l17Rd_of.mono _ _ _ _
   | exact spec_l17Rd_pick.mono _ _ _ _
   | exact spec_l1Signed.mono _ _ _ _
   | exact LeO.none _
   | refine LeO.ite ?_ ?_
   | refine LeO.bind ?_ (fun _ => ?_)
def spec_l1Bent.T1 : Bool × List (List Nat × List Nat) := (true, [([], []), ([0], [0]), ([], []), ([], []), ([3], [3]), ([2, 4], [2, 4]), ([1, 5], [1, 5]), ([], []), ([7, 6, 5, 0, 1, 2, 3, 4, 5, 6, 7], [6, 7])])
def spec_l1Bent.B1 : List Nat := [0, 1, 0, 0, 8, 28, 63, 0, 255]
theorem spec_l1Bent.tab1 : rtab .any (opsOf Tryd.f99 1) = spec_l1Bent.T1 := by kernel_rfl
theorem spec_l1Bent.bits1 : waitsOk spec_l1Bent.T1.2 spec_l1Bent.B1 = true := by kernel_rfl
def spec_l1Bent.T8 : Bool × List (List Nat × List Nat) := (true, [([], []), ([0], [0]), ([], []), ([2], [2]), ([3], [3]), ([4], [4]), ([1, 5, 3], [1, 5]), ([0, 1, 2, 3, 4, 5, 6], []), ([7, 6, 6, 0, 1, 2, 3, 4, 5, 6], [6, 7])])
def spec_l1Bent.B8 : List Nat := [0, 1, 0, 4, 12, 28, 63, 127, 255]
theorem spec_l1Bent.tab8 : rtab .any (opsOf Tryd.f99 8) = spec_l1Bent.T8 := by kernel_rfl
theorem spec_l1Bent.bits8 : waitsOk spec_l1Bent.T8.2 spec_l1Bent.B8 = true := by kernel_rfl
def spec_l1Bent.T12 : Bool × List (List Nat × List Nat) := (true, [([], []), ([0], [0]), ([], []), ([], []), ([], []), ([3, 4], [3, 4]), ([1, 2, 0, 1, 2, 3, 4, 5], [1, 2]), ([6, 0, 1, 2, 3, 4, 5], [6]), ([7, 5, 5, 0, 1, 2, 3, 4, 5], [5, 7])])
def spec_l1Bent.B12 : List Nat := [0, 1, 0, 0, 0, 24, 63, 127, 255]
theorem spec_l1Bent.tab12 : rtab .any (opsOf Tryd.f99 12) = spec_l1Bent.T12 := by kernel_rfl
theorem spec_l1Bent.bits12 : waitsOk spec_l1Bent.T12.2 spec_l1Bent.B12 = true := by kernel_rfl
def spec_l1Bent.T14 : Bool × List (List Nat × List Nat) := (true, [([], []), ([0], [0]), ([], []), ([], []), ([], []), ([3, 4], [3, 4]), ([1, 2, 0, 1, 2, 3, 4, 5], [1, 2]), ([6, 0, 1, 2, 3, 4, 5], [6]), ([7, 5, 5, 0, 1, 2, 3, 4, 5], [5, 7])])
def spec_l1Bent.B14 : List Nat := [0, 1, 0, 0, 0, 24, 63, 127, 255]
theorem spec_l1Bent.tab14 : rtab .any (opsOf Tryd.f99 14) = spec_l1Bent.T14 := by kernel_rfl
theorem spec_l1Bent.bits14 : waitsOk spec_l1Bent.T14.2 spec_l1Bent.B14 = true := by kernel_rfl
def spec_l1Bent.T16 : Bool × List (List Nat × List Nat) := (true, [([], []), ([0], [0]), ([], []), ([2], [2]), ([], []), ([3, 4], [3, 4]), ([5], [5]), ([6], [6]), ([1, 7], [1, 7]), ([0, 1, 2, 3, 4, 5, 6, 7, 8], []), ([9, 8, 8, 0, 1, 2, 3, 4, 5, 6, 7, 8], [8, 9])])
def spec_l1Bent.B16 : List Nat := [0, 1, 0, 4, 0, 28, 60, 124, 255, 511, 1023]
theorem spec_l1Bent.tab16 : rtab .any (opsOf Tryd.f99 16) = spec_l1Bent.T16 := by kernel_rfl
theorem spec_l1Bent.bits16 : waitsOk spec_l1Bent.T16.2 spec_l1Bent.B16 = true := by kernel_rfl
set_option maxHeartbeats 8000000 in
set_option maxRecDepth 100000 in
theorem spec_l1Bent.calls (k : Nat) (g : Nat) (s0_0 : List Int) (s0_1 : Int) (a1_0 : ByteArray) (A1_1 : Option Addr) (c1_1 : Nat) (l1_1 : List (S46)) (r1 : ByteArray) (r2 : List (S46)) (r3 : Int) (w0 w : World) (hI : IsS132 w0 w g s0_0 s0_1) (hB : Below w0.heap.size w0 w) (hr1_1 : ∀ W_, KeepBut w W_ g none → Kd.C k46 W_ A1_1 l1_1.length l1_1) (hc1_1 : l1_1.length ≤ c1_1) (h : spec_l1Bent.f k s0_0 s0_1 a1_0 l1_1 = some (r1, r2, r3)) :
  Calls Tryd.prog 99 #[.pointer (some ⟨g, 0, none⟩), .agg #[.string a1_0, .slice A1_1 l1_1.length c1_1]] w fun e w' => ∃ v1_ : Value, e = .returned (.agg #[.string r1, v1_]) ∧ Kd.R k46 46 w' w.heap.size (fun _ => True) v1_ r2 ∧ IsS132 w0 w' g s0_0 r3 ∧ Below w0.heap.size w0 w' ∧ KeepBut w w' g none := by
 have hu25 := Tryd.underlying25
 have hu46 := Tryd.underlying46
 have HR1_1 := Aside0.mk hr1_1
 have HC1_1 := Aside0.mk hc1_1
 clear hr1_1 hc1_1
 have HI0 := Aside0.mk hI
 have HK := Aside0.mk (KeepBut.refl w g none)
 have HL := Aside0.mk hB.size
 clear hI
 have HW0 := Aside0.mk hB.size
 have HB := Aside0.mk hB
 clear hB
 have H : ((some (([] : List (S46)) : List (S46))).bind fun y103 => (if y103.length + l1_1.length < 4398046511104 then ((some (y103 ++ l1_1 : List (S46))).bind fun y106 => ((spec_l17Rd_pick.f k s0_0 s0_1 12).bind fun bt110 => (if bt110.1 > 0 then (spec_l1Bent.j0 k (y106.length : Int) true s0_0 bt110.2 a1_0 y106) else (spec_l1Bent.j0 k (y106.length : Int) ((y106.length : Int) == 0) s0_0 bt110.2 a1_0 y106)))) else (none))) = some (r1, r2, r3) := h
 clear h
 obtain ⟨y103, hy103⟩ : ∃ y_ : List (S46), y_ = (([] : List (S46))) := ⟨_, rfl⟩
 replace H : (if y103.length + l1_1.length < 4398046511104 then ((some (y103 ++ l1_1 : List (S46))).bind fun y106 => ((spec_l17Rd_pick.f k s0_0 s0_1 12).bind fun bt110 => (if bt110.1 > 0 then (spec_l1Bent.j0 k (y106.length : Int) true s0_0 bt110.2 a1_0 y106) else (spec_l1Bent.j0 k (y106.length : Int) ((y106.length : Int) == 0) s0_0 bt110.2 a1_0 y106)))) else (none)) = some (r1, r2, r3) := by first | (rw [hy103]; with_reducible exact H) | (have H2_ := (Option.bind_some _ _).symm.trans H; rw [hy103]; with_reducible exact H2_) | (have H2_ := (Option.bind_some _ _).symm.trans H; with_reducible exact H2_) | with_reducible exact H | (rw [hy103]; exact H) | exact H
 have Ny103 := Aside0.mk hy103
 clear hy103
 by_cases c3 : y103.length + l1_1.length < 4398046511104
 ·rw [if_pos c3] at H
  have LMc3 := Aside0.mk c3
  clear c3
  obtain ⟨y106, hy106⟩ : ∃ y_ : List (S46), y_ = (y103 ++ l1_1) := ⟨_, rfl⟩
  replace H : ((spec_l17Rd_pick.f k s0_0 s0_1 12).bind fun bt110 => (if bt110.1 > 0 then (spec_l1Bent.j0 k (y106.length : Int) true s0_0 bt110.2 a1_0 y106) else (spec_l1Bent.j0 k (y106.length : Int) ((y106.length : Int) == 0) s0_0 bt110.2 a1_0 y106))) = some (r1, r2, r3) := by first | (rw [hy106]; with_reducible exact H) | (have H2_ := (Option.bind_some _ _).symm.trans H; rw [hy106]; with_reducible exact H2_) | (have H2_ := (Option.bind_some _ _).symm.trans H; with_reducible exact H2_) | with_reducible exact H | (rw [hy106]; exact H) | exact H
  have Ny106 := Aside0.mk hy106
  clear hy106
  have HC4 := Aside0.mk H
  clear H
  go_enter Tryd.func99, Tryd.ntmps99
  try go_wp2_with (first | ((with_reducible refine gate_dst (N := 3) rfl ?_); refine box_event ?hg (N := 3) ?hd (cs := #[.string a1_0, .slice A1_1 l1_1.length c1_1]) (t := 25) ?hr ?_; (case hd => rfl); (case hg => rfl); (case hr => first | (go_simp; done) | (go_simp; rfl)); intro gb101 hg w5 hbox hb; have n0_ := Aside0.mk (IsS132.below (by repeat (first | (with_reducible first | exact HI0.out | apply IsS132.alloc | apply IsS132.drewN | apply IsS132.drew | apply IsS132.set_1) | exact HI0.out)) hb); have n1_ := Aside0.mk (KeepBut.trans q37_20 (KeepBut.of_below hb g none) (.inl rfl)); have n2_ := Aside0.mk (below_step (by repeat (first | (with_reducible first | exact HB.out | apply below_alloc | apply pw_below_drewN | apply below_drew1 | refine below_set ?_ (IsS132.ge HI0.out)) | exact HB.out)) hb); have n3_ := Aside0.mk (hbox); have n4_ := Aside0.mk ((by rw [hg]; exact (keep_size (w := w) (g := g) (row := none) q37_20) : w.heap.size ≤ gb101)); have n5_ := Aside0.mk ((Nat.le_trans HW0.out (by rw [hg]; exact (keep_size (w := w) (g := g) (row := none) q37_20) : w.heap.size ≤ gb101) : w0.heap.size ≤ gb101)); have n6_ := Aside0.mk ((by rw [hg]; exact Nat.ne_of_lt (IsS132.lt (show IsS132 w0 _ g s0_0 s0_1 from by repeat (first | (with_reducible first | exact HI0.out | apply IsS132.alloc | apply IsS132.drewN | apply IsS132.drew | apply IsS132.set_1) | exact HI0.out))) : g ≠ gb101)); have n7_ := Aside0.mk ((by rw [hg]; exact Nat.ne_of_gt (IsS132.lt (show IsS132 w0 _ g s0_0 s0_1 from by repeat (first | (with_reducible first | exact HI0.out | apply IsS132.alloc | apply IsS132.drewN | apply IsS132.drew | apply IsS132.set_1) | exact HI0.out))) : gb101 ≠ g)); clear HI0; clear HK; clear HB; have HI0 := n0_; have HK := n1_; have HB := n2_; have BK101 := n3_; have GW101 := n4_; have GE101 := n5_; have NB0_101 := n6_; have NB101_0 := n7_; clear n0_ n1_ n2_ n3_ n4_ n5_ n6_ n7_; clear hb hbox hg) | ((with_reducible refine gate_dst (N := 4) rfl ?_); refine box_event ?hg (N := 4) ?hd (cs := #[.string (⟨#[]⟩ : ByteArray), .slice none 0 0]) (t := 25) ?hr ?_; (case hd => rfl); (case hg => rfl); (case hr => first | (go_simp; done) | (go_simp; rfl)); intro gb102 hg w6 hbox hb; have n0_ := Aside0.mk (IsS132.below (by repeat (first | (with_reducible first | exact HI0.out | apply IsS132.alloc | apply IsS132.drewN | apply IsS132.drew | apply IsS132.set_1 | refine IsS132.far ?_ NB0_101.out _) | exact HI0.out)) hb); have n1_ := Aside0.mk (blk_below (g := gb101) (o := .cells #[.string a1_0, .slice A1_1 l1_1.length c1_1] 25 (0, 0)) q37_2 hb); have n2_ := Aside0.mk (KeepBut.trans q37_16 (KeepBut.of_below hb g none) (.inl rfl)); have n3_ := Aside0.mk (below_step (by repeat (first | (with_reducible first | exact HB.out | apply below_alloc | apply pw_below_drewN | apply below_drew1 | refine below_set ?_ (IsS132.ge HI0.out) | refine below_set ?_ GE101.out) | exact HB.out)) hb); have n4_ := Aside0.mk (hbox); have n5_ := Aside0.mk ((by rw [hg]; exact (keep_size (w := w) (g := g) (row := none) q37_16) : w.heap.size ≤ gb102)); have n6_ := Aside0.mk ((Nat.le_trans HW0.out (by rw [hg]; exact (keep_size (w := w) (g := g) (row := none) q37_16) : w.heap.size ≤ gb102) : w0.heap.size ≤ gb102)); have n7_ := Aside0.mk ((by rw [hg]; exact Nat.ne_of_lt (blk_lt (g := gb101) (o := .cells #[.string a1_0, .slice A1_1 l1_1.length c1_1] 25 (0, 0)) q37_2) : gb101 ≠ gb102)); have n8_ := Aside0.mk ((by rw [hg]; exact Nat.ne_of_gt (blk_lt (g := gb101) (o := .cells #[.string a1_0, .slice A1_1 l1_1.length c1_1] 25 (0, 0)) q37_2) : gb102 ≠ gb101)); have n9_ := Aside0.mk ((by rw [hg]; exact Nat.ne_of_lt (IsS132.lt (show IsS132 w0 _ g s0_0 s0_1 from by repeat (first | (with_reducible first | exact HI0.out | apply IsS132.alloc | apply IsS132.drewN | apply IsS132.drew | apply IsS132.set_1 | refine IsS132.far ?_ NB0_101.out _) | exact HI0.out))) : g ≠ gb102)); have n10_ := Aside0.mk ((by rw [hg]; exact Nat.ne_of_gt (IsS132.lt (show IsS132 w0 _ g s0_0 s0_1 from by repeat (first | (with_reducible first | exact HI0.out | apply IsS132.alloc | apply IsS132.drewN | apply IsS132.drew | apply IsS132.set_1 | refine IsS132.far ?_ NB0_101.out _) | exact HI0.out))) : gb102 ≠ g)); clear HI0; clear BK101; clear HK; clear HB; have HI0 := n0_; have BK101 := n1_; have HK := n2_; have HB := n3_; have BK102 := n4_; have GW102 := n5_; have GE102 := n6_; have NB101_102 := n7_; have NB102_101 := n8_; have NB0_102 := n9_; have NB102_0 := n10_; clear n0_ n1_ n2_ n3_ n4_ n5_ n6_ n7_ n8_ n9_ n10_; clear hb hbox hg))
  have n0_ := Aside0.mk (blk_drew BK101.out)
  have n1_ := Aside0.mk (blk_drew BK102.out)
  have n2_ := Aside0.mk (IsS132.drew HI0.out)
  have n3_ := Aside0.mk (keep_drew HK.out)
  have n4_ := Aside0.mk (below_drew1 HB.out)
  clear BK101
  clear BK102
  clear HI0
  clear HK
  clear HB
  have BK101 := n0_
  have BK102 := n1_
  have HI0 := n2_
  have HK := n3_
  have HB := n4_
  clear n0_ n1_ n2_ n3_ n4_
  refine start_ (n := 9) (S := fun w' => w'.cell? ⟨gb101, 0, none⟩ = some (.string a1_0) ∧ w'.cell? ⟨gb101, 1, none⟩ = some (.slice A1_1 l1_1.length c1_1)) (ds := []) #[false, false, false, false, false, false, false, false, false] (by kernel_rfl) rfl rfl ⟨(blk_cell BK101.out 0).trans rfl, (blk_cell BK101.out 1).trans rfl⟩ (fun hHeld => ?_); refine with_tabW spec_l1Bent.tab1 spec_l1Bent.bits1 (fun HT_ HW_ => ?_)
  generalize w6.drew = w7 at BK101 BK102 HI0 HK HB hHeld ⊢
  refine pure_ (i := 0) (N := some 8) (v := ?_) (a' := ?_) #[true, false, false, false, false, false, false, false, false] rfl rfl (any_of HT_.out (by kernel_rfl)) (fun _ _ _ h => h) (Or.inl ⟨by rfl, ?_⟩) ?_ ?_
  rotate_left
  ·intro w'
   go_simp
   with_reducible rfl
  rotate_left
  ·simp only [Act.put, List.setIfInBounds_toArray, List.set_cons_zero, List.set_cons_succ, i64_w, i32_w]
   rfl
  refine pure_ (i := 3) (N := some 11) (v := ?_) (a' := ?_) #[true, false, false, true, false, false, false, false, false] rfl rfl (any_of HT_.out (by kernel_rfl)) (fun _ _ _ h => h) (Or.inl ⟨by rfl, ?_⟩) ?_ ?_
  rotate_left
  ·intro w'
   go_simp
   with_reducible rfl
  rotate_left
  ·simp only [Act.put, List.setIfInBounds_toArray, List.set_cons_zero, List.set_cons_succ, i64_w, i32_w]
   rfl
  refine take_ (i := 1) (N := some 9) (v := ?_) (a' := ?_) #[true, true, false, true, false, false, false, false, false] rfl rfl (take_ofW HT_.out HW_.out (by kernel_rfl)) (fun _ _ _ h => h) (Or.inl ⟨by rfl, ?_⟩) hHeld ?_ ?_
  rotate_left
  ·rintro w' ⟨s0, s1⟩
   go_simp
   with_reducible rfl
  rotate_left
  ·simp only [Act.put, List.setIfInBounds_toArray, List.set_cons_zero, List.set_cons_succ, i64_w, i32_w]
   rfl
  refine take_ (i := 4) (N := some 12) (v := ?_) (a' := ?_) #[true, true, false, true, true, false, false, false, false] rfl rfl (take_ofW HT_.out HW_.out (by kernel_rfl)) (fun _ _ _ h => h) (Or.inl ⟨by rfl, ?_⟩) hHeld ?_ ?_
  rotate_left
  ·rintro w' ⟨s0, s1⟩
   go_simp
   with_reducible rfl
  rotate_left
  ·simp only [Act.put, List.setIfInBounds_toArray, List.set_cons_zero, List.set_cons_succ, i64_w, i32_w]
   rfl
  refine join_ (σ := Value × Value × Nat) 1 #[true, true, true, true, true, true, true, true, false] (fun s_ => [(10, s_.1), (13, s_.2.1), (5, .pointer (some ⟨s_.2.2, 0, none⟩)), (14, .agg #[.string a1_0, s_.2.1])]) (fun s_ w' => (w'.cell? ⟨gb101, 0, none⟩ = some (.string a1_0) ∧ w'.cell? ⟨gb101, 1, none⟩ = some (.slice A1_1 l1_1.length c1_1)) ∧ (Kd.R k46 46 w' w.heap.size (fun _ => True) s_.2.1 y106) ∧ (w'.heap[gb101]? = some (.cells #[.string a1_0, .slice A1_1 l1_1.length c1_1] 25 (0, 0))) ∧ (w'.heap[gb102]? = some (.cells #[.string (⟨#[]⟩ : ByteArray), .slice none 0 0] 25 (0, 0))) ∧ (w'.heap[s_.2.2]? = some (.cells #[.string (⟨#[]⟩ : ByteArray), .slice none 0 0] 25 (0, 0))) ∧ (w.heap.size ≤ s_.2.2) ∧ (w0.heap.size ≤ s_.2.2) ∧ (g ≠ s_.2.2) ∧ (s_.2.2 ≠ g) ∧ (gb101 ≠ s_.2.2) ∧ (s_.2.2 ≠ gb101) ∧ (gb102 ≠ s_.2.2) ∧ (s_.2.2 ≠ gb102) ∧ (IsS132 w0 w' g s0_0 s0_1) ∧ (KeepBut w w' g none) ∧ (Below w0.heap.size w0 w')) ?_ ?_
  rotate_left
  ·intro hCont
   refine two_ (i := 2) (j := 7) (Ni := some 10) (Nj := some 5) #[true, true, true, true, true, false, false, false, false] #[true, true, false, true, true, false, false, true, false] rfl rfl rfl rfl (two_of HT_.out (by kernel_rfl)) (by decide) (by decide) (fun K hK => ?_) (fun K hK => ?_)
   ·skip
    refine Kd.R_lit_step k46 _ 46 ?hg (N := 10) ?hd (xs := ([] : List (S46))) (inner := []) (ok := fun _ => True) (okp := fun _ => True) ?hr ?hp (fun _ hk => hk) trivial (Below.refl _ _) (Nat.le_refl _) (by simp) ?_; (case hd => rfl); (case hg => rfl); (case hr => first | (go_simp; done) | (go_simp; rfl)); (case hp => exact (Reps.none _ _))
    intro v104 w8 ho9 hb hg_ hnew_
    clear hg_ hnew_
    (first | rw [← Ny103.out] at ho9 | (simp only [Int.reduceToNat] at ho9; rw [← Ny103.out] at ho9))
    have n0_ := Aside0.mk (Kd.R_lower ho9 (keep_size (w := w) (g := g) (row := none) q37_5))
    have n1_ := Aside0.mk (IsS132.below q37_12 hb)
    have n2_ := Aside0.mk (blk_below (g := gb101) (o := .cells #[.string a1_0, .slice A1_1 l1_1.length c1_1] 25 (0, 0)) q37_2 hb)
    have n3_ := Aside0.mk (blk_below (g := gb102) (o := .cells #[.string (⟨#[]⟩ : ByteArray), .slice none 0 0] 25 (0, 0)) q37_3 hb)
    have n4_ := Aside0.mk (KeepBut.trans q37_5 (KeepBut.of_below hb g none) (.inl rfl))
    have n5_ := Aside0.mk (below_step q37_11 hb)
    clear HI0
    clear BK101
    clear BK102
    clear HK
    clear HB
    have HO105 := n0_
    have HI0 := n1_
    have BK101 := n2_
    have BK102 := n3_
    have HK := n4_
    have HB := n5_
    clear n0_ n1_ n2_ n3_ n4_ n5_
    clear hb ho9
    refine hK.out _ _ ⟨(blk_cell BK101.out 0).trans rfl, (blk_cell BK101.out 1).trans rfl⟩ (fun hHeld => ?_)
    clear hK K
    refine norm_ (a' := ?_) ?_ ?_
    rotate_left
    ·show Act.put _ (some 10) _ = _
     simp only [Act.put, List.setIfInBounds_toArray, List.set_cons_zero, List.set_cons_succ, i64_w, i32_w]
     rfl
    refine two_ (i := 5) (j := 7) (Ni := some 13) (Nj := some 5) #[true, true, true, true, true, true, false, false, false] #[true, true, true, true, true, false, false, true, false] rfl rfl rfl rfl (two_of HT_.out (by kernel_rfl)) (by decide) (by decide) (fun K hK => ?_) (fun K hK => ?_)
    ·skip
     refine Kd.R_append_rows_step k46 w.heap.size (by rfl) (.tmp 10) (.tmp 12) 23 46 (.agg #[(.string ⟨#[]⟩), (.string ⟨#[]⟩)]) 32 rfl Tryd.underlying23 info46 rfl (by decide) (by omega) v104 y103 l1_1 _ _ _ (fun _ => True) (fun _ => False) rfl rfl ?aO ?aR (fun _ _ h => h) (fun _ h => h.elim) ?aF (Below.refl _ _) ?aS ?aL ?_
     (case aR => exact Kd.C_foot_now HR1_1.out q37_5)
     (case aF => exact (fun _ _ => trivial))
     (case aO => exact q37_18)
     (case aS => exact (keep_size (w := w) (g := g) (row := none) q37_5))
     (case aL => have := LMc3.out; omega)
     intro v107 w10 ho hb hg hat
     rw [← Ny106.out] at ho
     have n0_ := Aside0.mk (IsS132.grown q37_12 hg (IsS132.own_ne HI0.out HO105.out (by decide)))
     have n1_ := Aside0.mk (blk_grown (g := gb101) (o := .cells #[.string a1_0, .slice A1_1 l1_1.length c1_1] 25 (0, 0)) q37_2 hg (Kd.R_ne HO105.out BK101.out (by decide)))
     have n2_ := Aside0.mk (blk_grown (g := gb102) (o := .cells #[.string (⟨#[]⟩ : ByteArray), .slice none 0 0] 25 (0, 0)) q37_3 hg (Kd.R_ne HO105.out BK102.out (by decide)))
     have n3_ := Aside0.mk (below_weaken q37_11 HL.out hb)
     have n4_ := Aside0.mk (KeepBut.trans q37_5 (KeepBut.of_grown hg g) (Kd.R_base2 HO105.out))
     have n5_ := Aside0.mk (ho)
     clear HI0
     clear BK101
     clear BK102
     clear HB
     clear HK
     clear HO105
     have HI0 := n0_
     have BK101 := n1_
     have BK102 := n2_
     have HB := n3_
     have HK := n4_
     have HO108 := n5_
     clear n0_ n1_ n2_ n3_ n4_ n5_
     clear ho hb hg hat
     obtain ⟨Ao11, co11, eo11⟩ := Kd.R_slice HO108.out
     (first | subst eo11 | (injection eo11 with f1_ f2_ f3_; have f4_ := f1_.symm; have f5_ := f3_.symm; clear f1_ f2_ f3_; subst f4_; subst f5_))
     refine hK.out _ _ ⟨(blk_cell BK101.out 0).trans rfl, (blk_cell BK101.out 1).trans rfl⟩ (fun hHeld => ?_)
     clear hK K
     refine norm_ (a' := ?_) ?_ ?_
     rotate_left
     ·show Act.put _ (some 13) _ = _
      simp only [Act.put, List.setIfInBounds_toArray, List.set_cons_zero, List.set_cons_succ, i64_w, i32_w]
      rfl
     refine pure_ (i := 6) (N := some 14) (v := ?_) (a' := ?_) #[true, true, true, true, true, true, true, false, false] rfl rfl (any_of HT_.out (by kernel_rfl)) (fun _ _ _ h => h) (Or.inl ⟨by rfl, ?_⟩) ?_ ?_
     rotate_left
     ·intro w'
      go_simp
      with_reducible rfl
     rotate_left
     ·simp only [Act.put, List.setIfInBounds_toArray, List.set_cons_zero, List.set_cons_succ, i64_w, i32_w]
      rfl
     refine one_ (i := 7) (N := some 5) #[true, true, true, true, true, true, true, true, false] rfl rfl (one_of HT_.out (by kernel_rfl)) (by decide) (fun K hK => ?_)
     refine box_step ?hg (N := 5) ?hd (cs := #[.string (⟨#[]⟩ : ByteArray), .slice none 0 0]) (t := 25) ?hr ?_; (case hd => rfl); (case hg => rfl); (case hr => first | (go_simp; done) | (go_simp; rfl))
     intro gb109 hg w12 hbox hb
     have n0_ := Aside0.mk (Kd.R_below q37_19 hb)
     have n1_ := Aside0.mk (IsS132.below q37_12 hb)
     have n2_ := Aside0.mk (blk_below (g := gb101) (o := .cells #[.string a1_0, .slice A1_1 l1_1.length c1_1] 25 (0, 0)) q37_2 hb)
     have n3_ := Aside0.mk (blk_below (g := gb102) (o := .cells #[.string (⟨#[]⟩ : ByteArray), .slice none 0 0] 25 (0, 0)) q37_3 hb)
     have n4_ := Aside0.mk (KeepBut.trans q37_5 (KeepBut.of_below hb g none) (.inl rfl))
     have n5_ := Aside0.mk (below_step q37_11 hb)
     have n6_ := Aside0.mk (hbox)
     have n7_ := Aside0.mk ((by rw [hg]; exact (keep_size (w := w) (g := g) (row := none) q37_5) : w.heap.size ≤ gb109))
     have n8_ := Aside0.mk ((Nat.le_trans HW0.out (by rw [hg]; exact (keep_size (w := w) (g := g) (row := none) q37_5) : w.heap.size ≤ gb109) : w0.heap.size ≤ gb109))
     have n9_ := Aside0.mk ((by rw [hg]; exact Nat.ne_of_lt (blk_lt (g := gb101) (o := .cells #[.string a1_0, .slice A1_1 l1_1.length c1_1] 25 (0, 0)) q37_2) : gb101 ≠ gb109))
     have n10_ := Aside0.mk ((by rw [hg]; exact Nat.ne_of_gt (blk_lt (g := gb101) (o := .cells #[.string a1_0, .slice A1_1 l1_1.length c1_1] 25 (0, 0)) q37_2) : gb109 ≠ gb101))
     have n11_ := Aside0.mk ((by rw [hg]; exact Nat.ne_of_lt (blk_lt (g := gb102) (o := .cells #[.string (⟨#[]⟩ : ByteArray), .slice none 0 0] 25 (0, 0)) q37_3) : gb102 ≠ gb109))
     have n12_ := Aside0.mk ((by rw [hg]; exact Nat.ne_of_gt (blk_lt (g := gb102) (o := .cells #[.string (⟨#[]⟩ : ByteArray), .slice none 0 0] 25 (0, 0)) q37_3) : gb109 ≠ gb102))
     have n13_ := Aside0.mk ((by rw [hg]; exact Nat.ne_of_lt (IsS132.lt (show IsS132 w0 _ g s0_0 s0_1 from by repeat (first | (with_reducible first | exact HI0.out | apply IsS132.alloc | apply IsS132.drewN | apply IsS132.drew | apply IsS132.set_1 | refine IsS132.far ?_ NB0_101.out _ | refine IsS132.far ?_ NB0_102.out _) | exact HI0.out))) : g ≠ gb109))
     have n14_ := Aside0.mk ((by rw [hg]; exact Nat.ne_of_gt (IsS132.lt (show IsS132 w0 _ g s0_0 s0_1 from by repeat (first | (with_reducible first | exact HI0.out | apply IsS132.alloc | apply IsS132.drewN | apply IsS132.drew | apply IsS132.set_1 | refine IsS132.far ?_ NB0_101.out _ | refine IsS132.far ?_ NB0_102.out _) | exact HI0.out))) : gb109 ≠ g))
     clear HO108
     clear HI0
     clear BK101
     clear BK102
     clear HK
     clear HB
     have HO108 := n0_
     have HI0 := n1_
     have BK101 := n2_
     have BK102 := n3_
     have HK := n4_
     have HB := n5_
     have BK109 := n6_
     have GW109 := n7_
     have GE109 := n8_
     have NB101_109 := n9_
     have NB109_101 := n10_
     have NB102_109 := n11_
     have NB109_102 := n12_
     have NB0_109 := n13_
     have NB109_0 := n14_
     clear n0_ n1_ n2_ n3_ n4_ n5_ n6_ n7_ n8_ n9_ n10_ n11_ n12_ n13_ n14_
     clear hb hbox hg
     refine hK.out _ _ ⟨(blk_cell BK101.out 0).trans rfl, (blk_cell BK101.out 1).trans rfl⟩ (fun hHeld => ?_)
     clear hK K
     refine norm_ (a' := ?_) ?_ ?_
     rotate_left
     ·show Act.put _ (some 5) _ = _
      simp only [Act.put, List.setIfInBounds_toArray, List.set_cons_zero, List.set_cons_succ, i64_w, i32_w]
      rfl
     exact norm_ q37_21 (hCont (v104, .slice Ao11 y106.length co11, gb109) _ ⟨hHeld, q37_19, q37_2, q37_3, q37_4, GW109.out, GE109.out, NB0_109.out, NB109_0.out, NB101_109.out, NB109_101.out, NB102_109.out, NB109_102.out, q37_7, q37_1, q37_6⟩)
    ·skip
     refine box_step ?hg (N := 5) ?hd (cs := #[.string (⟨#[]⟩ : ByteArray), .slice none 0 0]) (t := 25) ?hr ?_; (case hd => rfl); (case hg => rfl); (case hr => first | (go_simp; done) | (go_simp; rfl))
     intro gb109 hg w10 hbox hb
     have n0_ := Aside0.mk (Kd.R_below q37_18 hb)
     have n1_ := Aside0.mk (IsS132.below q37_12 hb)
     have n2_ := Aside0.mk (blk_below (g := gb101) (o := .cells #[.string a1_0, .slice A1_1 l1_1.length c1_1] 25 (0, 0)) q37_2 hb)
     have n3_ := Aside0.mk (blk_below (g := gb102) (o := .cells #[.string (⟨#[]⟩ : ByteArray), .slice none 0 0] 25 (0, 0)) q37_3 hb)
     have n4_ := Aside0.mk (KeepBut.trans q37_5 (KeepBut.of_below hb g none) (.inl rfl))
     have n5_ := Aside0.mk (below_step q37_11 hb)
     have n6_ := Aside0.mk (hbox)
     have n7_ := Aside0.mk ((by rw [hg]; exact (keep_size (w := w) (g := g) (row := none) q37_5) : w.heap.size ≤ gb109))
     have n8_ := Aside0.mk ((Nat.le_trans HW0.out (by rw [hg]; exact (keep_size (w := w) (g := g) (row := none) q37_5) : w.heap.size ≤ gb109) : w0.heap.size ≤ gb109))
     have n9_ := Aside0.mk ((by rw [hg]; exact Nat.ne_of_lt (blk_lt (g := gb101) (o := .cells #[.string a1_0, .slice A1_1 l1_1.length c1_1] 25 (0, 0)) q37_2) : gb101 ≠ gb109))
     have n10_ := Aside0.mk ((by rw [hg]; exact Nat.ne_of_gt (blk_lt (g := gb101) (o := .cells #[.string a1_0, .slice A1_1 l1_1.length c1_1] 25 (0, 0)) q37_2) : gb109 ≠ gb101))
     have n11_ := Aside0.mk ((by rw [hg]; exact Nat.ne_of_lt (blk_lt (g := gb102) (o := .cells #[.string (⟨#[]⟩ : ByteArray), .slice none 0 0] 25 (0, 0)) q37_3) : gb102 ≠ gb109))
     have n12_ := Aside0.mk ((by rw [hg]; exact Nat.ne_of_gt (blk_lt (g := gb102) (o := .cells #[.string (⟨#[]⟩ : ByteArray), .slice none 0 0] 25 (0, 0)) q37_3) : gb109 ≠ gb102))
     have n13_ := Aside0.mk ((by rw [hg]; exact Nat.ne_of_lt (IsS132.lt (show IsS132 w0 _ g s0_0 s0_1 from by repeat (first | (with_reducible first | exact HI0.out | apply IsS132.alloc | apply IsS132.drewN | apply IsS132.drew | apply IsS132.set_1 | refine IsS132.far ?_ NB0_101.out _ | refine IsS132.far ?_ NB0_102.out _) | exact HI0.out))) : g ≠ gb109))
     have n14_ := Aside0.mk ((by rw [hg]; exact Nat.ne_of_gt (IsS132.lt (show IsS132 w0 _ g s0_0 s0_1 from by repeat (first | (with_reducible first | exact HI0.out | apply IsS132.alloc | apply IsS132.drewN | apply IsS132.drew | apply IsS132.set_1 | refine IsS132.far ?_ NB0_101.out _ | refine IsS132.far ?_ NB0_102.out _) | exact HI0.out))) : gb109 ≠ g))
     clear HO105
     clear HI0
     clear BK101
     clear BK102
     clear HK
     clear HB
     have HO105 := n0_
     have HI0 := n1_
     have BK101 := n2_
     have BK102 := n3_
     have HK := n4_
     have HB := n5_
     have BK109 := n6_
     have GW109 := n7_
     have GE109 := n8_
     have NB101_109 := n9_
     have NB109_101 := n10_
     have NB102_109 := n11_
     have NB109_102 := n12_
     have NB0_109 := n13_
     have NB109_0 := n14_
     clear n0_ n1_ n2_ n3_ n4_ n5_ n6_ n7_ n8_ n9_ n10_ n11_ n12_ n13_ n14_
     clear hb hbox hg
     refine hK.out _ _ ⟨(blk_cell BK101.out 0).trans rfl, (blk_cell BK101.out 1).trans rfl⟩ (fun hHeld => ?_)
     clear hK K
     refine norm_ (a' := ?_) ?_ ?_
     rotate_left
     ·show Act.put _ (some 5) _ = _
      simp only [Act.put, List.setIfInBounds_toArray, List.set_cons_zero, List.set_cons_succ, i64_w, i32_w]
      rfl
     refine one_ (i := 5) (N := some 13) #[true, true, true, true, true, true, false, true, false] rfl rfl (one_of HT_.out (by kernel_rfl)) (by decide) (fun K hK => ?_)
     refine Kd.R_append_rows_step k46 w.heap.size (by rfl) (.tmp 10) (.tmp 12) 23 46 (.agg #[(.string ⟨#[]⟩), (.string ⟨#[]⟩)]) 32 rfl Tryd.underlying23 info46 rfl (by decide) (by omega) v104 y103 l1_1 _ _ _ (fun _ => True) (fun _ => False) rfl rfl ?aO ?aR (fun _ _ h => h) (fun _ h => h.elim) ?aF (Below.refl _ _) ?aS ?aL ?_
     (case aR => exact Kd.C_foot_now HR1_1.out q37_1)
     (case aF => exact (fun _ _ => trivial))
     (case aO => exact q37_18)
     (case aS => exact (keep_size (w := w) (g := g) (row := none) q37_1))
     (case aL => have := LMc3.out; omega)
     intro v107 w11 ho hb hg hat
     rw [← Ny106.out] at ho
     have n0_ := Aside0.mk (IsS132.grown q37_7 hg (IsS132.own_ne HI0.out HO105.out (by decide)))
     have n1_ := Aside0.mk (blk_grown (g := gb101) (o := .cells #[.string a1_0, .slice A1_1 l1_1.length c1_1] 25 (0, 0)) q37_2 hg (Kd.R_ne HO105.out BK101.out (by decide)))
     have n2_ := Aside0.mk (blk_grown (g := gb102) (o := .cells #[.string (⟨#[]⟩ : ByteArray), .slice none 0 0] 25 (0, 0)) q37_3 hg (Kd.R_ne HO105.out BK102.out (by decide)))
     have n3_ := Aside0.mk (blk_grown (g := gb109) (o := .cells #[.string (⟨#[]⟩ : ByteArray), .slice none 0 0] 25 (0, 0)) q37_4 hg (Kd.R_ne HO105.out BK109.out (by decide)))
     have n4_ := Aside0.mk (below_weaken q37_6 HL.out hb)
     have n5_ := Aside0.mk (KeepBut.trans q37_1 (KeepBut.of_grown hg g) (Kd.R_base2 HO105.out))
     have n6_ := Aside0.mk (ho)
     clear HI0
     clear BK101
     clear BK102
     clear BK109
     clear HB
     clear HK
     clear HO105
     have HI0 := n0_
     have BK101 := n1_
     have BK102 := n2_
     have BK109 := n3_
     have HB := n4_
     have HK := n5_
     have HO108 := n6_
     clear n0_ n1_ n2_ n3_ n4_ n5_ n6_
     clear ho hb hg hat
     obtain ⟨Ao12, co12, eo12⟩ := Kd.R_slice HO108.out
     (first | subst eo12 | (injection eo12 with f1_ f2_ f3_; have f4_ := f1_.symm; have f5_ := f3_.symm; clear f1_ f2_ f3_; subst f4_; subst f5_))
     refine hK.out _ _ ⟨(blk_cell BK101.out 0).trans rfl, (blk_cell BK101.out 1).trans rfl⟩ (fun hHeld => ?_)
     clear hK K
     refine norm_ (a' := ?_) ?_ ?_
     rotate_left
     ·show Act.put _ (some 13) _ = _
      simp only [Act.put, List.setIfInBounds_toArray, List.set_cons_zero, List.set_cons_succ, i64_w, i32_w]
      rfl
     refine pure_ (i := 6) (N := some 14) (v := ?_) (a' := ?_) #[true, true, true, true, true, true, true, true, false] rfl rfl (any_of HT_.out (by kernel_rfl)) (fun _ _ _ h => h) (Or.inl ⟨by rfl, ?_⟩) ?_ ?_
     rotate_left
     ·intro w'
      go_simp
      with_reducible rfl
     rotate_left
     ·simp only [Act.put, List.setIfInBounds_toArray, List.set_cons_zero, List.set_cons_succ, i64_w, i32_w]
      rfl
     exact norm_ q37_21 (hCont (v104, .slice Ao12 y106.length co12, gb109) _ ⟨hHeld, q37_19, q37_2, q37_3, q37_4, GW109.out, GE109.out, NB0_109.out, NB109_0.out, NB101_109.out, NB109_101.out, NB102_109.out, NB109_102.out, q37_7, q37_1, q37_6⟩)
   ·skip
    refine box_step ?hg (N := 5) ?hd (cs := #[.string (⟨#[]⟩ : ByteArray), .slice none 0 0]) (t := 25) ?hr ?_; (case hd => rfl); (case hg => rfl); (case hr => first | (go_simp; done) | (go_simp; rfl))
    intro gb109 hg w8 hbox hb
    have n0_ := Aside0.mk (IsS132.below q37_12 hb)
    have n1_ := Aside0.mk (blk_below (g := gb101) (o := .cells #[.string a1_0, .slice A1_1 l1_1.length c1_1] 25 (0, 0)) q37_2 hb)
    have n2_ := Aside0.mk (blk_below (g := gb102) (o := .cells #[.string (⟨#[]⟩ : ByteArray), .slice none 0 0] 25 (0, 0)) q37_3 hb)
    have n3_ := Aside0.mk (KeepBut.trans q37_5 (KeepBut.of_below hb g none) (.inl rfl))
    have n4_ := Aside0.mk (below_step q37_11 hb)
    have n5_ := Aside0.mk (hbox)
    have n6_ := Aside0.mk ((by rw [hg]; exact (keep_size (w := w) (g := g) (row := none) q37_5) : w.heap.size ≤ gb109))
    have n7_ := Aside0.mk ((Nat.le_trans HW0.out (by rw [hg]; exact (keep_size (w := w) (g := g) (row := none) q37_5) : w.heap.size ≤ gb109) : w0.heap.size ≤ gb109))
    have n8_ := Aside0.mk ((by rw [hg]; exact Nat.ne_of_lt (blk_lt (g := gb101) (o := .cells #[.string a1_0, .slice A1_1 l1_1.length c1_1] 25 (0, 0)) q37_2) : gb101 ≠ gb109))
    have n9_ := Aside0.mk ((by rw [hg]; exact Nat.ne_of_gt (blk_lt (g := gb101) (o := .cells #[.string a1_0, .slice A1_1 l1_1.length c1_1] 25 (0, 0)) q37_2) : gb109 ≠ gb101))
    have n10_ := Aside0.mk ((by rw [hg]; exact Nat.ne_of_lt (blk_lt (g := gb102) (o := .cells #[.string (⟨#[]⟩ : ByteArray), .slice none 0 0] 25 (0, 0)) q37_3) : gb102 ≠ gb109))
    have n11_ := Aside0.mk ((by rw [hg]; exact Nat.ne_of_gt (blk_lt (g := gb102) (o := .cells #[.string (⟨#[]⟩ : ByteArray), .slice none 0 0] 25 (0, 0)) q37_3) : gb109 ≠ gb102))
    have n12_ := Aside0.mk ((by rw [hg]; exact Nat.ne_of_lt (IsS132.lt (show IsS132 w0 _ g s0_0 s0_1 from by repeat (first | (with_reducible first | exact HI0.out | apply IsS132.alloc | apply IsS132.drewN | apply IsS132.drew | apply IsS132.set_1 | refine IsS132.far ?_ NB0_101.out _ | refine IsS132.far ?_ NB0_102.out _) | exact HI0.out))) : g ≠ gb109))
    have n13_ := Aside0.mk ((by rw [hg]; exact Nat.ne_of_gt (IsS132.lt (show IsS132 w0 _ g s0_0 s0_1 from by repeat (first | (with_reducible first | exact HI0.out | apply IsS132.alloc | apply IsS132.drewN | apply IsS132.drew | apply IsS132.set_1 | refine IsS132.far ?_ NB0_101.out _ | refine IsS132.far ?_ NB0_102.out _) | exact HI0.out))) : gb109 ≠ g))
    clear HI0
    clear BK101
    clear BK102
    clear HK
    clear HB
    have HI0 := n0_
    have BK101 := n1_
    have BK102 := n2_
    have HK := n3_
    have HB := n4_
    have BK109 := n5_
    have GW109 := n6_
    have GE109 := n7_
    have NB101_109 := n8_
    have NB109_101 := n9_
    have NB102_109 := n10_
    have NB109_102 := n11_
    have NB0_109 := n12_
    have NB109_0 := n13_
    clear n0_ n1_ n2_ n3_ n4_ n5_ n6_ n7_ n8_ n9_ n10_ n11_ n12_ n13_
    clear hb hbox hg
    refine hK.out _ _ ⟨(blk_cell BK101.out 0).trans rfl, (blk_cell BK101.out 1).trans rfl⟩ (fun hHeld => ?_)
    clear hK K
    refine norm_ (a' := ?_) ?_ ?_
    rotate_left
    ·show Act.put _ (some 5) _ = _
     simp only [Act.put, List.setIfInBounds_toArray, List.set_cons_zero, List.set_cons_succ, i64_w, i32_w]
     rfl
    refine one_ (i := 2) (N := some 10) #[true, true, true, true, true, false, false, true, false] rfl rfl (one_of HT_.out (by kernel_rfl)) (by decide) (fun K hK => ?_)
    refine Kd.R_lit_step k46 _ 46 ?hg (N := 10) ?hd (xs := ([] : List (S46))) (inner := []) (ok := fun _ => True) (okp := fun _ => True) ?hr ?hp (fun _ hk => hk) trivial (Below.refl _ _) (Nat.le_refl _) (by simp) ?_; (case hd => rfl); (case hg => rfl); (case hr => first | (go_simp; done) | (go_simp; rfl)); (case hp => exact (Reps.none _ _))
    intro v104 w9 ho10 hb hg_ hnew_
    clear hg_ hnew_
    (first | rw [← Ny103.out] at ho10 | (simp only [Int.reduceToNat] at ho10; rw [← Ny103.out] at ho10))
    have n0_ := Aside0.mk (Kd.R_lower ho10 (keep_size (w := w) (g := g) (row := none) q37_1))
    have n1_ := Aside0.mk (IsS132.below q37_7 hb)
    have n2_ := Aside0.mk (blk_below (g := gb101) (o := .cells #[.string a1_0, .slice A1_1 l1_1.length c1_1] 25 (0, 0)) q37_2 hb)
    have n3_ := Aside0.mk (blk_below (g := gb102) (o := .cells #[.string (⟨#[]⟩ : ByteArray), .slice none 0 0] 25 (0, 0)) q37_3 hb)
    have n4_ := Aside0.mk (blk_below (g := gb109) (o := .cells #[.string (⟨#[]⟩ : ByteArray), .slice none 0 0] 25 (0, 0)) q37_4 hb)
    have n5_ := Aside0.mk (KeepBut.trans q37_1 (KeepBut.of_below hb g none) (.inl rfl))
    have n6_ := Aside0.mk (below_step q37_6 hb)
    clear HI0
    clear BK101
    clear BK102
    clear BK109
    clear HK
    clear HB
    have HO105 := n0_
    have HI0 := n1_
    have BK101 := n2_
    have BK102 := n3_
    have BK109 := n4_
    have HK := n5_
    have HB := n6_
    clear n0_ n1_ n2_ n3_ n4_ n5_ n6_
    clear hb ho10
    refine hK.out _ _ ⟨(blk_cell BK101.out 0).trans rfl, (blk_cell BK101.out 1).trans rfl⟩ (fun hHeld => ?_)
    clear hK K
    refine norm_ (a' := ?_) ?_ ?_
    rotate_left
    ·show Act.put _ (some 10) _ = _
     simp only [Act.put, List.setIfInBounds_toArray, List.set_cons_zero, List.set_cons_succ, i64_w, i32_w]
     rfl
    refine one_ (i := 5) (N := some 13) #[true, true, true, true, true, true, false, true, false] rfl rfl (one_of HT_.out (by kernel_rfl)) (by decide) (fun K hK => ?_)
    refine Kd.R_append_rows_step k46 w.heap.size (by rfl) (.tmp 10) (.tmp 12) 23 46 (.agg #[(.string ⟨#[]⟩), (.string ⟨#[]⟩)]) 32 rfl Tryd.underlying23 info46 rfl (by decide) (by omega) v104 y103 l1_1 _ _ _ (fun _ => True) (fun _ => False) rfl rfl ?aO ?aR (fun _ _ h => h) (fun _ h => h.elim) ?aF (Below.refl _ _) ?aS ?aL ?_
    (case aR => exact Kd.C_foot_now HR1_1.out q37_1)
    (case aF => exact (fun _ _ => trivial))
    (case aO => exact q37_18)
    (case aS => exact (keep_size (w := w) (g := g) (row := none) q37_1))
    (case aL => have := LMc3.out; omega)
    intro v107 w11 ho hb hg hat
    rw [← Ny106.out] at ho
    have n0_ := Aside0.mk (IsS132.grown q37_7 hg (IsS132.own_ne HI0.out HO105.out (by decide)))
    have n1_ := Aside0.mk (blk_grown (g := gb101) (o := .cells #[.string a1_0, .slice A1_1 l1_1.length c1_1] 25 (0, 0)) q37_2 hg (Kd.R_ne HO105.out BK101.out (by decide)))
    have n2_ := Aside0.mk (blk_grown (g := gb102) (o := .cells #[.string (⟨#[]⟩ : ByteArray), .slice none 0 0] 25 (0, 0)) q37_3 hg (Kd.R_ne HO105.out BK102.out (by decide)))
    have n3_ := Aside0.mk (blk_grown (g := gb109) (o := .cells #[.string (⟨#[]⟩ : ByteArray), .slice none 0 0] 25 (0, 0)) q37_4 hg (Kd.R_ne HO105.out BK109.out (by decide)))
    have n4_ := Aside0.mk (below_weaken q37_6 HL.out hb)
    have n5_ := Aside0.mk (KeepBut.trans q37_1 (KeepBut.of_grown hg g) (Kd.R_base2 HO105.out))
    have n6_ := Aside0.mk (ho)
    clear HI0
    clear BK101
    clear BK102
    clear BK109
    clear HB
    clear HK
    clear HO105
    have HI0 := n0_
    have BK101 := n1_
    have BK102 := n2_
    have BK109 := n3_
    have HB := n4_
    have HK := n5_
    have HO108 := n6_
    clear n0_ n1_ n2_ n3_ n4_ n5_ n6_
    clear ho hb hg hat
    obtain ⟨Ao12, co12, eo12⟩ := Kd.R_slice HO108.out
    (first | subst eo12 | (injection eo12 with f1_ f2_ f3_; have f4_ := f1_.symm; have f5_ := f3_.symm; clear f1_ f2_ f3_; subst f4_; subst f5_))
    refine hK.out _ _ ⟨(blk_cell BK101.out 0).trans rfl, (blk_cell BK101.out 1).trans rfl⟩ (fun hHeld => ?_)
    clear hK K
    refine norm_ (a' := ?_) ?_ ?_
    rotate_left
    ·show Act.put _ (some 13) _ = _
     simp only [Act.put, List.setIfInBounds_toArray, List.set_cons_zero, List.set_cons_succ, i64_w, i32_w]
     rfl
    refine pure_ (i := 6) (N := some 14) (v := ?_) (a' := ?_) #[true, true, true, true, true, true, true, true, false] rfl rfl (any_of HT_.out (by kernel_rfl)) (fun _ _ _ h => h) (Or.inl ⟨by rfl, ?_⟩) ?_ ?_
    rotate_left
    ·intro w'
     go_simp
     with_reducible rfl
    rotate_left
    ·simp only [Act.put, List.setIfInBounds_toArray, List.set_cons_zero, List.set_cons_succ, i64_w, i32_w]
     rfl
    exact norm_ q37_21 (hCont (v104, .slice Ao12 y106.length co12, gb109) _ ⟨hHeld, q37_19, q37_2, q37_3, q37_4, GW109.out, GE109.out, NB0_109.out, NB109_0.out, NB101_109.out, NB109_101.out, NB102_109.out, NB109_102.out, q37_7, q37_1, q37_6⟩)
  rintro ⟨v104, v107, gb109⟩ w13 ⟨hS_, h0_, h1_, h2_, h3_, h4_, h5_, h6_, h7_, h8_, h9_, h10_, h11_, h12_, h13_, h14_⟩
  have n0_ : Aside0 (Kd.R k46 46 w13 w.heap.size (fun _ => True) v107 y106) := ⟨h0_⟩
  have n1_ : Aside0 (w13.heap[gb101]? = some (.cells #[.string a1_0, .slice A1_1 l1_1.length c1_1] 25 (0, 0))) := ⟨h1_⟩
  have n2_ : Aside0 (w13.heap[gb102]? = some (.cells #[.string (⟨#[]⟩ : ByteArray), .slice none 0 0] 25 (0, 0))) := ⟨h2_⟩
  have n3_ : Aside0 (w13.heap[gb109]? = some (.cells #[.string (⟨#[]⟩ : ByteArray), .slice none 0 0] 25 (0, 0))) := ⟨h3_⟩
  have n4_ : Aside0 (w.heap.size ≤ gb109) := ⟨h4_⟩
  have n5_ : Aside0 (w0.heap.size ≤ gb109) := ⟨h5_⟩
  have n6_ : Aside0 (g ≠ gb109) := ⟨h6_⟩
  have n7_ : Aside0 (gb109 ≠ g) := ⟨h7_⟩
  have n8_ : Aside0 (gb101 ≠ gb109) := ⟨h8_⟩
  have n9_ : Aside0 (gb109 ≠ gb101) := ⟨h9_⟩
  have n10_ : Aside0 (gb102 ≠ gb109) := ⟨h10_⟩
  have n11_ : Aside0 (gb109 ≠ gb102) := ⟨h11_⟩
  have n12_ : Aside0 (IsS132 w0 w13 g s0_0 s0_1) := ⟨h12_⟩
  have n13_ : Aside0 (KeepBut w w13 g none) := ⟨h13_⟩
  have n14_ : Aside0 (Below w0.heap.size w0 w13) := ⟨h14_⟩
  clear BK101
  clear BK102
  clear HI0
  clear HK
  clear HB
  clear h0_ h1_ h2_ h3_ h4_ h5_ h6_ h7_ h8_ h9_ h10_ h11_ h12_ h13_ h14_
  have HO108 := n0_
  have BK101 := n1_
  have BK102 := n2_
  have BK109 := n3_
  have GW109 := n4_
  have GE109 := n5_
  have NB0_109 := n6_
  have NB109_0 := n7_
  have NB101_109 := n8_
  have NB109_101 := n9_
  have NB102_109 := n10_
  have NB109_102 := n11_
  have HI0 := n12_
  have HK := n13_
  have HB := n14_
  clear n0_ n1_ n2_ n3_ n4_ n5_ n6_ n7_ n8_ n9_ n10_ n11_ n12_ n13_ n14_
  have hHeld : w13.cell? ⟨gb101, 0, none⟩ = some (.string a1_0) ∧ w13.cell? ⟨gb101, 1, none⟩ = some (.slice A1_1 l1_1.length c1_1) := hS_
  obtain ⟨Ao14, co14, eo14⟩ := Kd.R_slice HO108.out
  (first | subst eo14 | (injection eo14 with f1_ f2_ f3_; have f4_ := f1_.symm; have f5_ := f3_.symm; clear f1_ f2_ f3_; subst f4_; subst f5_))
  refine norm_ (a' := ?_) ?_ ?_
  rotate_left
  ·simp only [putAll, Act.put, List.setIfInBounds_toArray, List.set_cons_zero, List.set_cons_succ]
   rfl
  refine one_ (i := 8) (N := none) #[true, true, true, true, true, true, true, true, true] rfl rfl (one_of HT_.out (by kernel_rfl)) (by decide) (fun K hK => ?_)
  have hs15 : w13.cell? ⟨gb109, 0, none⟩ = some (.string (⟨#[]⟩ : ByteArray)) := (blk_cell BK109.out 0).trans rfl
  have hfs15 := blk_frozen BK109.out 0
  have hns15_0 := NB101_109.out
  have hns15_1 := NB102_109.out
  have hms15_0 := NB109_101.out
  have hms15_1 := NB109_102.out
  have hs16 : w13.cell? ⟨gb109, 1, none⟩ = some (.slice none 0 0) := (blk_cell BK109.out 1).trans rfl
  have hfs16 := blk_frozen BK109.out 1
  have hns16_0 := NB101_109.out
  have hns16_1 := NB102_109.out
  have hms16_0 := NB109_101.out
  have hms16_1 := NB109_102.out
  refine skip_ (w1 := ?_) (by rfl) rfl ?_ ?_
  rotate_left
  ·go_simp
   rfl
  refine hK.out _ _ ⟨((cell_far (p := ⟨gb109, _, none⟩) NB101_109.out _).trans (((cell_far (p := ⟨gb109, _, none⟩) NB101_109.out _).trans (hHeld.1)))), ((cell_far (p := ⟨gb109, _, none⟩) NB101_109.out _).trans (((cell_far (p := ⟨gb109, _, none⟩) NB101_109.out _).trans (hHeld.2))))⟩ (fun hHeld => ?_)
  clear hK K
  refine done_ (done_of HT_.out (by kernel_rfl)) ?_
  have hnb17 := NB109_101.out
  have hnc17 := NB101_109.out
  have hnb18 := NB109_102.out
  have hnc18 := NB102_109.out
  have hnb19 := NB109_0.out
  have hnc19 := NB0_109.out
  have hcz20_0 : w13.cell? ⟨gb109, 0, none⟩ = some (.string (⟨#[]⟩ : ByteArray)) := (blk_cell BK109.out 0).trans rfl
  have hcz20_1 : w13.cell? ⟨gb109, 1, none⟩ = some (.slice none 0 0) := (blk_cell BK109.out 1).trans rfl
  have hfz20_0 := blk_frozen BK109.out 0
  have hfz20_1 := blk_frozen BK109.out 1
  go_upto_region 3 with (fail)
  go_cut [24] (fun v24 wc => ∃ (kq : Nat) (x24_3 : Bool) (x1001_3 : Int), v24 = .bool x24_3 ∧ Aside0 (spec_l1Bent.j0 kq (y106.length : Int) x24_3 s0_0 x1001_3 a1_0 y106 = some (r1, r2, r3)) ∧ Aside0 (kq ≤ k) ∧ Aside0 (Kd.R k46 46 wc w.heap.size (fun _ => True) (.slice Ao14 y106.length co14) y106) ∧ Aside0 (wc.heap[gb101]? = some (.cells #[.string a1_0, (.slice A1_1 l1_1.length c1_1)] 25 (0, 0))) ∧ Aside0 (wc.heap[gb102]? = some (.cells #[.string (⟨#[]⟩ : ByteArray), (.slice none 0 0)] 25 (0, 0))) ∧ Aside0 (wc.heap[gb109]? = some (.cells #[.string a1_0, (.slice Ao14 y106.length co14)] 25 (0, 0))) ∧ Aside0 (IsS132 w0 wc g s0_0 x1001_3) ∧ Aside0 (KeepBut w wc g none) ∧ Aside0 (Below w0.heap.size w0 wc))
  case first =>
   have H := HC4.out
   clear HC4
   replace H := Option.bind_eq_some_iff.mp H
   obtain ⟨⟨t110, t111⟩, A210, H⟩ := H
   replace H : (if t110 > 0 then (spec_l1Bent.j0 k (y106.length : Int) true s0_0 t111 a1_0 y106) else (spec_l1Bent.j0 k (y106.length : Int) ((y106.length : Int) == 0) s0_0 t111 a1_0 y106)) = some (r1, r2, r3) := H
   have A21 := Aside0.mk A210
   clear A210
   by_cases c22 : t110 > 0
   ·rw [if_pos c22] at H
    have c22b0 : decide (0 < t110) = true := decide_eq_true c22
    clear c22
    (first | rw [c22b0] | (simp only [i64_w, i32_w]; rw [c22b0]) | skip)
    have H' := Aside0.mk H
    clear H
    go_wp2_with (first | ((with_reducible refine gate_callee (f := 84) rfl ?_); refine goesL_ (some 19) rfl rfl Tryd.func84 (by kernel_rfl) rfl #[.pointer (some ⟨g, 0, none⟩), .int .i64 12] rfl q37_8 ?_; (with_reducible refine (spec_l17Rd_pick.calls k g s0_0 s0_1 12 t110 t111 w0 _ ?side1 ?side2 A21.out).mono ?_); (case side1 => repeat (first | (with_reducible first | exact HI0.out | apply IsS132.alloc | apply IsS132.drewN | apply IsS132.drew | apply IsS132.set_1 | refine IsS132.far ?_ NB0_101.out _ | refine IsS132.far ?_ NB0_102.out _ | refine IsS132.far ?_ NB0_109.out _) | exact HI0.out)); (case side2 => repeat (first | (with_reducible first | exact HB.out | apply below_alloc | apply pw_below_drewN | apply below_drew1 | refine below_set ?_ (IsS132.ge HI0.out) | refine below_set ?_ GE101.out | refine below_set ?_ GE102.out | refine below_set ?_ GE109.out) | exact HB.out)); rintro e w23 ⟨rfl, hi, hb, hk⟩; refine ⟨_, rfl, ?_⟩; have n0_ := Aside0.mk (KeepBut.blk hk (g' := gb101) (o := .cells #[.string a1_0, .slice A1_1 l1_1.length c1_1] 25 (0, 0)) q37_14 NB101_0.out (by simp)); have n1_ := Aside0.mk (KeepBut.blk hk (g' := gb102) (o := .cells #[.string (⟨#[]⟩ : ByteArray), .slice none 0 0] 25 (0, 0)) q37_15 NB102_0.out (by simp)); have n2_ := Aside0.mk (Kd.R_mono (Kd.R_keep (IsS132.apart (show IsS132 w0 _ g s0_0 s0_1 from by repeat (first | (with_reducible first | exact HI0.out | apply IsS132.alloc | apply IsS132.drewN | apply IsS132.drew | apply IsS132.set_1 | refine IsS132.far ?_ NB0_101.out _ | refine IsS132.far ?_ NB0_102.out _ | refine IsS132.far ?_ NB0_109.out _) | exact HI0.out)) q37_17 (by decide)) hk (fun _ h => h.2)) (fun _ h => h.1)); have n3_ := Aside0.mk (KeepBut.blk hk (g' := gb109) (o := .cells #[.string a1_0, .slice Ao14 y106.length co14] 25 (0, 0)) q37_13 NB109_0.out (by simp)); have n4_ := Aside0.mk (KeepBut.trans q37_1 hk (.inl rfl)); have n5_ := Aside0.mk (hb); have n6_ := Aside0.mk (hi); clear BK101; clear BK102; clear HO108; clear BK109; clear HK; clear HB; clear HI0; have BK101 := n0_; have BK102 := n1_; have HO108 := n2_; have BK109 := n3_; have HK := n4_; have HB := n5_; have HI0 := n6_; clear n0_ n1_ n2_ n3_ n4_ n5_ n6_; (try clear hb); (try clear hb2); (try clear hk); (try clear hi)))
    go_meet
    case rel => exact ⟨_, (true), (t111), (by first | rfl | (simp; done) | (simp [*]; done)), H', ⟨by first | omega | exact Nat.le_refl _⟩, ⟨by (with_reducible repeat (first | apply Kd.R_alloc | apply Kd.R_drewN | apply Kd.R_drew)); exact HO108.out⟩, ⟨by (with_reducible repeat (first | refine blk_drewN ?_ _ | refine blk_drew ?_ | refine blk_alloc ?_ _)); exact BK101.out⟩, ⟨by (with_reducible repeat (first | refine blk_drewN ?_ _ | refine blk_drew ?_ | refine blk_alloc ?_ _)); exact BK102.out⟩, ⟨by (with_reducible repeat (first | refine blk_drewN ?_ _ | refine blk_drew ?_ | refine blk_alloc ?_ _)); exact BK109.out⟩, ⟨by repeat (first | (with_reducible first | exact HI0.out | apply IsS132.alloc | apply IsS132.drewN | apply IsS132.drew | apply IsS132.set_1 | refine IsS132.far ?_ NB0_101.out _ | refine IsS132.far ?_ NB0_102.out _ | refine IsS132.far ?_ NB0_109.out _) | exact HI0.out)⟩, ⟨by repeat (first | (with_reducible first | exact HK.out | apply KeepBut.set_ | apply keep_drewN | apply keep_drew | apply keep_alloc | refine keep_far ?_ GW101.out _ | refine keep_far ?_ GW102.out _ | refine keep_far ?_ GW109.out _) | exact HK.out)⟩, ⟨by repeat (first | (with_reducible first | exact HB.out | apply below_alloc | apply pw_below_drewN | apply below_drew1 | refine below_set ?_ (IsS132.ge HI0.out) | refine below_set ?_ GE101.out | refine below_set ?_ GE102.out | refine below_set ?_ GE109.out) | exact HB.out)⟩⟩
   ·rw [if_neg c22] at H
    have c22b0 : decide (0 < t110) = false := decide_eq_false c22
    clear c22
    (first | rw [c22b0] | (simp only [i64_w, i32_w]; rw [c22b0]) | skip)
    have H' := Aside0.mk H
    clear H
    go_wp2_with (first | ((with_reducible refine gate_callee (f := 84) rfl ?_); refine goesL_ (some 19) rfl rfl Tryd.func84 (by kernel_rfl) rfl #[.pointer (some ⟨g, 0, none⟩), .int .i64 12] rfl q37_8 ?_; (with_reducible refine (spec_l17Rd_pick.calls k g s0_0 s0_1 12 t110 t111 w0 _ ?side1 ?side2 A21.out).mono ?_); (case side1 => repeat (first | (with_reducible first | exact HI0.out | apply IsS132.alloc | apply IsS132.drewN | apply IsS132.drew | apply IsS132.set_1 | refine IsS132.far ?_ NB0_101.out _ | refine IsS132.far ?_ NB0_102.out _ | refine IsS132.far ?_ NB0_109.out _) | exact HI0.out)); (case side2 => repeat (first | (with_reducible first | exact HB.out | apply below_alloc | apply pw_below_drewN | apply below_drew1 | refine below_set ?_ (IsS132.ge HI0.out) | refine below_set ?_ GE101.out | refine below_set ?_ GE102.out | refine below_set ?_ GE109.out) | exact HB.out)); rintro e w24 ⟨rfl, hi, hb, hk⟩; refine ⟨_, rfl, ?_⟩; have n0_ := Aside0.mk (KeepBut.blk hk (g' := gb101) (o := .cells #[.string a1_0, .slice A1_1 l1_1.length c1_1] 25 (0, 0)) q37_14 NB101_0.out (by simp)); have n1_ := Aside0.mk (KeepBut.blk hk (g' := gb102) (o := .cells #[.string (⟨#[]⟩ : ByteArray), .slice none 0 0] 25 (0, 0)) q37_15 NB102_0.out (by simp)); have n2_ := Aside0.mk (Kd.R_mono (Kd.R_keep (IsS132.apart (show IsS132 w0 _ g s0_0 s0_1 from by repeat (first | (with_reducible first | exact HI0.out | apply IsS132.alloc | apply IsS132.drewN | apply IsS132.drew | apply IsS132.set_1 | refine IsS132.far ?_ NB0_101.out _ | refine IsS132.far ?_ NB0_102.out _ | refine IsS132.far ?_ NB0_109.out _) | exact HI0.out)) q37_17 (by decide)) hk (fun _ h => h.2)) (fun _ h => h.1)); have n3_ := Aside0.mk (KeepBut.blk hk (g' := gb109) (o := .cells #[.string a1_0, .slice Ao14 y106.length co14] 25 (0, 0)) q37_13 NB109_0.out (by simp)); have n4_ := Aside0.mk (KeepBut.trans q37_1 hk (.inl rfl)); have n5_ := Aside0.mk (hb); have n6_ := Aside0.mk (hi); clear BK101; clear BK102; clear HO108; clear BK109; clear HK; clear HB; clear HI0; have BK101 := n0_; have BK102 := n1_; have HO108 := n2_; have BK109 := n3_; have HK := n4_; have HB := n5_; have HI0 := n6_; clear n0_ n1_ n2_ n3_ n4_ n5_ n6_; (try clear hb); (try clear hb2); (try clear hk); (try clear hi)))
    go_meet
    case rel => exact ⟨_, (((y106.length : Int) == 0)), (t111), (by first | rfl | (simp; done) | (simp [*]; done)), H', ⟨by first | omega | exact Nat.le_refl _⟩, ⟨by (with_reducible repeat (first | apply Kd.R_alloc | apply Kd.R_drewN | apply Kd.R_drew)); exact HO108.out⟩, ⟨by (with_reducible repeat (first | refine blk_drewN ?_ _ | refine blk_drew ?_ | refine blk_alloc ?_ _)); exact BK101.out⟩, ⟨by (with_reducible repeat (first | refine blk_drewN ?_ _ | refine blk_drew ?_ | refine blk_alloc ?_ _)); exact BK102.out⟩, ⟨by (with_reducible repeat (first | refine blk_drewN ?_ _ | refine blk_drew ?_ | refine blk_alloc ?_ _)); exact BK109.out⟩, ⟨by repeat (first | (with_reducible first | exact HI0.out | apply IsS132.alloc | apply IsS132.drewN | apply IsS132.drew | apply IsS132.set_1 | refine IsS132.far ?_ NB0_101.out _ | refine IsS132.far ?_ NB0_102.out _ | refine IsS132.far ?_ NB0_109.out _) | exact HI0.out)⟩, ⟨by repeat (first | (with_reducible first | exact HK.out | apply KeepBut.set_ | apply keep_drewN | apply keep_drew | apply keep_alloc | refine keep_far ?_ GW101.out _ | refine keep_far ?_ GW102.out _ | refine keep_far ?_ GW109.out _) | exact HK.out)⟩, ⟨by repeat (first | (with_reducible first | exact HB.out | apply below_alloc | apply pw_below_drewN | apply below_drew1 | refine below_set ?_ (IsS132.ge HI0.out) | refine below_set ?_ GE101.out | refine below_set ?_ GE102.out | refine below_set ?_ GE109.out) | exact HB.out)⟩⟩
  case rest =>
   clear HC4
   try clear c1
   try clear c2
   try clear p2
   try clear c3
   try clear c8
   try clear c9
   try clear c17
   try clear c18
   try clear c19
   try clear c22
   try clear c22b0
   try clear hcz20_0
   try clear hcz20_1
   try clear hfz20_0
   try clear hfz20_1
   obtain ⟨kq, x24_3, x1001_3, rfl, HA, HJ3, HO_110001, BK101, BK102, BK109, HI0, HK, HB⟩ := hcut
   cases kq with
   | zero => exact absurd HA.out (by simp [spec_l1Bent.j0])
   | succ kj3 =>
    have H := HA.out
    clear HA
    simp only [spec_l1Bent.j0] at H
    by_cases c25 : x24_3 = true
    ·subst c25
     have H1 : (some (a1_0, y106, x1001_3)) = some (r1, r2, r3) := by rw [if_pos rfl] at H; exact H
     clear H
     have H := H1
     clear H1
     simp only [Option.some.injEq, Prod.mk.injEq] at H
     obtain ⟨rfl, rfl, rfl⟩ := H
     have hnb26 := NB109_101.out
     have hnc26 := NB101_109.out
     have hnb27 := NB109_102.out
     have hnc27 := NB102_109.out
     have hnb28 := NB109_0.out
     have hnc28 := NB0_109.out
     have hcz29_0 : wc.cell? ⟨gb109, 0, none⟩ = some (.string a1_0) := (blk_cell BK109.out 0).trans rfl
     have hcz29_1 : wc.cell? ⟨gb109, 1, none⟩ = some (.slice Ao14 y106.length co14) := (blk_cell BK109.out 1).trans rfl
     have hfz29_0 := blk_frozen BK109.out 0
     have hfz29_1 := blk_frozen BK109.out 1
     have hnb30 := NB102_101.out
     have hnc30 := NB101_102.out
     have hnb31 := NB102_0.out
     have hnc31 := NB0_102.out
     have hcz32_0 : wc.cell? ⟨gb102, 0, none⟩ = some (.string (⟨#[]⟩ : ByteArray)) := (blk_cell BK102.out 0).trans rfl
     have hcz32_1 : wc.cell? ⟨gb102, 1, none⟩ = some (.slice none 0 0) := (blk_cell BK102.out 1).trans rfl
     have hfz32_0 := blk_frozen BK102.out 0
     have hfz32_1 := blk_frozen BK102.out 1
     go_wp2
     refine bodyPost_ret (results_cell_row rfl _ _ gb102 25 #[.string a1_0, .slice Ao14 y106.length co14] (0, 0) _ rfl q37_10 Tryd.underlying25 rfl (by kernel_rfl)) rfl ?_
     exact ⟨_, by first | rfl | (simp [errW_none, errW_some] <;> rfl) | (simp [*, errW_none, errW_some] <;> rfl), by (with_reducible repeat (first | apply Kd.R_alloc | apply Kd.R_drewN | apply Kd.R_drew)); exact Kd.R_mono (Kd.R_far (p := ⟨gb102, 1, none⟩) (Kd.R_far (p := ⟨gb102, 0, none⟩) (Kd.R_types HO_110001.out BK102.out (by decide)) (fun _ hk => hk.2) (.string a1_0)) (fun _ hk => hk.2) (.slice Ao14 y106.length co14)) (fun _ hk => trivial), by repeat (first | (with_reducible first | exact HI0.out | apply IsS132.alloc | apply IsS132.drewN | apply IsS132.drew | apply IsS132.set_1 | refine IsS132.far ?_ NB0_101.out _ | refine IsS132.far ?_ NB0_102.out _ | refine IsS132.far ?_ NB0_109.out _) | exact HI0.out), by repeat (first | (with_reducible first | exact HB.out | apply below_alloc | apply pw_below_drewN | apply below_drew1 | refine below_set ?_ (IsS132.ge HI0.out) | refine below_set ?_ GE101.out | refine below_set ?_ GE102.out | refine below_set ?_ GE109.out) | exact HB.out), by repeat (first | (with_reducible first | exact HK.out | apply KeepBut.set_ | apply keep_drewN | apply keep_drew | apply keep_alloc | refine keep_far ?_ GW101.out _ | refine keep_far ?_ GW102.out _ | refine keep_far ?_ GW109.out _) | exact HK.out)⟩
    ·replace c25 := Bool.eq_false_iff.mpr c25
     subst c25
     have H1 : ((spec_l17Rd_pick.f kj3 s0_0 x1001_3 (y106.length : Int)).bind fun bt112 => ((spec_l17Rd_pick.f kj3 s0_0 bt112.2 5).bind fun bt114 => (if bt114.1 = 0 then ((spec_l17Rd_of.f kj3 s0_0 bt114.2 (([(⟨#[]⟩ : ByteArray), (⟨#[97]⟩ : ByteArray), (⟨#[65, 66]⟩ : ByteArray), (⟨#[70]⟩ : ByteArray), (⟨#[66]⟩ : ByteArray)] : List ByteArray))).bind fun bt119 => (some (bt119.1, y106, bt119.2))) else (if bt114.1 = 1 then ((spec_l17Rd_of.f kj3 s0_0 bt114.2 (([(⟨#[]⟩ : ByteArray), (⟨#[97]⟩ : ByteArray), (⟨#[65, 66]⟩ : ByteArray), (⟨#[70]⟩ : ByteArray)] : List ByteArray))).bind fun bt124 => (if 0 ≤ bt112.1 then (if bt112.1 < (y106.length : Int) then (some (a1_0, (y106.set (bt112.1 : Int).toNat (⟨bt124.1, (rd_T46 y106 bt112.1).f1⟩ : S46)), bt124.2)) else (none)) else (none))) else (if bt114.1 = 2 then ((spec_l17Rd_of.f kj3 s0_0 bt114.2 (([(⟨#[97, 97, 97, 97, 97]⟩ : ByteArray), (⟨#[101]⟩ : ByteArray), (⟨#[32]⟩ : ByteArray), (⟨#[97, 62]⟩ : ByteArray), (⟨#[70]⟩ : ByteArray)] : List ByteArray))).bind fun bt130 => (if 0 ≤ bt112.1 then (if bt112.1 < (y106.length : Int) then (some (a1_0, (y106.set (bt112.1 : Int).toNat (⟨(rd_T46 y106 bt112.1).f0, bt130.1⟩ : S46)), bt130.2)) else (none)) else (none))) else (if bt114.1 = 3 then (if 0 ≤ bt112.1 then (if bt112.1 < (y106.length : Int) then (if y106.length < 4398046511104 then (some (a1_0, (y106 ++ [(⟨(rd_T46 y106 bt112.1).f0, (rd_T46 y106 bt112.1).f1⟩ : S46)]), bt114.2)) else (none)) else (none)) else (none)) else (spec_l1Bent.l0 kj3 s0_0 bt114.2 a1_0 y106))))))) = some (r1, r2, r3) := by rw [if_neg (show ¬ (false = true) by decide)] at H; exact H
     clear H
     have H := H1
     clear H1
     replace H := Option.bind_eq_some_iff.mp H
     obtain ⟨⟨t112, t113⟩, A330, H⟩ := H
     replace H : ((spec_l17Rd_pick.f kj3 s0_0 t113 5).bind fun bt114 => (if bt114.1 = 0 then ((spec_l17Rd_of.f kj3 s0_0 bt114.2 (([(⟨#[]⟩ : ByteArray), (⟨#[97]⟩ : ByteArray), (⟨#[65, 66]⟩ : ByteArray), (⟨#[70]⟩ : ByteArray), (⟨#[66]⟩ : ByteArray)] : List ByteArray))).bind fun bt119 => (some (bt119.1, y106, bt119.2))) else (if bt114.1 = 1 then ((spec_l17Rd_of.f kj3 s0_0 bt114.2 (([(⟨#[]⟩ : ByteArray), (⟨#[97]⟩ : ByteArray), (⟨#[65, 66]⟩ : ByteArray), (⟨#[70]⟩ : ByteArray)] : List ByteArray))).bind fun bt124 => (if 0 ≤ t112 then (if t112 < (y106.length : Int) then (some (a1_0, (y106.set (t112 : Int).toNat (⟨bt124.1, (rd_T46 y106 t112).f1⟩ : S46)), bt124.2)) else (none)) else (none))) else (if bt114.1 = 2 then ((spec_l17Rd_of.f kj3 s0_0 bt114.2 (([(⟨#[97, 97, 97, 97, 97]⟩ : ByteArray), (⟨#[101]⟩ : ByteArray), (⟨#[32]⟩ : ByteArray), (⟨#[97, 62]⟩ : ByteArray), (⟨#[70]⟩ : ByteArray)] : List ByteArray))).bind fun bt130 => (if 0 ≤ t112 then (if t112 < (y106.length : Int) then (some (a1_0, (y106.set (t112 : Int).toNat (⟨(rd_T46 y106 t112).f0, bt130.1⟩ : S46)), bt130.2)) else (none)) else (none))) else (if bt114.1 = 3 then (if 0 ≤ t112 then (if t112 < (y106.length : Int) then (if y106.length < 4398046511104 then (some (a1_0, (y106 ++ [(⟨(rd_T46 y106 t112).f0, (rd_T46 y106 t112).f1⟩ : S46)]), bt114.2)) else (none)) else (none)) else (none)) else (spec_l1Bent.l0 kj3 s0_0 bt114.2 a1_0 y106)))))) = some (r1, r2, r3) := H
     have A33 := Aside0.mk A330
     clear A330
     replace H := Option.bind_eq_some_iff.mp H
     obtain ⟨⟨t114, t115⟩, A340, H⟩ := H
     replace H : (if t114 = 0 then ((spec_l17Rd_of.f kj3 s0_0 t115 (([(⟨#[]⟩ : ByteArray), (⟨#[97]⟩ : ByteArray), (⟨#[65, 66]⟩ : ByteArray), (⟨#[70]⟩ : ByteArray), (⟨#[66]⟩ : ByteArray)] : List ByteArray))).bind fun bt119 => (some (bt119.1, y106, bt119.2))) else (if t114 = 1 then ((spec_l17Rd_of.f kj3 s0_0 t115 (([(⟨#[]⟩ : ByteArray), (⟨#[97]⟩ : ByteArray), (⟨#[65, 66]⟩ : ByteArray), (⟨#[70]⟩ : ByteArray)] : List ByteArray))).bind fun bt124 => (if 0 ≤ t112 then (if t112 < (y106.length : Int) then (some (a1_0, (y106.set (t112 : Int).toNat (⟨bt124.1, (rd_T46 y106 t112).f1⟩ : S46)), bt124.2)) else (none)) else (none))) else (if t114 = 2 then ((spec_l17Rd_of.f kj3 s0_0 t115 (([(⟨#[97, 97, 97, 97, 97]⟩ : ByteArray), (⟨#[101]⟩ : ByteArray), (⟨#[32]⟩ : ByteArray), (⟨#[97, 62]⟩ : ByteArray), (⟨#[70]⟩ : ByteArray)] : List ByteArray))).bind fun bt130 => (if 0 ≤ t112 then (if t112 < (y106.length : Int) then (some (a1_0, (y106.set (t112 : Int).toNat (⟨(rd_T46 y106 t112).f0, bt130.1⟩ : S46)), bt130.2)) else (none)) else (none))) else (if t114 = 3 then (if 0 ≤ t112 then (if t112 < (y106.length : Int) then (if y106.length < 4398046511104 then (some (a1_0, (y106 ++ [(⟨(rd_T46 y106 t112).f0, (rd_T46 y106 t112).f1⟩ : S46)]), t115)) else (none)) else (none)) else (none)) else (spec_l1Bent.l0 kj3 s0_0 t115 a1_0 y106))))) = some (r1, r2, r3) := H
     have A34 := Aside0.mk A340
     clear A340
     by_cases c35 : t114 = 0
     ·rw [if_pos c35] at H
      have c35b0 : (t114 == 0) = true := beq_iff_eq.mpr c35
      have c35b1 : (t114 != 0) = false := bne_eq_false_iff_eq.mpr c35
      clear c35
      obtain ⟨y116, hy116⟩ : ∃ y_ : List ByteArray, y_ = (([(⟨#[]⟩ : ByteArray), (⟨#[97]⟩ : ByteArray), (⟨#[65, 66]⟩ : ByteArray), (⟨#[70]⟩ : ByteArray), (⟨#[66]⟩ : ByteArray)] : List ByteArray)) := ⟨_, rfl⟩
      replace H : ((spec_l17Rd_of.f kj3 s0_0 t115 y116).bind fun bt119 => (some (bt119.1, y106, bt119.2))) = some (r1, r2, r3) := by first | (rw [hy116]; with_reducible exact H) | (have H2_ := (Option.bind_some _ _).symm.trans H; rw [hy116]; with_reducible exact H2_) | (have H2_ := (Option.bind_some _ _).symm.trans H; with_reducible exact H2_) | with_reducible exact H | (rw [hy116]; exact H) | exact H
      have Ny116 := Aside0.mk hy116
      clear hy116
      replace H := Option.bind_eq_some_iff.mp H
      obtain ⟨⟨t119, t120⟩, A360, H⟩ := H
      replace H : (some (t119, y106, t120)) = some (r1, r2, r3) := H
      have A36 := Aside0.mk A360
      clear A360
      simp only [Option.some.injEq, Prod.mk.injEq] at H
      obtain ⟨rfl, rfl, rfl⟩ := H
      go_wp2_with (first | ((with_reducible refine gate_callee (f := 84) rfl ?_); refine goesL_ (some 28) rfl rfl Tryd.func84 (by kernel_rfl) rfl #[.pointer (some ⟨g, 0, none⟩), .int .i64 (y106.length : Int)] rfl q37_8 ?_; (with_reducible refine (spec_l17Rd_pick.calls kj3 g s0_0 x1001_3 (y106.length : Int) t112 t113 w0 _ ?side1 ?side2 A33.out).mono ?_); (case side1 => repeat (first | (with_reducible first | exact HI0.out | apply IsS132.alloc | apply IsS132.drewN | apply IsS132.drew | apply IsS132.set_1 | refine IsS132.far ?_ NB0_101.out _ | refine IsS132.far ?_ NB0_102.out _ | refine IsS132.far ?_ NB0_109.out _) | exact HI0.out)); (case side2 => repeat (first | (with_reducible first | exact HB.out | apply below_alloc | apply pw_below_drewN | apply below_drew1 | refine below_set ?_ (IsS132.ge HI0.out) | refine below_set ?_ GE101.out | refine below_set ?_ GE102.out | refine below_set ?_ GE109.out) | exact HB.out)); rintro e w37 ⟨rfl, hi, hb, hk⟩; refine ⟨_, rfl, ?_⟩; have n0_ := Aside0.mk (Kd.R_mono (Kd.R_keep (IsS132.apart (show IsS132 w0 _ g s0_0 x1001_3 from by repeat (first | (with_reducible first | exact HI0.out | apply IsS132.alloc | apply IsS132.drewN | apply IsS132.drew | apply IsS132.set_1 | refine IsS132.far ?_ NB0_101.out _ | refine IsS132.far ?_ NB0_102.out _ | refine IsS132.far ?_ NB0_109.out _) | exact HI0.out)) q37_9 (by decide)) hk (fun _ h => h.2)) (fun _ h => h.1)); have n1_ := Aside0.mk (KeepBut.blk hk (g' := gb101) (o := .cells #[.string a1_0, .slice A1_1 l1_1.length c1_1] 25 (0, 0)) q37_2 NB101_0.out (by simp)); have n2_ := Aside0.mk (KeepBut.blk hk (g' := gb102) (o := .cells #[.string (⟨#[]⟩ : ByteArray), .slice none 0 0] 25 (0, 0)) q37_3 NB102_0.out (by simp)); have n3_ := Aside0.mk (KeepBut.blk hk (g' := gb109) (o := .cells #[.string a1_0, .slice Ao14 y106.length co14] 25 (0, 0)) q37_4 NB109_0.out (by simp)); have n4_ := Aside0.mk (KeepBut.trans q37_1 hk (.inl rfl)); have n5_ := Aside0.mk (hb); have n6_ := Aside0.mk (hi); clear HO_110001; clear BK101; clear BK102; clear BK109; clear HK; clear HB; clear HI0; have HO_110001 := n0_; have BK101 := n1_; have BK102 := n2_; have BK109 := n3_; have HK := n4_; have HB := n5_; have HI0 := n6_; clear n0_ n1_ n2_ n3_ n4_ n5_ n6_; (try clear hb); (try clear hb2); (try clear hk); (try clear hi)) | ((with_reducible refine gate_callee (f := 84) rfl ?_); refine goesL_ (some 30) rfl rfl Tryd.func84 (by kernel_rfl) rfl #[.pointer (some ⟨g, 0, none⟩), .int .i64 5] rfl q37_8 ?_; (with_reducible refine (spec_l17Rd_pick.calls kj3 g s0_0 t113 5 t114 t115 w0 _ ?side1 ?side2 A34.out).mono ?_); (case side1 => repeat (first | (with_reducible first | exact HI0.out | apply IsS132.alloc | apply IsS132.drewN | apply IsS132.drew | apply IsS132.set_1 | refine IsS132.far ?_ NB0_101.out _ | refine IsS132.far ?_ NB0_102.out _ | refine IsS132.far ?_ NB0_109.out _) | exact HI0.out)); (case side2 => repeat (first | (with_reducible first | exact HB.out | apply below_alloc | apply pw_below_drewN | apply below_drew1 | refine below_set ?_ (IsS132.ge HI0.out) | refine below_set ?_ GE101.out | refine below_set ?_ GE102.out | refine below_set ?_ GE109.out) | exact HB.out)); rintro e w38 ⟨rfl, hi, hb, hk⟩; refine ⟨_, rfl, ?_⟩; have n0_ := Aside0.mk (Kd.R_mono (Kd.R_keep (IsS132.apart (show IsS132 w0 _ g s0_0 t113 from by repeat (first | (with_reducible first | exact HI0.out | apply IsS132.alloc | apply IsS132.drewN | apply IsS132.drew | apply IsS132.set_1 | refine IsS132.far ?_ NB0_101.out _ | refine IsS132.far ?_ NB0_102.out _ | refine IsS132.far ?_ NB0_109.out _) | exact HI0.out)) q37_9 (by decide)) hk (fun _ h => h.2)) (fun _ h => h.1)); have n1_ := Aside0.mk (KeepBut.blk hk (g' := gb101) (o := .cells #[.string a1_0, .slice A1_1 l1_1.length c1_1] 25 (0, 0)) q37_2 NB101_0.out (by simp)); have n2_ := Aside0.mk (KeepBut.blk hk (g' := gb102) (o := .cells #[.string (⟨#[]⟩ : ByteArray), .slice none 0 0] 25 (0, 0)) q37_3 NB102_0.out (by simp)); have n3_ := Aside0.mk (KeepBut.blk hk (g' := gb109) (o := .cells #[.string a1_0, .slice Ao14 y106.length co14] 25 (0, 0)) q37_4 NB109_0.out (by simp)); have n4_ := Aside0.mk (KeepBut.trans q37_1 hk (.inl rfl)); have n5_ := Aside0.mk (hb); have n6_ := Aside0.mk (hi); clear HO_110001; clear BK101; clear BK102; clear BK109; clear HK; clear HB; clear HI0; have HO_110001 := n0_; have BK101 := n1_; have BK102 := n2_; have BK109 := n3_; have HK := n4_; have HB := n5_; have HI0 := n6_; clear n0_ n1_ n2_ n3_ n4_ n5_ n6_; (try clear hb); (try clear hb2); (try clear hk); (try clear hi)) | ((with_reducible refine gate_dst (N := 46) rfl ?_); refine Kd.R_lit Kd.string _ 9 ?hg (N := 46) ?hd (xs := ([(⟨#[]⟩ : ByteArray), (⟨#[97]⟩ : ByteArray), (⟨#[65, 66]⟩ : ByteArray), (⟨#[70]⟩ : ByteArray), (⟨#[66]⟩ : ByteArray)] : List ByteArray)) (inner := [.string (⟨#[]⟩ : ByteArray), .string (⟨#[97]⟩ : ByteArray), .string (⟨#[65, 66]⟩ : ByteArray), .string (⟨#[70]⟩ : ByteArray), .string (⟨#[66]⟩ : ByteArray)]) (ok := fun _ => True) (okp := fun _ => True) ?hr ?hp (fun _ hk => hk) trivial (Below.refl _ _) (Nat.le_refl _) (by simp) ?_; (case hd => rfl); (case hg => rfl); (case hr => first | (go_simp; done) | (go_simp; rfl)); (case hp => exact (Reps.one (show Kd.M Kd.string _ _ _ (⟨#[]⟩ : ByteArray) [.string (⟨#[]⟩ : ByteArray)] from rfl) (Reps.one (show Kd.M Kd.string _ _ _ (⟨#[97]⟩ : ByteArray) [.string (⟨#[97]⟩ : ByteArray)] from rfl) (Reps.one (show Kd.M Kd.string _ _ _ (⟨#[65, 66]⟩ : ByteArray) [.string (⟨#[65, 66]⟩ : ByteArray)] from rfl) (Reps.one (show Kd.M Kd.string _ _ _ (⟨#[70]⟩ : ByteArray) [.string (⟨#[70]⟩ : ByteArray)] from rfl) (Reps.one (show Kd.M Kd.string _ _ _ (⟨#[66]⟩ : ByteArray) [.string (⟨#[66]⟩ : ByteArray)] from rfl) (Reps.none _ _))))))); intro v117 w39 ho40 hb hg_ hnew_; clear hg_ hnew_; (first | rw [← Ny116.out] at ho40 | (simp only [Int.reduceToNat] at ho40; rw [← Ny116.out] at ho40)); have n0_ := Aside0.mk (Kd.R_below q37_9 hb); have n1_ := Aside0.mk (Kd.R_lower ho40 (keep_size (w := w) (g := g) (row := none) q37_1)); have n2_ := Aside0.mk (blk_below (g := gb101) (o := .cells #[.string a1_0, .slice A1_1 l1_1.length c1_1] 25 (0, 0)) q37_2 hb); have n3_ := Aside0.mk (blk_below (g := gb102) (o := .cells #[.string (⟨#[]⟩ : ByteArray), .slice none 0 0] 25 (0, 0)) q37_3 hb); have n4_ := Aside0.mk (blk_below (g := gb109) (o := .cells #[.string a1_0, .slice Ao14 y106.length co14] 25 (0, 0)) q37_4 hb); have n5_ := Aside0.mk (IsS132.below q37_7 hb); have n6_ := Aside0.mk (KeepBut.trans q37_1 (KeepBut.of_below hb g none) (.inl rfl)); have n7_ := Aside0.mk (below_step q37_6 hb); clear HO_110001; clear BK101; clear BK102; clear BK109; clear HI0; clear HK; clear HB; have HO_110001 := n0_; have HO118 := n1_; have BK101 := n2_; have BK102 := n3_; have BK109 := n4_; have HI0 := n5_; have HK := n6_; have HB := n7_; clear n0_ n1_ n2_ n3_ n4_ n5_ n6_ n7_; clear hb ho40; obtain ⟨Ao41, co41, eo41⟩ := Kd.R_slice HO118.out; subst eo41) | ((with_reducible refine gate_callee (f := 85) rfl ?_); refine goesL_ (some 47) rfl rfl Tryd.func85 (by kernel_rfl) rfl #[.pointer (some ⟨g, 0, none⟩), .slice Ao41 y116.length co41] rfl q37_8 ?_; (with_reducible refine (spec_l17Rd_of.calls kj3 g s0_0 t115 _ _ y116 t119 t120 w0 _ ?side1 ?side2 ?side3 ?side4 ?side5 A36.out).mono ?_); (case side1 => repeat (first | (with_reducible first | exact HI0.out | apply IsS132.alloc | apply IsS132.drewN | apply IsS132.drew | apply IsS132.set_1 | refine IsS132.far ?_ NB0_101.out _ | refine IsS132.far ?_ NB0_102.out _ | refine IsS132.far ?_ NB0_109.out _) | exact HI0.out)); (case side2 => repeat (first | (with_reducible first | exact HB.out | apply below_alloc | apply pw_below_drewN | apply below_drew1 | refine below_set ?_ (IsS132.ge HI0.out) | refine below_set ?_ GE101.out | refine below_set ?_ GE102.out | refine below_set ?_ GE109.out) | exact HB.out)); (case side3 => repeat (first | exact (Kd.R_reads' HO118.out).2.2 | (with_reducible refine Kd.C_alloc ?_ _) | (with_reducible refine Kd.C_drewN ?_ _) | (with_reducible refine Kd.C_drew ?_))); (case side4 => exact (Kd.R_reads' HO118.out).2.1); (case side5 => exact far_slice (IsS132.own_ne HI0.out HO118.out (by decide))); rintro e w42 ⟨rfl, hi, hb, hk⟩; refine ⟨_, rfl, ?_⟩; have n0_ := Aside0.mk (Kd.R_mono (Kd.R_keep (IsS132.apart (show IsS132 w0 _ g s0_0 t115 from by repeat (first | (with_reducible first | exact HI0.out | apply IsS132.alloc | apply IsS132.drewN | apply IsS132.drew | apply IsS132.set_1 | refine IsS132.far ?_ NB0_101.out _ | refine IsS132.far ?_ NB0_102.out _ | refine IsS132.far ?_ NB0_109.out _) | exact HI0.out)) q37_9 (by decide)) hk (fun _ h => h.2)) (fun _ h => h.1)); have n1_ := Aside0.mk (KeepBut.blk hk (g' := gb101) (o := .cells #[.string a1_0, .slice A1_1 l1_1.length c1_1] 25 (0, 0)) q37_2 NB101_0.out (by simp)); have n2_ := Aside0.mk (KeepBut.blk hk (g' := gb102) (o := .cells #[.string (⟨#[]⟩ : ByteArray), .slice none 0 0] 25 (0, 0)) q37_3 NB102_0.out (by simp)); have n3_ := Aside0.mk (KeepBut.blk hk (g' := gb109) (o := .cells #[.string a1_0, .slice Ao14 y106.length co14] 25 (0, 0)) q37_4 NB109_0.out (by simp)); have n4_ := Aside0.mk (Kd.R_mono (Kd.R_keep (IsS132.apart (show IsS132 w0 _ g s0_0 t115 from by repeat (first | (with_reducible first | exact HI0.out | apply IsS132.alloc | apply IsS132.drewN | apply IsS132.drew | apply IsS132.set_1 | refine IsS132.far ?_ NB0_101.out _ | refine IsS132.far ?_ NB0_102.out _ | refine IsS132.far ?_ NB0_109.out _) | exact HI0.out)) (by (with_reducible repeat (first | apply Kd.R_alloc | apply Kd.R_drewN | apply Kd.R_drew)); exact HO118.out) (by decide)) hk (fun _ h => h.2)) (fun _ h => h.1)); have n5_ := Aside0.mk (KeepBut.trans q37_1 hk (.inl rfl)); have n6_ := Aside0.mk (hb); have n7_ := Aside0.mk (hi); clear HO_110001; clear BK101; clear BK102; clear BK109; clear HO118; clear HK; clear HB; clear HI0; have HO_110001 := n0_; have BK101 := n1_; have BK102 := n2_; have BK109 := n3_; have HO118 := n4_; have HK := n5_; have HB := n6_; have HI0 := n7_; clear n0_ n1_ n2_ n3_ n4_ n5_ n6_ n7_; (try clear hb); (try clear hb2); (try clear hk); (try clear hi); have hnb43 := NB109_101.out; have hnc43 := NB101_109.out; have hnb44 := NB109_102.out; have hnc44 := NB102_109.out; have hnb45 := NB109_0.out; have hnc45 := NB0_109.out; have hcz46_0 : w42.cell? ⟨gb109, 0, none⟩ = some (.string a1_0) := (blk_cell BK109.out 0).trans rfl; have hcz46_1 : w42.cell? ⟨gb109, 1, none⟩ = some (.slice Ao14 y106.length co14) := (blk_cell BK109.out 1).trans rfl; have hfz46_0 := blk_frozen BK109.out 0; have hfz46_1 := blk_frozen BK109.out 1; have hnb47 := NB102_101.out; have hnc47 := NB101_102.out; have hnb48 := NB102_0.out; have hnc48 := NB0_102.out; have hcz49_0 : w42.cell? ⟨gb102, 0, none⟩ = some (.string (⟨#[]⟩ : ByteArray)) := (blk_cell BK102.out 0).trans rfl; have hcz49_1 : w42.cell? ⟨gb102, 1, none⟩ = some (.slice none 0 0) := (blk_cell BK102.out 1).trans rfl; have hfz49_0 := blk_frozen BK102.out 0; have hfz49_1 := blk_frozen BK102.out 1))
      refine bodyPost_ret (results_cell_row rfl _ _ gb102 25 #[.string t119, .slice Ao14 y106.length co14] (0, 0) _ rfl (by (with_reducible repeat (first | refine blk_drewN ?_ _ | refine blk_drew ?_ | refine blk_alloc ?_ _)); refine blk_put (cs := #[.string t119, .slice none 0 0]) ?_ 1 _ rfl; (with_reducible repeat (first | refine blk_drewN ?_ _ | refine blk_drew ?_ | refine blk_alloc ?_ _)); refine blk_put (cs := #[.string (⟨#[]⟩ : ByteArray), .slice none 0 0]) ?_ 0 _ rfl; (with_reducible repeat (first | refine blk_drewN ?_ _ | refine blk_drew ?_ | refine blk_alloc ?_ _)); refine blk_far ?_ NB102_109.out _; (with_reducible repeat (first | refine blk_drewN ?_ _ | refine blk_drew ?_ | refine blk_alloc ?_ _)); exact BK102.out) Tryd.underlying25 rfl (by kernel_rfl)) rfl ?_
      exact ⟨_, by first | rfl | (simp [errW_none, errW_some] <;> rfl) | (simp [*, errW_none, errW_some] <;> rfl), by (with_reducible repeat (first | apply Kd.R_alloc | apply Kd.R_drewN | apply Kd.R_drew)); exact Kd.R_mono (Kd.R_far (p := ⟨gb102, 1, none⟩) (Kd.R_far (p := ⟨gb102, 0, none⟩) (Kd.R_far (p := ⟨gb109, 0, none⟩) (Kd.R_types (Kd.R_types HO_110001.out BK109.out (by decide)) BK102.out (by decide)) (fun _ hk => hk.1.2) (.string t119)) (fun _ hk => hk.2) (.string t119)) (fun _ hk => hk.2) (.slice Ao14 y106.length co14)) (fun _ hk => trivial), by repeat (first | (with_reducible first | exact HI0.out | apply IsS132.alloc | apply IsS132.drewN | apply IsS132.drew | apply IsS132.set_1 | refine IsS132.far ?_ NB0_101.out _ | refine IsS132.far ?_ NB0_102.out _ | refine IsS132.far ?_ NB0_109.out _) | exact HI0.out), by repeat (first | (with_reducible first | exact HB.out | apply below_alloc | apply pw_below_drewN | apply below_drew1 | refine below_set ?_ (IsS132.ge HI0.out) | refine below_set ?_ GE101.out | refine below_set ?_ GE102.out | refine below_set ?_ GE109.out) | exact HB.out), by repeat (first | (with_reducible first | exact HK.out | apply KeepBut.set_ | apply keep_drewN | apply keep_drew | apply keep_alloc | refine keep_far ?_ GW101.out _ | refine keep_far ?_ GW102.out _ | refine keep_far ?_ GW109.out _) | exact HK.out)⟩
     ·rw [if_neg c35] at H
      have c35b0 : (t114 == 0) = false := beq_eq_false_iff_ne.mpr c35
      have c35b1 : (t114 != 0) = true := bne_iff_ne.mpr c35
      by_cases c50 : t114 = 1
      ·rw [if_pos c50] at H
       have c50b0 : (t114 == 1) = true := beq_iff_eq.mpr c50
       have c50b1 : (t114 != 1) = false := bne_eq_false_iff_eq.mpr c50
       clear c50
       obtain ⟨y121, hy121⟩ : ∃ y_ : List ByteArray, y_ = (([(⟨#[]⟩ : ByteArray), (⟨#[97]⟩ : ByteArray), (⟨#[65, 66]⟩ : ByteArray), (⟨#[70]⟩ : ByteArray)] : List ByteArray)) := ⟨_, rfl⟩
       replace H : ((spec_l17Rd_of.f kj3 s0_0 t115 y121).bind fun bt124 => (if 0 ≤ t112 then (if t112 < (y106.length : Int) then (some (a1_0, (y106.set (t112 : Int).toNat (⟨bt124.1, (rd_T46 y106 t112).f1⟩ : S46)), bt124.2)) else (none)) else (none))) = some (r1, r2, r3) := by first | (rw [hy121]; with_reducible exact H) | (have H2_ := (Option.bind_some _ _).symm.trans H; rw [hy121]; with_reducible exact H2_) | (have H2_ := (Option.bind_some _ _).symm.trans H; with_reducible exact H2_) | with_reducible exact H | (rw [hy121]; exact H) | exact H
       have Ny121 := Aside0.mk hy121
       clear hy121
       replace H := Option.bind_eq_some_iff.mp H
       obtain ⟨⟨t124, t125⟩, A510, H⟩ := H
       replace H : (if 0 ≤ t112 then (if t112 < (y106.length : Int) then (some (a1_0, (y106.set (t112 : Int).toNat (⟨t124, (rd_T46 y106 t112).f1⟩ : S46)), t125)) else (none)) else (none)) = some (r1, r2, r3) := H
       have A51 := Aside0.mk A510
       clear A510
       by_cases c52 : 0 ≤ t112
       ·rw [if_pos c52] at H
        have c52b0 : decide (0 ≤ t112) = true := decide_eq_true c52
        clear c52
        by_cases c53 : t112 < (y106.length : Int)
        ·rw [if_pos c53] at H
         have c53b0 : decide (t112 < (y106.length : Int)) = true := decide_eq_true c53
         clear c53
         obtain ⟨y126, hy126⟩ : ∃ y_ : List (S46), y_ = (y106.set (t112 : Int).toNat (⟨t124, (rd_T46 y106 t112).f1⟩ : S46)) := ⟨_, rfl⟩
         replace H : (some (a1_0, y126, t125)) = some (r1, r2, r3) := by first | (rw [hy126]; with_reducible exact H) | (have H2_ := (Option.bind_some _ _).symm.trans H; rw [hy126]; with_reducible exact H2_) | (have H2_ := (Option.bind_some _ _).symm.trans H; with_reducible exact H2_) | with_reducible exact H | (rw [hy126]; exact H) | exact H
         have Ny126 := Aside0.mk hy126
         clear hy126
         simp only [Option.some.injEq, Prod.mk.injEq] at H
         obtain ⟨rfl, rfl, rfl⟩ := H
         try go_wp2_with (first | ((with_reducible refine gate_callee (f := 84) rfl ?_); refine goesL_ (some 28) rfl rfl Tryd.func84 (by kernel_rfl) rfl #[.pointer (some ⟨g, 0, none⟩), .int .i64 (y106.length : Int)] rfl q37_8 ?_; (with_reducible refine (spec_l17Rd_pick.calls kj3 g s0_0 x1001_3 (y106.length : Int) t112 t113 w0 _ ?side1 ?side2 A33.out).mono ?_); (case side1 => repeat (first | (with_reducible first | exact HI0.out | apply IsS132.alloc | apply IsS132.drewN | apply IsS132.drew | apply IsS132.set_1 | refine IsS132.far ?_ NB0_101.out _ | refine IsS132.far ?_ NB0_102.out _ | refine IsS132.far ?_ NB0_109.out _) | exact HI0.out)); (case side2 => repeat (first | (with_reducible first | exact HB.out | apply below_alloc | apply pw_below_drewN | apply below_drew1 | refine below_set ?_ (IsS132.ge HI0.out) | refine below_set ?_ GE101.out | refine below_set ?_ GE102.out | refine below_set ?_ GE109.out) | exact HB.out)); rintro e w55 ⟨rfl, hi, hb, hk⟩; refine ⟨_, rfl, ?_⟩; have n0_ := Aside0.mk (Kd.R_mono (Kd.R_keep (IsS132.apart (show IsS132 w0 _ g s0_0 x1001_3 from by repeat (first | (with_reducible first | exact HI0.out | apply IsS132.alloc | apply IsS132.drewN | apply IsS132.drew | apply IsS132.set_1 | refine IsS132.far ?_ NB0_101.out _ | refine IsS132.far ?_ NB0_102.out _ | refine IsS132.far ?_ NB0_109.out _) | exact HI0.out)) q37_9 (by decide)) hk (fun _ h => h.2)) (fun _ h => h.1)); have n1_ := Aside0.mk (KeepBut.blk hk (g' := gb101) (o := .cells #[.string a1_0, .slice A1_1 l1_1.length c1_1] 25 (0, 0)) q37_2 NB101_0.out (by simp)); have n2_ := Aside0.mk (KeepBut.blk hk (g' := gb102) (o := .cells #[.string (⟨#[]⟩ : ByteArray), .slice none 0 0] 25 (0, 0)) q37_3 NB102_0.out (by simp)); have n3_ := Aside0.mk (KeepBut.blk hk (g' := gb109) (o := .cells #[.string a1_0, .slice Ao14 y106.length co14] 25 (0, 0)) q37_4 NB109_0.out (by simp)); have n4_ := Aside0.mk (KeepBut.trans q37_1 hk (.inl rfl)); have n5_ := Aside0.mk (hb); have n6_ := Aside0.mk (hi); clear HO_110001; clear BK101; clear BK102; clear BK109; clear HK; clear HB; clear HI0; have HO_110001 := n0_; have BK101 := n1_; have BK102 := n2_; have BK109 := n3_; have HK := n4_; have HB := n5_; have HI0 := n6_; clear n0_ n1_ n2_ n3_ n4_ n5_ n6_; (try clear hb); (try clear hb2); (try clear hk); (try clear hi)) | ((with_reducible refine gate_callee (f := 84) rfl ?_); refine goesL_ (some 30) rfl rfl Tryd.func84 (by kernel_rfl) rfl #[.pointer (some ⟨g, 0, none⟩), .int .i64 5] rfl q37_8 ?_; (with_reducible refine (spec_l17Rd_pick.calls kj3 g s0_0 t113 5 t114 t115 w0 _ ?side1 ?side2 A34.out).mono ?_); (case side1 => repeat (first | (with_reducible first | exact HI0.out | apply IsS132.alloc | apply IsS132.drewN | apply IsS132.drew | apply IsS132.set_1 | refine IsS132.far ?_ NB0_101.out _ | refine IsS132.far ?_ NB0_102.out _ | refine IsS132.far ?_ NB0_109.out _) | exact HI0.out)); (case side2 => repeat (first | (with_reducible first | exact HB.out | apply below_alloc | apply pw_below_drewN | apply below_drew1 | refine below_set ?_ (IsS132.ge HI0.out) | refine below_set ?_ GE101.out | refine below_set ?_ GE102.out | refine below_set ?_ GE109.out) | exact HB.out)); rintro e w56 ⟨rfl, hi, hb, hk⟩; refine ⟨_, rfl, ?_⟩; have n0_ := Aside0.mk (Kd.R_mono (Kd.R_keep (IsS132.apart (show IsS132 w0 _ g s0_0 t113 from by repeat (first | (with_reducible first | exact HI0.out | apply IsS132.alloc | apply IsS132.drewN | apply IsS132.drew | apply IsS132.set_1 | refine IsS132.far ?_ NB0_101.out _ | refine IsS132.far ?_ NB0_102.out _ | refine IsS132.far ?_ NB0_109.out _) | exact HI0.out)) q37_9 (by decide)) hk (fun _ h => h.2)) (fun _ h => h.1)); have n1_ := Aside0.mk (KeepBut.blk hk (g' := gb101) (o := .cells #[.string a1_0, .slice A1_1 l1_1.length c1_1] 25 (0, 0)) q37_2 NB101_0.out (by simp)); have n2_ := Aside0.mk (KeepBut.blk hk (g' := gb102) (o := .cells #[.string (⟨#[]⟩ : ByteArray), .slice none 0 0] 25 (0, 0)) q37_3 NB102_0.out (by simp)); have n3_ := Aside0.mk (KeepBut.blk hk (g' := gb109) (o := .cells #[.string a1_0, .slice Ao14 y106.length co14] 25 (0, 0)) q37_4 NB109_0.out (by simp)); have n4_ := Aside0.mk (KeepBut.trans q37_1 hk (.inl rfl)); have n5_ := Aside0.mk (hb); have n6_ := Aside0.mk (hi); clear HO_110001; clear BK101; clear BK102; clear BK109; clear HK; clear HB; clear HI0; have HO_110001 := n0_; have BK101 := n1_; have BK102 := n2_; have BK109 := n3_; have HK := n4_; have HB := n5_; have HI0 := n6_; clear n0_ n1_ n2_ n3_ n4_ n5_ n6_; (try clear hb); (try clear hb2); (try clear hk); (try clear hi)))
         have n0_ := Aside0.mk (Kd.R_drew HO_110001.out)
         have n1_ := Aside0.mk (blk_drew BK101.out)
         have n2_ := Aside0.mk (blk_drew BK102.out)
         have n3_ := Aside0.mk (blk_drew BK109.out)
         have n4_ := Aside0.mk (IsS132.drew HI0.out)
         have n5_ := Aside0.mk (keep_drew HK.out)
         have n6_ := Aside0.mk (below_drew1 HB.out)
         clear HO_110001
         clear BK101
         clear BK102
         clear BK109
         clear HI0
         clear HK
         clear HB
         have HO_110001 := n0_
         have BK101 := n1_
         have BK102 := n2_
         have BK109 := n3_
         have HI0 := n4_
         have HK := n5_
         have HB := n6_
         clear n0_ n1_ n2_ n3_ n4_ n5_ n6_
         refine start_ (n := 9) (S := fun w' => w'.cell? ⟨gb109, 0, none⟩ = some (.string a1_0) ∧ w'.cell? ⟨gb109, 1, none⟩ = some (.slice Ao14 y106.length co14)) (ds := [8]) #[false, false, false, false, false, false, false, false, false] (by kernel_rfl) rfl rfl ⟨(blk_cell BK109.out 0).trans rfl, (blk_cell BK109.out 1).trans rfl⟩ (fun hHeld => ?_); refine with_tabW spec_l1Bent.tab12 spec_l1Bent.bits12 (fun HT_ HW_ => ?_)
         generalize w56.drew = w57 at HO_110001 BK101 BK102 BK109 HI0 HK HB hHeld ⊢
         refine pure_ (i := 0) (N := some 51) (v := ?_) (a' := ?_) #[true, false, false, false, false, false, false, false, false] rfl rfl (any_of HT_.out (by kernel_rfl)) (fun _ _ _ h => h) (Or.inl ⟨by rfl, ?_⟩) ?_ ?_
         rotate_left
         ·intro w'
          go_simp
          with_reducible rfl
         rotate_left
         ·simp only [Act.put, List.setIfInBounds_toArray, List.set_cons_zero, List.set_cons_succ, i64_w, i32_w]
          rfl
         refine pure_ (i := 2) (N := some 53) (v := ?_) (a' := ?_) #[true, false, true, false, false, false, false, false, false] rfl rfl (any_of HT_.out (by kernel_rfl)) (fun _ _ _ h => h) (Or.inl ⟨by rfl, ?_⟩) ?_ ?_
         rotate_left
         ·intro w'
          go_simp
          with_reducible rfl
         rotate_left
         ·simp only [Act.put, List.setIfInBounds_toArray, List.set_cons_zero, List.set_cons_succ, i64_w, i32_w]
          rfl
         refine pure_ (i := 3) (N := some 54) (v := ?_) (a' := ?_) #[true, false, true, true, false, false, false, false, false] rfl rfl (any_of HT_.out (by kernel_rfl)) (fun _ _ _ h => h) (Or.inl ⟨by rfl, ?_⟩) ?_ ?_
         rotate_left
         ·intro w'
          go_simp
          with_reducible rfl
         rotate_left
         ·simp only [Act.put, List.setIfInBounds_toArray, List.set_cons_zero, List.set_cons_succ, i64_w, i32_w]
          rfl
         refine take_ (i := 1) (N := some 52) (v := ?_) (a' := ?_) #[true, true, true, true, false, false, false, false, false] rfl rfl (take_ofW HT_.out HW_.out (by kernel_rfl)) (fun _ _ _ h => h) (Or.inl ⟨by rfl, ?_⟩) hHeld ?_ ?_
         rotate_left
         ·rintro w' ⟨s0, s1⟩
          go_simp
          with_reducible rfl
         rotate_left
         ·simp only [Act.put, List.setIfInBounds_toArray, List.set_cons_zero, List.set_cons_succ, i64_w, i32_w]
          rfl
         refine one_ (i := 4) (N := some 55) #[true, true, true, true, true, false, false, false, false] rfl rfl (one_of HT_.out (by kernel_rfl)) (by decide) (fun K hK => ?_)
         refine Kd.R_lit_step Kd.string _ 9 ?hg (N := 55) ?hd (xs := ([(⟨#[]⟩ : ByteArray), (⟨#[97]⟩ : ByteArray), (⟨#[65, 66]⟩ : ByteArray), (⟨#[70]⟩ : ByteArray)] : List ByteArray)) (inner := [.string (⟨#[]⟩ : ByteArray), .string (⟨#[97]⟩ : ByteArray), .string (⟨#[65, 66]⟩ : ByteArray), .string (⟨#[70]⟩ : ByteArray)]) (ok := fun _ => True) (okp := fun _ => True) ?hr ?hp (fun _ hk => hk) trivial (Below.refl _ _) (Nat.le_refl _) (by simp) ?_; (case hd => rfl); (case hg => rfl); (case hr => first | (go_simp; done) | (go_simp; rfl)); (case hp => exact (Reps.one (show Kd.M Kd.string _ _ _ (⟨#[]⟩ : ByteArray) [.string (⟨#[]⟩ : ByteArray)] from rfl) (Reps.one (show Kd.M Kd.string _ _ _ (⟨#[97]⟩ : ByteArray) [.string (⟨#[97]⟩ : ByteArray)] from rfl) (Reps.one (show Kd.M Kd.string _ _ _ (⟨#[65, 66]⟩ : ByteArray) [.string (⟨#[65, 66]⟩ : ByteArray)] from rfl) (Reps.one (show Kd.M Kd.string _ _ _ (⟨#[70]⟩ : ByteArray) [.string (⟨#[70]⟩ : ByteArray)] from rfl) (Reps.none _ _))))))
         intro v122 w58 ho59 hb hg_ hnew_
         clear hg_ hnew_
         (first | rw [← Ny121.out] at ho59 | (simp only [Int.reduceToNat] at ho59; rw [← Ny121.out] at ho59))
         have n0_ := Aside0.mk (Kd.R_below q37_9 hb)
         have n1_ := Aside0.mk (Kd.R_lower ho59 (keep_size (w := w) (g := g) (row := none) q37_1))
         have n2_ := Aside0.mk (blk_below (g := gb101) (o := .cells #[.string a1_0, .slice A1_1 l1_1.length c1_1] 25 (0, 0)) q37_2 hb)
         have n3_ := Aside0.mk (blk_below (g := gb102) (o := .cells #[.string (⟨#[]⟩ : ByteArray), .slice none 0 0] 25 (0, 0)) q37_3 hb)
         have n4_ := Aside0.mk (blk_below (g := gb109) (o := .cells #[.string a1_0, .slice Ao14 y106.length co14] 25 (0, 0)) q37_4 hb)
         have n5_ := Aside0.mk (IsS132.below q37_7 hb)
         have n6_ := Aside0.mk (KeepBut.trans q37_1 (KeepBut.of_below hb g none) (.inl rfl))
         have n7_ := Aside0.mk (below_step q37_6 hb)
         clear HO_110001
         clear BK101
         clear BK102
         clear BK109
         clear HI0
         clear HK
         clear HB
         have HO_110001 := n0_
         have HO123 := n1_
         have BK101 := n2_
         have BK102 := n3_
         have BK109 := n4_
         have HI0 := n5_
         have HK := n6_
         have HB := n7_
         clear n0_ n1_ n2_ n3_ n4_ n5_ n6_ n7_
         clear hb ho59
         obtain ⟨Ao60, co60, eo60⟩ := Kd.R_slice HO123.out
         (first | subst eo60 | (injection eo60 with f1_ f2_ f3_; have f4_ := f1_.symm; have f5_ := f3_.symm; clear f1_ f2_ f3_; subst f4_; subst f5_))
         refine hK.out _ _ ⟨(blk_cell BK109.out 0).trans rfl, (blk_cell BK109.out 1).trans rfl⟩ (fun hHeld => ?_)
         clear hK K
         refine norm_ (a' := ?_) ?_ ?_
         rotate_left
         ·show Act.put _ (some 55) _ = _
          simp only [Act.put, List.setIfInBounds_toArray, List.set_cons_zero, List.set_cons_succ, i64_w, i32_w]
          rfl
         refine one_ (i := 5) (N := some 56) #[true, true, true, true, true, true, false, false, false] rfl rfl (one_of HT_.out (by kernel_rfl)) (by decide) (fun K hK => ?_)
         refine goes_ Tryd.func85 (by kernel_rfl) rfl #[.pointer (some ⟨g, 0, none⟩), .slice Ao60 y121.length co60] (by rfl) rfl rfl q37_8 ?_
         with_reducible refine (spec_l17Rd_of.calls kj3 g s0_0 t115 _ _ y121 t124 t125 w0 _ ?side1 ?side2 ?side3 ?side4 ?side5 A51.out).mono ?_
         (case side1 => repeat (first | (with_reducible first | exact HI0.out | apply IsS132.alloc | apply IsS132.drewN | apply IsS132.drew | apply IsS132.set_1 | refine IsS132.far ?_ NB0_101.out _ | refine IsS132.far ?_ NB0_102.out _ | refine IsS132.far ?_ NB0_109.out _) | exact HI0.out))
         (case side2 => repeat (first | (with_reducible first | exact HB.out | apply below_alloc | apply pw_below_drewN | apply below_drew1 | refine below_set ?_ (IsS132.ge HI0.out) | refine below_set ?_ GE101.out | refine below_set ?_ GE102.out | refine below_set ?_ GE109.out) | exact HB.out))
         (case side3 => repeat (first | exact (Kd.R_reads' HO123.out).2.2 | (with_reducible refine Kd.C_alloc ?_ _) | (with_reducible refine Kd.C_drewN ?_ _) | (with_reducible refine Kd.C_drew ?_)))
         (case side4 => exact (Kd.R_reads' HO123.out).2.1)
         (case side5 => exact far_slice (IsS132.own_ne HI0.out HO123.out (by decide)))
         rintro e w61 ⟨rfl, hi, hb, hk⟩
         refine ⟨_, rfl, ?_⟩
         have n0_ := Aside0.mk (Kd.R_mono (Kd.R_keep (IsS132.apart (show IsS132 w0 _ g s0_0 t115 from by repeat (first | (with_reducible first | exact HI0.out | apply IsS132.alloc | apply IsS132.drewN | apply IsS132.drew | apply IsS132.set_1 | refine IsS132.far ?_ NB0_101.out _ | refine IsS132.far ?_ NB0_102.out _ | refine IsS132.far ?_ NB0_109.out _) | exact HI0.out)) q37_9 (by decide)) hk (fun _ h => h.2)) (fun _ h => h.1))
         have n1_ := Aside0.mk (KeepBut.blk hk (g' := gb101) (o := .cells #[.string a1_0, .slice A1_1 l1_1.length c1_1] 25 (0, 0)) q37_2 NB101_0.out (by simp))
         have n2_ := Aside0.mk (KeepBut.blk hk (g' := gb102) (o := .cells #[.string (⟨#[]⟩ : ByteArray), .slice none 0 0] 25 (0, 0)) q37_3 NB102_0.out (by simp))
         have n3_ := Aside0.mk (KeepBut.blk hk (g' := gb109) (o := .cells #[.string a1_0, .slice Ao14 y106.length co14] 25 (0, 0)) q37_4 NB109_0.out (by simp))
         have n4_ := Aside0.mk (Kd.R_mono (Kd.R_keep (IsS132.apart (show IsS132 w0 _ g s0_0 t115 from by repeat (first | (with_reducible first | exact HI0.out | apply IsS132.alloc | apply IsS132.drewN | apply IsS132.drew | apply IsS132.set_1 | refine IsS132.far ?_ NB0_101.out _ | refine IsS132.far ?_ NB0_102.out _ | refine IsS132.far ?_ NB0_109.out _) | exact HI0.out)) (by (with_reducible repeat (first | apply Kd.R_alloc | apply Kd.R_drewN | apply Kd.R_drew)); exact HO123.out) (by decide)) hk (fun _ h => h.2)) (fun _ h => h.1))
         have n5_ := Aside0.mk (KeepBut.trans q37_1 hk (.inl rfl))
         have n6_ := Aside0.mk (hb)
         have n7_ := Aside0.mk (hi)
         clear HO_110001
         clear BK101
         clear BK102
         clear BK109
         clear HO123
         clear HK
         clear HB
         clear HI0
         have HO_110001 := n0_
         have BK101 := n1_
         have BK102 := n2_
         have BK109 := n3_
         have HO123 := n4_
         have HK := n5_
         have HB := n6_
         have HI0 := n7_
         clear n0_ n1_ n2_ n3_ n4_ n5_ n6_ n7_
         (try clear hb)
         (try clear hb2)
         (try clear hk)
         (try clear hi)
         have p54 : 0 ≤ (t112 : Int) := of_decide_eq_true (by first | (with_reducible assumption) | assumption)
         have q54 : (t112 : Int) < ((y106.length : Int) : Int) := of_decide_eq_true (by first | (with_reducible assumption) | assumption)
         obtain ⟨go54, co54, eo54, gb54, gl54, cl54, HG54⟩ := Kd.R_form HO_110001.out (by omega)
         (first | cases eo54 | (injection eo54 with ea_ en_ ec_; (first | subst ea_ | (injection ea_ with ea_; subst ea_)); subst ec_; clear en_))
         have GB54 := Aside0.mk gb54
         have GG54 := Aside0.mk HG54
         clear gb54 gl54 HG54
         obtain ⟨ce54, hcl54, hM54, hcc54, hfr54⟩ := Kd.R_elem HO_110001.out z46 (t112 : Int) p54 q54
         obtain rfl := k46_openM hM54
         have hx54_0 : World.cell? _ ⟨go54, (t112 : Int).toNat * 2, none⟩ = some (.string ((rd_T46 y106 t112).f0)) := hcc54 0 _ rfl
         have hx54_1 : World.cell? _ ⟨go54, (t112 : Int).toNat * 2 + 1, none⟩ = some (.string ((rd_T46 y106 t112).f1)) := hcc54 1 _ rfl
         have hf54_0 : World.frozen? _ ⟨go54, (t112 : Int).toNat * 2, none⟩ = false := hfr54 0
         have hf54_1 : World.frozen? _ ⟨go54, (t112 : Int).toNat * 2 + 1, none⟩ = false := hfr54 1
         clear hcl54 hcc54 hfr54 hM54
         replace p54 := eq_true p54
         replace q54 := eq_true q54
         have HN0_go54 := Aside0.mk (show g ≠ go54 from by have h_ := IsS132.own_ne HI0.out HO_110001.out (by decide); intro e_; exact h_ (by rw [e_]; rfl))
         obtain ⟨ce62, hcl62, hM62, hcc62, hfr62⟩ := Kd.R_elem HO_110001.out z46 (t112 : Int) (of_decide_eq_true (by first | (with_reducible assumption) | assumption)) (by have h_ : (t112 : Int) < ((y106.length : Int) : Int) := of_decide_eq_true (by first | (with_reducible assumption) | assumption); first | exact h_ | (have e_ := (Kd.R_reads' HO_110001.out).1; omega) | simpa using h_)
         obtain rfl := k46_openM hM62
         have HP62 := (Kd.R_seg HO_110001.out (t112 : Int) (of_decide_eq_true (by first | (with_reducible assumption) | assumption)) (by have h_ : (t112 : Int) < ((y106.length : Int) : Int) := of_decide_eq_true (by first | (with_reducible assumption) | assumption); first | exact h_ | (have e_ := (Kd.R_reads' HO_110001.out).1; omega) | simpa using h_) (seg := [.string t124]) (j := 0) hcl62 hcc62 (show 1 ≤ 2 from by decide) (x' := (⟨t124, (rd_T46 y106 t112).f1⟩ : S46)) (k46_mkM _ _ _ (⟨t124, (rd_T46 y106 t112).f1⟩ : S46) ) (fun _ hk => hk)).1
         rw [← Ny126.out] at HP62
         have HQ62 := Aside0.mk HP62
         clear hcl62 hcc62 hfr62 hM62 HP62
         refine hK.out _ _ ⟨(blk_cell BK109.out 0).trans rfl, (blk_cell BK109.out 1).trans rfl⟩ (fun hHeld => ?_)
         clear hK K
         refine norm_ (a' := ?_) ?_ ?_
         rotate_left
         ·show Act.put _ (some 56) _ = _
          simp only [Act.put, List.setIfInBounds_toArray, List.set_cons_zero, List.set_cons_succ, i64_w, i32_w]
          rfl
         refine pure_ (i := 6) (N := some 57) (v := ?_) (a' := ?_) #[true, true, true, true, true, true, true, false, false] rfl rfl (any_of HT_.out (by kernel_rfl)) (fun _ _ _ h => h) (Or.inl ⟨by rfl, ?_⟩) ?_ ?_
         rotate_left
         ·intro w'
          go_simp
          with_reducible rfl
         rotate_left
         ·simp only [Act.put, List.setIfInBounds_toArray, List.set_cons_zero, List.set_cons_succ, i64_w, i32_w]
          rfl
         refine pure_ (i := 7) (N := some 58) (v := ?_) (a' := ?_) #[true, true, true, true, true, true, true, true, false] rfl rfl (any_of HT_.out (by kernel_rfl)) (fun _ _ _ h => h) (Or.inl ⟨by rfl, ?_⟩) ?_ ?_
         rotate_left
         ·intro w'
          go_simp
          with_reducible rfl
         rotate_left
         ·simp only [Act.put, List.setIfInBounds_toArray, List.set_cons_zero, List.set_cons_succ, i64_w, i32_w]
          rfl
         refine last_ (i := 8) (N := none) #[true, true, true, true, true, true, true, true, true] rfl rfl (one_of HT_.out (by kernel_rfl)) (by decide) (fun K hK => ?_)
         refine skip_ (w1 := ?_) (by rfl) rfl ?_ ?_
         rotate_left
         ·go_simp
          rfl
         refine hK.out _ _ ?_
         clear hK K
         refine done_ (done_of HT_.out (by kernel_rfl)) ?_
         have n0_ : Aside0 (Kd.R k46 46 (w61.setCell ⟨go54, (t112 : Int).toNat * 2, none⟩ (.string t124)) w.heap.size (fun _ => True) (.slice (some ⟨go54, 0, none⟩) y106.length co14) y126) := ⟨by (with_reducible repeat (first | apply Kd.R_alloc | apply Kd.R_drewN | apply Kd.R_drew)); exact HQ62.out⟩
         have n1_ : Aside0 (Kd.R Kd.string 9 (w61.setCell ⟨go54, (t112 : Int).toNat * 2, none⟩ (.string t124)) w.heap.size (fun _ => True) (.slice Ao60 y121.length co60) y121) := ⟨by (with_reducible repeat (first | apply Kd.R_alloc | apply Kd.R_drewN | apply Kd.R_drew)); exact Kd.R_mono (Kd.R_far (p := ⟨go54, (t112 : Int).toNat * 2, none⟩) (Kd.R_types HO123.out GG54.out (by decide)) (fun _ hk => hk.2) (.string t124)) (fun _ hk => trivial)⟩
         have n2_ : Aside0 ((w61.setCell ⟨go54, (t112 : Int).toNat * 2, none⟩ (.string t124)).heap[gb101]? = some (.cells #[.string a1_0, .slice A1_1 l1_1.length c1_1] 25 (0, 0))) := ⟨by (with_reducible repeat (first | refine blk_drewN ?_ _ | refine blk_drew ?_ | refine blk_alloc ?_ _)); refine blk_far ?_ q37_22 _; (with_reducible repeat (first | refine blk_drewN ?_ _ | refine blk_drew ?_ | refine blk_alloc ?_ _)); exact BK101.out⟩
         have n3_ : Aside0 ((w61.setCell ⟨go54, (t112 : Int).toNat * 2, none⟩ (.string t124)).heap[gb102]? = some (.cells #[.string (⟨#[]⟩ : ByteArray), .slice none 0 0] 25 (0, 0))) := ⟨by (with_reducible repeat (first | refine blk_drewN ?_ _ | refine blk_drew ?_ | refine blk_alloc ?_ _)); refine blk_far ?_ q37_23 _; (with_reducible repeat (first | refine blk_drewN ?_ _ | refine blk_drew ?_ | refine blk_alloc ?_ _)); exact BK102.out⟩
         have n4_ : Aside0 ((w61.setCell ⟨go54, (t112 : Int).toNat * 2, none⟩ (.string t124)).heap[gb109]? = some (.cells #[.string a1_0, .slice (some ⟨go54, 0, none⟩) y106.length co14] 25 (0, 0))) := ⟨by (with_reducible repeat (first | refine blk_drewN ?_ _ | refine blk_drew ?_ | refine blk_alloc ?_ _)); refine blk_far ?_ q37_24 _; (with_reducible repeat (first | refine blk_drewN ?_ _ | refine blk_drew ?_ | refine blk_alloc ?_ _)); exact BK109.out⟩
         have n5_ : Aside0 (IsS132 w0 (w61.setCell ⟨go54, (t112 : Int).toNat * 2, none⟩ (.string t124)) g s0_0 t125) := ⟨by repeat (first | (with_reducible first | exact HI0.out | apply IsS132.alloc | apply IsS132.drewN | apply IsS132.drew | apply IsS132.set_1 | refine IsS132.far ?_ HN0_go54.out _ | refine IsS132.far ?_ NB0_101.out _ | refine IsS132.far ?_ NB0_102.out _ | refine IsS132.far ?_ NB0_109.out _) | exact HI0.out)⟩
         have n6_ : Aside0 (KeepBut w (w61.setCell ⟨go54, (t112 : Int).toNat * 2, none⟩ (.string t124)) g none) := ⟨by repeat (first | (with_reducible first | exact HK.out | apply KeepBut.set_ | apply keep_drewN | apply keep_drew | apply keep_alloc | refine keep_far ?_ GB54.out _ | refine keep_far ?_ GW101.out _ | refine keep_far ?_ GW102.out _ | refine keep_far ?_ GW109.out _) | exact HK.out)⟩
         have n7_ : Aside0 (Below w0.heap.size w0 (w61.setCell ⟨go54, (t112 : Int).toNat * 2, none⟩ (.string t124))) := ⟨by repeat (first | (with_reducible first | exact HB.out | apply below_alloc | apply pw_below_drewN | apply below_drew1 | refine below_set ?_ (Nat.le_trans HL.out GB54.out) | refine below_set ?_ (IsS132.ge HI0.out) | refine below_set ?_ GE101.out | refine below_set ?_ GE102.out | refine below_set ?_ GE109.out) | exact HB.out)⟩
         (try clear HO_110001)
         (try clear HO123)
         (try clear BK101)
         (try clear BK102)
         (try clear BK109)
         (try clear HI0)
         (try clear HK)
         (try clear HB)
         generalize (w61.setCell ⟨go54, (t112 : Int).toNat * 2, none⟩ (.string t124)) = w63 at n0_ n1_ n2_ n3_ n4_ n5_ n6_ n7_ ⊢
         have HO_110001 := n0_
         have HO123 := n1_
         have BK101 := n2_
         have BK102 := n3_
         have BK109 := n4_
         have HI0 := n5_
         have HK := n6_
         have HB := n7_
         clear n0_ n1_ n2_ n3_ n4_ n5_ n6_ n7_
         have hnb64 := NB109_101.out
         have hnc64 := NB101_109.out
         have hnb65 := NB109_102.out
         have hnc65 := NB102_109.out
         have hnb66 := NB109_0.out
         have hnc66 := NB0_109.out
         have hcz67_0 : w63.cell? ⟨gb109, 0, none⟩ = some (.string a1_0) := (blk_cell BK109.out 0).trans rfl
         have hcz67_1 : w63.cell? ⟨gb109, 1, none⟩ = some (.slice (some ⟨go54, 0, none⟩) y106.length co14) := (blk_cell BK109.out 1).trans rfl
         have hfz67_0 := blk_frozen BK109.out 0
         have hfz67_1 := blk_frozen BK109.out 1
         have hnb68 := NB102_101.out
         have hnc68 := NB101_102.out
         have hnb69 := NB102_0.out
         have hnc69 := NB0_102.out
         have hcz70_0 : w63.cell? ⟨gb102, 0, none⟩ = some (.string (⟨#[]⟩ : ByteArray)) := (blk_cell BK102.out 0).trans rfl
         have hcz70_1 : w63.cell? ⟨gb102, 1, none⟩ = some (.slice none 0 0) := (blk_cell BK102.out 1).trans rfl
         have hfz70_0 := blk_frozen BK102.out 0
         have hfz70_1 := blk_frozen BK102.out 1
         try go_wp2
         refine bodyPost_ret (results_cell_row rfl _ _ gb102 25 #[.string a1_0, .slice (some ⟨go54, 0, none⟩) y106.length co14] (0, 0) _ rfl q37_10 Tryd.underlying25 rfl (by kernel_rfl)) rfl ?_
         exact ⟨_, by first | rfl | (simp [errW_none, errW_some] <;> rfl) | (simp [*, errW_none, errW_some] <;> rfl), by (with_reducible repeat (first | apply Kd.R_alloc | apply Kd.R_drewN | apply Kd.R_drew)); exact Kd.R_mono (Kd.R_far (p := ⟨gb102, 1, none⟩) (Kd.R_far (p := ⟨gb102, 0, none⟩) (Kd.R_types HO_110001.out BK102.out (by decide)) (fun _ hk => hk.2) (.string a1_0)) (fun _ hk => hk.2) (.slice (some ⟨go54, 0, none⟩) y106.length co14)) (fun _ hk => trivial), by repeat (first | (with_reducible first | exact HI0.out | apply IsS132.alloc | apply IsS132.drewN | apply IsS132.drew | apply IsS132.set_1 | refine IsS132.far ?_ NB0_101.out _ | refine IsS132.far ?_ NB0_102.out _ | refine IsS132.far ?_ NB0_109.out _) | exact HI0.out), by repeat (first | (with_reducible first | exact HB.out | apply below_alloc | apply pw_below_drewN | apply below_drew1 | refine below_set ?_ (IsS132.ge HI0.out) | refine below_set ?_ GE101.out | refine below_set ?_ GE102.out | refine below_set ?_ GE109.out) | exact HB.out), by repeat (first | (with_reducible first | exact HK.out | apply KeepBut.set_ | apply keep_drewN | apply keep_drew | apply keep_alloc | refine keep_far ?_ GW101.out _ | refine keep_far ?_ GW102.out _ | refine keep_far ?_ GW109.out _) | exact HK.out)⟩
        ·rw [if_neg c53] at H
         exact absurd H (by simp)
       ·rw [if_neg c52] at H
        exact absurd H (by simp)
      ·rw [if_neg c50] at H
       have c50b0 : (t114 == 1) = false := beq_eq_false_iff_ne.mpr c50
       have c50b1 : (t114 != 1) = true := bne_iff_ne.mpr c50
       by_cases c71 : t114 = 2
       ·rw [if_pos c71] at H
        have c71b0 : (t114 == 2) = true := beq_iff_eq.mpr c71
        have c71b1 : (t114 != 2) = false := bne_eq_false_iff_eq.mpr c71
        clear c71
        obtain ⟨y127, hy127⟩ : ∃ y_ : List ByteArray, y_ = (([(⟨#[97, 97, 97, 97, 97]⟩ : ByteArray), (⟨#[101]⟩ : ByteArray), (⟨#[32]⟩ : ByteArray), (⟨#[97, 62]⟩ : ByteArray), (⟨#[70]⟩ : ByteArray)] : List ByteArray)) := ⟨_, rfl⟩
        replace H : ((spec_l17Rd_of.f kj3 s0_0 t115 y127).bind fun bt130 => (if 0 ≤ t112 then (if t112 < (y106.length : Int) then (some (a1_0, (y106.set (t112 : Int).toNat (⟨(rd_T46 y106 t112).f0, bt130.1⟩ : S46)), bt130.2)) else (none)) else (none))) = some (r1, r2, r3) := by first | (rw [hy127]; with_reducible exact H) | (have H2_ := (Option.bind_some _ _).symm.trans H; rw [hy127]; with_reducible exact H2_) | (have H2_ := (Option.bind_some _ _).symm.trans H; with_reducible exact H2_) | with_reducible exact H | (rw [hy127]; exact H) | exact H
        have Ny127 := Aside0.mk hy127
        clear hy127
        replace H := Option.bind_eq_some_iff.mp H
        obtain ⟨⟨t130, t131⟩, A720, H⟩ := H
        replace H : (if 0 ≤ t112 then (if t112 < (y106.length : Int) then (some (a1_0, (y106.set (t112 : Int).toNat (⟨(rd_T46 y106 t112).f0, t130⟩ : S46)), t131)) else (none)) else (none)) = some (r1, r2, r3) := H
        have A72 := Aside0.mk A720
        clear A720
        by_cases c73 : 0 ≤ t112
        ·rw [if_pos c73] at H
         have c73b0 : decide (0 ≤ t112) = true := decide_eq_true c73
         clear c73
         by_cases c74 : t112 < (y106.length : Int)
         ·rw [if_pos c74] at H
          have c74b0 : decide (t112 < (y106.length : Int)) = true := decide_eq_true c74
          clear c74
          obtain ⟨y132, hy132⟩ : ∃ y_ : List (S46), y_ = (y106.set (t112 : Int).toNat (⟨(rd_T46 y106 t112).f0, t130⟩ : S46)) := ⟨_, rfl⟩
          replace H : (some (a1_0, y132, t131)) = some (r1, r2, r3) := by first | (rw [hy132]; with_reducible exact H) | (have H2_ := (Option.bind_some _ _).symm.trans H; rw [hy132]; with_reducible exact H2_) | (have H2_ := (Option.bind_some _ _).symm.trans H; with_reducible exact H2_) | with_reducible exact H | (rw [hy132]; exact H) | exact H
          have Ny132 := Aside0.mk hy132
          clear hy132
          simp only [Option.some.injEq, Prod.mk.injEq] at H
          obtain ⟨rfl, rfl, rfl⟩ := H
          try go_wp2_with (first | ((with_reducible refine gate_callee (f := 84) rfl ?_); refine goesL_ (some 28) rfl rfl Tryd.func84 (by kernel_rfl) rfl #[.pointer (some ⟨g, 0, none⟩), .int .i64 (y106.length : Int)] rfl q37_8 ?_; (with_reducible refine (spec_l17Rd_pick.calls kj3 g s0_0 x1001_3 (y106.length : Int) t112 t113 w0 _ ?side1 ?side2 A33.out).mono ?_); (case side1 => repeat (first | (with_reducible first | exact HI0.out | apply IsS132.alloc | apply IsS132.drewN | apply IsS132.drew | apply IsS132.set_1 | refine IsS132.far ?_ NB0_101.out _ | refine IsS132.far ?_ NB0_102.out _ | refine IsS132.far ?_ NB0_109.out _) | exact HI0.out)); (case side2 => repeat (first | (with_reducible first | exact HB.out | apply below_alloc | apply pw_below_drewN | apply below_drew1 | refine below_set ?_ (IsS132.ge HI0.out) | refine below_set ?_ GE101.out | refine below_set ?_ GE102.out | refine below_set ?_ GE109.out) | exact HB.out)); rintro e w76 ⟨rfl, hi, hb, hk⟩; refine ⟨_, rfl, ?_⟩; have n0_ := Aside0.mk (Kd.R_mono (Kd.R_keep (IsS132.apart (show IsS132 w0 _ g s0_0 x1001_3 from by repeat (first | (with_reducible first | exact HI0.out | apply IsS132.alloc | apply IsS132.drewN | apply IsS132.drew | apply IsS132.set_1 | refine IsS132.far ?_ NB0_101.out _ | refine IsS132.far ?_ NB0_102.out _ | refine IsS132.far ?_ NB0_109.out _) | exact HI0.out)) q37_9 (by decide)) hk (fun _ h => h.2)) (fun _ h => h.1)); have n1_ := Aside0.mk (KeepBut.blk hk (g' := gb101) (o := .cells #[.string a1_0, .slice A1_1 l1_1.length c1_1] 25 (0, 0)) q37_2 NB101_0.out (by simp)); have n2_ := Aside0.mk (KeepBut.blk hk (g' := gb102) (o := .cells #[.string (⟨#[]⟩ : ByteArray), .slice none 0 0] 25 (0, 0)) q37_3 NB102_0.out (by simp)); have n3_ := Aside0.mk (KeepBut.blk hk (g' := gb109) (o := .cells #[.string a1_0, .slice Ao14 y106.length co14] 25 (0, 0)) q37_4 NB109_0.out (by simp)); have n4_ := Aside0.mk (KeepBut.trans q37_1 hk (.inl rfl)); have n5_ := Aside0.mk (hb); have n6_ := Aside0.mk (hi); clear HO_110001; clear BK101; clear BK102; clear BK109; clear HK; clear HB; clear HI0; have HO_110001 := n0_; have BK101 := n1_; have BK102 := n2_; have BK109 := n3_; have HK := n4_; have HB := n5_; have HI0 := n6_; clear n0_ n1_ n2_ n3_ n4_ n5_ n6_; (try clear hb); (try clear hb2); (try clear hk); (try clear hi)) | ((with_reducible refine gate_callee (f := 84) rfl ?_); refine goesL_ (some 30) rfl rfl Tryd.func84 (by kernel_rfl) rfl #[.pointer (some ⟨g, 0, none⟩), .int .i64 5] rfl q37_8 ?_; (with_reducible refine (spec_l17Rd_pick.calls kj3 g s0_0 t113 5 t114 t115 w0 _ ?side1 ?side2 A34.out).mono ?_); (case side1 => repeat (first | (with_reducible first | exact HI0.out | apply IsS132.alloc | apply IsS132.drewN | apply IsS132.drew | apply IsS132.set_1 | refine IsS132.far ?_ NB0_101.out _ | refine IsS132.far ?_ NB0_102.out _ | refine IsS132.far ?_ NB0_109.out _) | exact HI0.out)); (case side2 => repeat (first | (with_reducible first | exact HB.out | apply below_alloc | apply pw_below_drewN | apply below_drew1 | refine below_set ?_ (IsS132.ge HI0.out) | refine below_set ?_ GE101.out | refine below_set ?_ GE102.out | refine below_set ?_ GE109.out) | exact HB.out)); rintro e w77 ⟨rfl, hi, hb, hk⟩; refine ⟨_, rfl, ?_⟩; have n0_ := Aside0.mk (Kd.R_mono (Kd.R_keep (IsS132.apart (show IsS132 w0 _ g s0_0 t113 from by repeat (first | (with_reducible first | exact HI0.out | apply IsS132.alloc | apply IsS132.drewN | apply IsS132.drew | apply IsS132.set_1 | refine IsS132.far ?_ NB0_101.out _ | refine IsS132.far ?_ NB0_102.out _ | refine IsS132.far ?_ NB0_109.out _) | exact HI0.out)) q37_9 (by decide)) hk (fun _ h => h.2)) (fun _ h => h.1)); have n1_ := Aside0.mk (KeepBut.blk hk (g' := gb101) (o := .cells #[.string a1_0, .slice A1_1 l1_1.length c1_1] 25 (0, 0)) q37_2 NB101_0.out (by simp)); have n2_ := Aside0.mk (KeepBut.blk hk (g' := gb102) (o := .cells #[.string (⟨#[]⟩ : ByteArray), .slice none 0 0] 25 (0, 0)) q37_3 NB102_0.out (by simp)); have n3_ := Aside0.mk (KeepBut.blk hk (g' := gb109) (o := .cells #[.string a1_0, .slice Ao14 y106.length co14] 25 (0, 0)) q37_4 NB109_0.out (by simp)); have n4_ := Aside0.mk (KeepBut.trans q37_1 hk (.inl rfl)); have n5_ := Aside0.mk (hb); have n6_ := Aside0.mk (hi); clear HO_110001; clear BK101; clear BK102; clear BK109; clear HK; clear HB; clear HI0; have HO_110001 := n0_; have BK101 := n1_; have BK102 := n2_; have BK109 := n3_; have HK := n4_; have HB := n5_; have HI0 := n6_; clear n0_ n1_ n2_ n3_ n4_ n5_ n6_; (try clear hb); (try clear hb2); (try clear hk); (try clear hi)))
          have n0_ := Aside0.mk (Kd.R_drew HO_110001.out)
          have n1_ := Aside0.mk (blk_drew BK101.out)
          have n2_ := Aside0.mk (blk_drew BK102.out)
          have n3_ := Aside0.mk (blk_drew BK109.out)
          have n4_ := Aside0.mk (IsS132.drew HI0.out)
          have n5_ := Aside0.mk (keep_drew HK.out)
          have n6_ := Aside0.mk (below_drew1 HB.out)
          clear HO_110001
          clear BK101
          clear BK102
          clear BK109
          clear HI0
          clear HK
          clear HB
          have HO_110001 := n0_
          have BK101 := n1_
          have BK102 := n2_
          have BK109 := n3_
          have HI0 := n4_
          have HK := n5_
          have HB := n6_
          clear n0_ n1_ n2_ n3_ n4_ n5_ n6_
          refine start_ (n := 9) (S := fun w' => w'.cell? ⟨gb109, 0, none⟩ = some (.string a1_0) ∧ w'.cell? ⟨gb109, 1, none⟩ = some (.slice Ao14 y106.length co14)) (ds := [8]) #[false, false, false, false, false, false, false, false, false] (by kernel_rfl) rfl rfl ⟨(blk_cell BK109.out 0).trans rfl, (blk_cell BK109.out 1).trans rfl⟩ (fun hHeld => ?_); refine with_tabW spec_l1Bent.tab14 spec_l1Bent.bits14 (fun HT_ HW_ => ?_)
          generalize w77.drew = w78 at HO_110001 BK101 BK102 BK109 HI0 HK HB hHeld ⊢
          refine pure_ (i := 0) (N := some 61) (v := ?_) (a' := ?_) #[true, false, false, false, false, false, false, false, false] rfl rfl (any_of HT_.out (by kernel_rfl)) (fun _ _ _ h => h) (Or.inl ⟨by rfl, ?_⟩) ?_ ?_
          rotate_left
          ·intro w'
           go_simp
           with_reducible rfl
          rotate_left
          ·simp only [Act.put, List.setIfInBounds_toArray, List.set_cons_zero, List.set_cons_succ, i64_w, i32_w]
           rfl
          refine pure_ (i := 2) (N := some 63) (v := ?_) (a' := ?_) #[true, false, true, false, false, false, false, false, false] rfl rfl (any_of HT_.out (by kernel_rfl)) (fun _ _ _ h => h) (Or.inl ⟨by rfl, ?_⟩) ?_ ?_
          rotate_left
          ·intro w'
           go_simp
           with_reducible rfl
          rotate_left
          ·simp only [Act.put, List.setIfInBounds_toArray, List.set_cons_zero, List.set_cons_succ, i64_w, i32_w]
           rfl
          refine pure_ (i := 3) (N := some 64) (v := ?_) (a' := ?_) #[true, false, true, true, false, false, false, false, false] rfl rfl (any_of HT_.out (by kernel_rfl)) (fun _ _ _ h => h) (Or.inl ⟨by rfl, ?_⟩) ?_ ?_
          rotate_left
          ·intro w'
           go_simp
           with_reducible rfl
          rotate_left
          ·simp only [Act.put, List.setIfInBounds_toArray, List.set_cons_zero, List.set_cons_succ, i64_w, i32_w]
           rfl
          refine take_ (i := 1) (N := some 62) (v := ?_) (a' := ?_) #[true, true, true, true, false, false, false, false, false] rfl rfl (take_ofW HT_.out HW_.out (by kernel_rfl)) (fun _ _ _ h => h) (Or.inl ⟨by rfl, ?_⟩) hHeld ?_ ?_
          rotate_left
          ·rintro w' ⟨s0, s1⟩
           go_simp
           with_reducible rfl
          rotate_left
          ·simp only [Act.put, List.setIfInBounds_toArray, List.set_cons_zero, List.set_cons_succ, i64_w, i32_w]
           rfl
          refine one_ (i := 4) (N := some 65) #[true, true, true, true, true, false, false, false, false] rfl rfl (one_of HT_.out (by kernel_rfl)) (by decide) (fun K hK => ?_)
          refine Kd.R_lit_step Kd.string _ 9 ?hg (N := 65) ?hd (xs := ([(⟨#[97, 97, 97, 97, 97]⟩ : ByteArray), (⟨#[101]⟩ : ByteArray), (⟨#[32]⟩ : ByteArray), (⟨#[97, 62]⟩ : ByteArray), (⟨#[70]⟩ : ByteArray)] : List ByteArray)) (inner := [.string (⟨#[97, 97, 97, 97, 97]⟩ : ByteArray), .string (⟨#[101]⟩ : ByteArray), .string (⟨#[32]⟩ : ByteArray), .string (⟨#[97, 62]⟩ : ByteArray), .string (⟨#[70]⟩ : ByteArray)]) (ok := fun _ => True) (okp := fun _ => True) ?hr ?hp (fun _ hk => hk) trivial (Below.refl _ _) (Nat.le_refl _) (by simp) ?_; (case hd => rfl); (case hg => rfl); (case hr => first | (go_simp; done) | (go_simp; rfl)); (case hp => exact (Reps.one (show Kd.M Kd.string _ _ _ (⟨#[97, 97, 97, 97, 97]⟩ : ByteArray) [.string (⟨#[97, 97, 97, 97, 97]⟩ : ByteArray)] from rfl) (Reps.one (show Kd.M Kd.string _ _ _ (⟨#[101]⟩ : ByteArray) [.string (⟨#[101]⟩ : ByteArray)] from rfl) (Reps.one (show Kd.M Kd.string _ _ _ (⟨#[32]⟩ : ByteArray) [.string (⟨#[32]⟩ : ByteArray)] from rfl) (Reps.one (show Kd.M Kd.string _ _ _ (⟨#[97, 62]⟩ : ByteArray) [.string (⟨#[97, 62]⟩ : ByteArray)] from rfl) (Reps.one (show Kd.M Kd.string _ _ _ (⟨#[70]⟩ : ByteArray) [.string (⟨#[70]⟩ : ByteArray)] from rfl) (Reps.none _ _)))))))
          intro v128 w79 ho80 hb hg_ hnew_
          clear hg_ hnew_
          (first | rw [← Ny127.out] at ho80 | (simp only [Int.reduceToNat] at ho80; rw [← Ny127.out] at ho80))
          have n0_ := Aside0.mk (Kd.R_below q37_9 hb)
          have n1_ := Aside0.mk (Kd.R_lower ho80 (keep_size (w := w) (g := g) (row := none) q37_1))
          have n2_ := Aside0.mk (blk_below (g := gb101) (o := .cells #[.string a1_0, .slice A1_1 l1_1.length c1_1] 25 (0, 0)) q37_2 hb)
          have n3_ := Aside0.mk (blk_below (g := gb102) (o := .cells #[.string (⟨#[]⟩ : ByteArray), .slice none 0 0] 25 (0, 0)) q37_3 hb)
          have n4_ := Aside0.mk (blk_below (g := gb109) (o := .cells #[.string a1_0, .slice Ao14 y106.length co14] 25 (0, 0)) q37_4 hb)
          have n5_ := Aside0.mk (IsS132.below q37_7 hb)
          have n6_ := Aside0.mk (KeepBut.trans q37_1 (KeepBut.of_below hb g none) (.inl rfl))
          have n7_ := Aside0.mk (below_step q37_6 hb)
          clear HO_110001
          clear BK101
          clear BK102
          clear BK109
          clear HI0
          clear HK
          clear HB
          have HO_110001 := n0_
          have HO129 := n1_
          have BK101 := n2_
          have BK102 := n3_
          have BK109 := n4_
          have HI0 := n5_
          have HK := n6_
          have HB := n7_
          clear n0_ n1_ n2_ n3_ n4_ n5_ n6_ n7_
          clear hb ho80
          obtain ⟨Ao81, co81, eo81⟩ := Kd.R_slice HO129.out
          (first | subst eo81 | (injection eo81 with f1_ f2_ f3_; have f4_ := f1_.symm; have f5_ := f3_.symm; clear f1_ f2_ f3_; subst f4_; subst f5_))
          refine hK.out _ _ ⟨(blk_cell BK109.out 0).trans rfl, (blk_cell BK109.out 1).trans rfl⟩ (fun hHeld => ?_)
          clear hK K
          refine norm_ (a' := ?_) ?_ ?_
          rotate_left
          ·show Act.put _ (some 65) _ = _
           simp only [Act.put, List.setIfInBounds_toArray, List.set_cons_zero, List.set_cons_succ, i64_w, i32_w]
           rfl
          refine one_ (i := 5) (N := some 66) #[true, true, true, true, true, true, false, false, false] rfl rfl (one_of HT_.out (by kernel_rfl)) (by decide) (fun K hK => ?_)
          refine goes_ Tryd.func85 (by kernel_rfl) rfl #[.pointer (some ⟨g, 0, none⟩), .slice Ao81 y127.length co81] (by rfl) rfl rfl q37_8 ?_
          with_reducible refine (spec_l17Rd_of.calls kj3 g s0_0 t115 _ _ y127 t130 t131 w0 _ ?side1 ?side2 ?side3 ?side4 ?side5 A72.out).mono ?_
          (case side1 => repeat (first | (with_reducible first | exact HI0.out | apply IsS132.alloc | apply IsS132.drewN | apply IsS132.drew | apply IsS132.set_1 | refine IsS132.far ?_ NB0_101.out _ | refine IsS132.far ?_ NB0_102.out _ | refine IsS132.far ?_ NB0_109.out _) | exact HI0.out))
          (case side2 => repeat (first | (with_reducible first | exact HB.out | apply below_alloc | apply pw_below_drewN | apply below_drew1 | refine below_set ?_ (IsS132.ge HI0.out) | refine below_set ?_ GE101.out | refine below_set ?_ GE102.out | refine below_set ?_ GE109.out) | exact HB.out))
          (case side3 => repeat (first | exact (Kd.R_reads' HO129.out).2.2 | (with_reducible refine Kd.C_alloc ?_ _) | (with_reducible refine Kd.C_drewN ?_ _) | (with_reducible refine Kd.C_drew ?_)))
          (case side4 => exact (Kd.R_reads' HO129.out).2.1)
          (case side5 => exact far_slice (IsS132.own_ne HI0.out HO129.out (by decide)))
          rintro e w82 ⟨rfl, hi, hb, hk⟩
          refine ⟨_, rfl, ?_⟩
          have n0_ := Aside0.mk (Kd.R_mono (Kd.R_keep (IsS132.apart (show IsS132 w0 _ g s0_0 t115 from by repeat (first | (with_reducible first | exact HI0.out | apply IsS132.alloc | apply IsS132.drewN | apply IsS132.drew | apply IsS132.set_1 | refine IsS132.far ?_ NB0_101.out _ | refine IsS132.far ?_ NB0_102.out _ | refine IsS132.far ?_ NB0_109.out _) | exact HI0.out)) q37_9 (by decide)) hk (fun _ h => h.2)) (fun _ h => h.1))
          have n1_ := Aside0.mk (KeepBut.blk hk (g' := gb101) (o := .cells #[.string a1_0, .slice A1_1 l1_1.length c1_1] 25 (0, 0)) q37_2 NB101_0.out (by simp))
          have n2_ := Aside0.mk (KeepBut.blk hk (g' := gb102) (o := .cells #[.string (⟨#[]⟩ : ByteArray), .slice none 0 0] 25 (0, 0)) q37_3 NB102_0.out (by simp))
          have n3_ := Aside0.mk (KeepBut.blk hk (g' := gb109) (o := .cells #[.string a1_0, .slice Ao14 y106.length co14] 25 (0, 0)) q37_4 NB109_0.out (by simp))
          have n4_ := Aside0.mk (Kd.R_mono (Kd.R_keep (IsS132.apart (show IsS132 w0 _ g s0_0 t115 from by repeat (first | (with_reducible first | exact HI0.out | apply IsS132.alloc | apply IsS132.drewN | apply IsS132.drew | apply IsS132.set_1 | refine IsS132.far ?_ NB0_101.out _ | refine IsS132.far ?_ NB0_102.out _ | refine IsS132.far ?_ NB0_109.out _) | exact HI0.out)) (by (with_reducible repeat (first | apply Kd.R_alloc | apply Kd.R_drewN | apply Kd.R_drew)); exact HO129.out) (by decide)) hk (fun _ h => h.2)) (fun _ h => h.1))
          have n5_ := Aside0.mk (KeepBut.trans q37_1 hk (.inl rfl))
          have n6_ := Aside0.mk (hb)
          have n7_ := Aside0.mk (hi)
          clear HO_110001
          clear BK101
          clear BK102
          clear BK109
          clear HO129
          clear HK
          clear HB
          clear HI0
          have HO_110001 := n0_
          have BK101 := n1_
          have BK102 := n2_
          have BK109 := n3_
          have HO129 := n4_
          have HK := n5_
          have HB := n6_
          have HI0 := n7_
          clear n0_ n1_ n2_ n3_ n4_ n5_ n6_ n7_
          (try clear hb)
          (try clear hb2)
          (try clear hk)
          (try clear hi)
          have p75 : 0 ≤ (t112 : Int) := of_decide_eq_true (by first | (with_reducible assumption) | assumption)
          have q75 : (t112 : Int) < ((y106.length : Int) : Int) := of_decide_eq_true (by first | (with_reducible assumption) | assumption)
          obtain ⟨go75, co75, eo75, gb75, gl75, cl75, HG75⟩ := Kd.R_form HO_110001.out (by omega)
          (first | cases eo75 | (injection eo75 with ea_ en_ ec_; (first | subst ea_ | (injection ea_ with ea_; subst ea_)); subst ec_; clear en_))
          have GB75 := Aside0.mk gb75
          have GG75 := Aside0.mk HG75
          clear gb75 gl75 HG75
          obtain ⟨ce75, hcl75, hM75, hcc75, hfr75⟩ := Kd.R_elem HO_110001.out z46 (t112 : Int) p75 q75
          obtain rfl := k46_openM hM75
          have hx75_0 : World.cell? _ ⟨go75, (t112 : Int).toNat * 2, none⟩ = some (.string ((rd_T46 y106 t112).f0)) := hcc75 0 _ rfl
          have hx75_1 : World.cell? _ ⟨go75, (t112 : Int).toNat * 2 + 1, none⟩ = some (.string ((rd_T46 y106 t112).f1)) := hcc75 1 _ rfl
          have hf75_0 : World.frozen? _ ⟨go75, (t112 : Int).toNat * 2, none⟩ = false := hfr75 0
          have hf75_1 : World.frozen? _ ⟨go75, (t112 : Int).toNat * 2 + 1, none⟩ = false := hfr75 1
          clear hcl75 hcc75 hfr75 hM75
          replace p75 := eq_true p75
          replace q75 := eq_true q75
          have HN0_go75 := Aside0.mk (show g ≠ go75 from by have h_ := IsS132.own_ne HI0.out HO_110001.out (by decide); intro e_; exact h_ (by rw [e_]; rfl))
          obtain ⟨ce83, hcl83, hM83, hcc83, hfr83⟩ := Kd.R_elem HO_110001.out z46 (t112 : Int) (of_decide_eq_true (by first | (with_reducible assumption) | assumption)) (by have h_ : (t112 : Int) < ((y106.length : Int) : Int) := of_decide_eq_true (by first | (with_reducible assumption) | assumption); first | exact h_ | (have e_ := (Kd.R_reads' HO_110001.out).1; omega) | simpa using h_)
          obtain rfl := k46_openM hM83
          have HP83 := (Kd.R_seg HO_110001.out (t112 : Int) (of_decide_eq_true (by first | (with_reducible assumption) | assumption)) (by have h_ : (t112 : Int) < ((y106.length : Int) : Int) := of_decide_eq_true (by first | (with_reducible assumption) | assumption); first | exact h_ | (have e_ := (Kd.R_reads' HO_110001.out).1; omega) | simpa using h_) (seg := [.string t130]) (j := 1) hcl83 hcc83 (show 2 ≤ 2 from by decide) (x' := (⟨(rd_T46 y106 t112).f0, t130⟩ : S46)) (k46_mkM _ _ _ (⟨(rd_T46 y106 t112).f0, t130⟩ : S46) ) (fun _ hk => hk)).1
          rw [← Ny132.out] at HP83
          have HQ83 := Aside0.mk HP83
          clear hcl83 hcc83 hfr83 hM83 HP83
          refine hK.out _ _ ⟨(blk_cell BK109.out 0).trans rfl, (blk_cell BK109.out 1).trans rfl⟩ (fun hHeld => ?_)
          clear hK K
          refine norm_ (a' := ?_) ?_ ?_
          rotate_left
          ·show Act.put _ (some 66) _ = _
           simp only [Act.put, List.setIfInBounds_toArray, List.set_cons_zero, List.set_cons_succ, i64_w, i32_w]
           rfl
          refine pure_ (i := 6) (N := some 67) (v := ?_) (a' := ?_) #[true, true, true, true, true, true, true, false, false] rfl rfl (any_of HT_.out (by kernel_rfl)) (fun _ _ _ h => h) (Or.inl ⟨by rfl, ?_⟩) ?_ ?_
          rotate_left
          ·intro w'
           go_simp
           with_reducible rfl
          rotate_left
          ·simp only [Act.put, List.setIfInBounds_toArray, List.set_cons_zero, List.set_cons_succ, i64_w, i32_w]
           rfl
          refine pure_ (i := 7) (N := some 68) (v := ?_) (a' := ?_) #[true, true, true, true, true, true, true, true, false] rfl rfl (any_of HT_.out (by kernel_rfl)) (fun _ _ _ h => h) (Or.inl ⟨by rfl, ?_⟩) ?_ ?_
          rotate_left
          ·intro w'
           go_simp
           with_reducible rfl
          rotate_left
          ·simp only [Act.put, List.setIfInBounds_toArray, List.set_cons_zero, List.set_cons_succ, i64_w, i32_w]
           rfl
          refine last_ (i := 8) (N := none) #[true, true, true, true, true, true, true, true, true] rfl rfl (one_of HT_.out (by kernel_rfl)) (by decide) (fun K hK => ?_)
          refine skip_ (w1 := ?_) (by rfl) rfl ?_ ?_
          rotate_left
          ·go_simp
           rfl
          refine hK.out _ _ ?_
          clear hK K
          refine done_ (done_of HT_.out (by kernel_rfl)) ?_
          have n0_ : Aside0 (Kd.R k46 46 (w82.setCell ⟨go75, (t112 : Int).toNat * 2 + 1, none⟩ (.string t130)) w.heap.size (fun _ => True) (.slice (some ⟨go75, 0, none⟩) y106.length co14) y132) := ⟨by (with_reducible repeat (first | apply Kd.R_alloc | apply Kd.R_drewN | apply Kd.R_drew)); exact HQ83.out⟩
          have n1_ : Aside0 (Kd.R Kd.string 9 (w82.setCell ⟨go75, (t112 : Int).toNat * 2 + 1, none⟩ (.string t130)) w.heap.size (fun _ => True) (.slice Ao81 y127.length co81) y127) := ⟨by (with_reducible repeat (first | apply Kd.R_alloc | apply Kd.R_drewN | apply Kd.R_drew)); exact Kd.R_mono (Kd.R_far (p := ⟨go75, (t112 : Int).toNat * 2 + 1, none⟩) (Kd.R_types HO129.out GG75.out (by decide)) (fun _ hk => hk.2) (.string t130)) (fun _ hk => trivial)⟩
          have n2_ : Aside0 ((w82.setCell ⟨go75, (t112 : Int).toNat * 2 + 1, none⟩ (.string t130)).heap[gb101]? = some (.cells #[.string a1_0, .slice A1_1 l1_1.length c1_1] 25 (0, 0))) := ⟨by (with_reducible repeat (first | refine blk_drewN ?_ _ | refine blk_drew ?_ | refine blk_alloc ?_ _)); refine blk_far ?_ q37_22 _; (with_reducible repeat (first | refine blk_drewN ?_ _ | refine blk_drew ?_ | refine blk_alloc ?_ _)); exact BK101.out⟩
          have n3_ : Aside0 ((w82.setCell ⟨go75, (t112 : Int).toNat * 2 + 1, none⟩ (.string t130)).heap[gb102]? = some (.cells #[.string (⟨#[]⟩ : ByteArray), .slice none 0 0] 25 (0, 0))) := ⟨by (with_reducible repeat (first | refine blk_drewN ?_ _ | refine blk_drew ?_ | refine blk_alloc ?_ _)); refine blk_far ?_ q37_23 _; (with_reducible repeat (first | refine blk_drewN ?_ _ | refine blk_drew ?_ | refine blk_alloc ?_ _)); exact BK102.out⟩
          have n4_ : Aside0 ((w82.setCell ⟨go75, (t112 : Int).toNat * 2 + 1, none⟩ (.string t130)).heap[gb109]? = some (.cells #[.string a1_0, .slice (some ⟨go75, 0, none⟩) y106.length co14] 25 (0, 0))) := ⟨by (with_reducible repeat (first | refine blk_drewN ?_ _ | refine blk_drew ?_ | refine blk_alloc ?_ _)); refine blk_far ?_ q37_24 _; (with_reducible repeat (first | refine blk_drewN ?_ _ | refine blk_drew ?_ | refine blk_alloc ?_ _)); exact BK109.out⟩
          have n5_ : Aside0 (IsS132 w0 (w82.setCell ⟨go75, (t112 : Int).toNat * 2 + 1, none⟩ (.string t130)) g s0_0 t131) := ⟨by repeat (first | (with_reducible first | exact HI0.out | apply IsS132.alloc | apply IsS132.drewN | apply IsS132.drew | apply IsS132.set_1 | refine IsS132.far ?_ HN0_go75.out _ | refine IsS132.far ?_ NB0_101.out _ | refine IsS132.far ?_ NB0_102.out _ | refine IsS132.far ?_ NB0_109.out _) | exact HI0.out)⟩
          have n6_ : Aside0 (KeepBut w (w82.setCell ⟨go75, (t112 : Int).toNat * 2 + 1, none⟩ (.string t130)) g none) := ⟨by repeat (first | (with_reducible first | exact HK.out | apply KeepBut.set_ | apply keep_drewN | apply keep_drew | apply keep_alloc | refine keep_far ?_ GB75.out _ | refine keep_far ?_ GW101.out _ | refine keep_far ?_ GW102.out _ | refine keep_far ?_ GW109.out _) | exact HK.out)⟩
          have n7_ : Aside0 (Below w0.heap.size w0 (w82.setCell ⟨go75, (t112 : Int).toNat * 2 + 1, none⟩ (.string t130))) := ⟨by repeat (first | (with_reducible first | exact HB.out | apply below_alloc | apply pw_below_drewN | apply below_drew1 | refine below_set ?_ (Nat.le_trans HL.out GB75.out) | refine below_set ?_ (IsS132.ge HI0.out) | refine below_set ?_ GE101.out | refine below_set ?_ GE102.out | refine below_set ?_ GE109.out) | exact HB.out)⟩
          (try clear HO_110001)
          (try clear HO129)
          (try clear BK101)
          (try clear BK102)
          (try clear BK109)
          (try clear HI0)
          (try clear HK)
          (try clear HB)
          generalize (w82.setCell ⟨go75, (t112 : Int).toNat * 2 + 1, none⟩ (.string t130)) = w84 at n0_ n1_ n2_ n3_ n4_ n5_ n6_ n7_ ⊢
          have HO_110001 := n0_
          have HO129 := n1_
          have BK101 := n2_
          have BK102 := n3_
          have BK109 := n4_
          have HI0 := n5_
          have HK := n6_
          have HB := n7_
          clear n0_ n1_ n2_ n3_ n4_ n5_ n6_ n7_
          have hnb85 := NB109_101.out
          have hnc85 := NB101_109.out
          have hnb86 := NB109_102.out
          have hnc86 := NB102_109.out
          have hnb87 := NB109_0.out
          have hnc87 := NB0_109.out
          have hcz88_0 : w84.cell? ⟨gb109, 0, none⟩ = some (.string a1_0) := (blk_cell BK109.out 0).trans rfl
          have hcz88_1 : w84.cell? ⟨gb109, 1, none⟩ = some (.slice (some ⟨go75, 0, none⟩) y106.length co14) := (blk_cell BK109.out 1).trans rfl
          have hfz88_0 := blk_frozen BK109.out 0
          have hfz88_1 := blk_frozen BK109.out 1
          have hnb89 := NB102_101.out
          have hnc89 := NB101_102.out
          have hnb90 := NB102_0.out
          have hnc90 := NB0_102.out
          have hcz91_0 : w84.cell? ⟨gb102, 0, none⟩ = some (.string (⟨#[]⟩ : ByteArray)) := (blk_cell BK102.out 0).trans rfl
          have hcz91_1 : w84.cell? ⟨gb102, 1, none⟩ = some (.slice none 0 0) := (blk_cell BK102.out 1).trans rfl
          have hfz91_0 := blk_frozen BK102.out 0
          have hfz91_1 := blk_frozen BK102.out 1
          try go_wp2
          refine bodyPost_ret (results_cell_row rfl _ _ gb102 25 #[.string a1_0, .slice (some ⟨go75, 0, none⟩) y106.length co14] (0, 0) _ rfl q37_10 Tryd.underlying25 rfl (by kernel_rfl)) rfl ?_
          exact ⟨_, by first | rfl | (simp [errW_none, errW_some] <;> rfl) | (simp [*, errW_none, errW_some] <;> rfl), by (with_reducible repeat (first | apply Kd.R_alloc | apply Kd.R_drewN | apply Kd.R_drew)); exact Kd.R_mono (Kd.R_far (p := ⟨gb102, 1, none⟩) (Kd.R_far (p := ⟨gb102, 0, none⟩) (Kd.R_types HO_110001.out BK102.out (by decide)) (fun _ hk => hk.2) (.string a1_0)) (fun _ hk => hk.2) (.slice (some ⟨go75, 0, none⟩) y106.length co14)) (fun _ hk => trivial), by repeat (first | (with_reducible first | exact HI0.out | apply IsS132.alloc | apply IsS132.drewN | apply IsS132.drew | apply IsS132.set_1 | refine IsS132.far ?_ NB0_101.out _ | refine IsS132.far ?_ NB0_102.out _ | refine IsS132.far ?_ NB0_109.out _) | exact HI0.out), by repeat (first | (with_reducible first | exact HB.out | apply below_alloc | apply pw_below_drewN | apply below_drew1 | refine below_set ?_ (IsS132.ge HI0.out) | refine below_set ?_ GE101.out | refine below_set ?_ GE102.out | refine below_set ?_ GE109.out) | exact HB.out), by repeat (first | (with_reducible first | exact HK.out | apply KeepBut.set_ | apply keep_drewN | apply keep_drew | apply keep_alloc | refine keep_far ?_ GW101.out _ | refine keep_far ?_ GW102.out _ | refine keep_far ?_ GW109.out _) | exact HK.out)⟩
         ·rw [if_neg c74] at H
          exact absurd H (by simp)
        ·rw [if_neg c73] at H
         exact absurd H (by simp)
       ·rw [if_neg c71] at H
        have c71b0 : (t114 == 2) = false := beq_eq_false_iff_ne.mpr c71
        have c71b1 : (t114 != 2) = true := bne_iff_ne.mpr c71
        by_cases c92 : t114 = 3
        ·rw [if_pos c92] at H
         have c92b0 : (t114 == 3) = true := beq_iff_eq.mpr c92
         have c92b1 : (t114 != 3) = false := bne_eq_false_iff_eq.mpr c92
         clear c92
         by_cases c93 : 0 ≤ t112
         ·rw [if_pos c93] at H
          have c93b0 : decide (0 ≤ t112) = true := decide_eq_true c93
          clear c93
          by_cases c94 : t112 < (y106.length : Int)
          ·rw [if_pos c94] at H
           have c94b0 : decide (t112 < (y106.length : Int)) = true := decide_eq_true c94
           clear c94
           by_cases c95 : y106.length < 4398046511104
           ·rw [if_pos c95] at H
            have LMc95 := Aside0.mk c95
            clear c95
            obtain ⟨y134, hy134⟩ : ∃ y_ : List (S46), y_ = (y106 ++ [(⟨(rd_T46 y106 t112).f0, (rd_T46 y106 t112).f1⟩ : S46)]) := ⟨_, rfl⟩
            replace H : (some (a1_0, y134, t115)) = some (r1, r2, r3) := by first | (rw [hy134]; with_reducible exact H) | (have H2_ := (Option.bind_some _ _).symm.trans H; rw [hy134]; with_reducible exact H2_) | (have H2_ := (Option.bind_some _ _).symm.trans H; with_reducible exact H2_) | with_reducible exact H | (rw [hy134]; exact H) | exact H
            have Ny134 := Aside0.mk hy134
            clear hy134
            simp only [Option.some.injEq, Prod.mk.injEq] at H
            obtain ⟨rfl, rfl, rfl⟩ := H
            try go_wp2_with (first | ((with_reducible refine gate_callee (f := 84) rfl ?_); refine goesL_ (some 28) rfl rfl Tryd.func84 (by kernel_rfl) rfl #[.pointer (some ⟨g, 0, none⟩), .int .i64 (y106.length : Int)] rfl q37_8 ?_; (with_reducible refine (spec_l17Rd_pick.calls kj3 g s0_0 x1001_3 (y106.length : Int) t112 t113 w0 _ ?side1 ?side2 A33.out).mono ?_); (case side1 => repeat (first | (with_reducible first | exact HI0.out | apply IsS132.alloc | apply IsS132.drewN | apply IsS132.drew | apply IsS132.set_1 | refine IsS132.far ?_ NB0_101.out _ | refine IsS132.far ?_ NB0_102.out _ | refine IsS132.far ?_ NB0_109.out _) | exact HI0.out)); (case side2 => repeat (first | (with_reducible first | exact HB.out | apply below_alloc | apply pw_below_drewN | apply below_drew1 | refine below_set ?_ (IsS132.ge HI0.out) | refine below_set ?_ GE101.out | refine below_set ?_ GE102.out | refine below_set ?_ GE109.out) | exact HB.out)); rintro e w96 ⟨rfl, hi, hb, hk⟩; refine ⟨_, rfl, ?_⟩; have n0_ := Aside0.mk (Kd.R_mono (Kd.R_keep (IsS132.apart (show IsS132 w0 _ g s0_0 x1001_3 from by repeat (first | (with_reducible first | exact HI0.out | apply IsS132.alloc | apply IsS132.drewN | apply IsS132.drew | apply IsS132.set_1 | refine IsS132.far ?_ NB0_101.out _ | refine IsS132.far ?_ NB0_102.out _ | refine IsS132.far ?_ NB0_109.out _) | exact HI0.out)) q37_9 (by decide)) hk (fun _ h => h.2)) (fun _ h => h.1)); have n1_ := Aside0.mk (KeepBut.blk hk (g' := gb101) (o := .cells #[.string a1_0, .slice A1_1 l1_1.length c1_1] 25 (0, 0)) q37_2 NB101_0.out (by simp)); have n2_ := Aside0.mk (KeepBut.blk hk (g' := gb102) (o := .cells #[.string (⟨#[]⟩ : ByteArray), .slice none 0 0] 25 (0, 0)) q37_3 NB102_0.out (by simp)); have n3_ := Aside0.mk (KeepBut.blk hk (g' := gb109) (o := .cells #[.string a1_0, .slice Ao14 y106.length co14] 25 (0, 0)) q37_4 NB109_0.out (by simp)); have n4_ := Aside0.mk (KeepBut.trans q37_1 hk (.inl rfl)); have n5_ := Aside0.mk (hb); have n6_ := Aside0.mk (hi); clear HO_110001; clear BK101; clear BK102; clear BK109; clear HK; clear HB; clear HI0; have HO_110001 := n0_; have BK101 := n1_; have BK102 := n2_; have BK109 := n3_; have HK := n4_; have HB := n5_; have HI0 := n6_; clear n0_ n1_ n2_ n3_ n4_ n5_ n6_; (try clear hb); (try clear hb2); (try clear hk); (try clear hi)) | ((with_reducible refine gate_callee (f := 84) rfl ?_); refine goesL_ (some 30) rfl rfl Tryd.func84 (by kernel_rfl) rfl #[.pointer (some ⟨g, 0, none⟩), .int .i64 5] rfl q37_8 ?_; (with_reducible refine (spec_l17Rd_pick.calls kj3 g s0_0 t113 5 t114 t115 w0 _ ?side1 ?side2 A34.out).mono ?_); (case side1 => repeat (first | (with_reducible first | exact HI0.out | apply IsS132.alloc | apply IsS132.drewN | apply IsS132.drew | apply IsS132.set_1 | refine IsS132.far ?_ NB0_101.out _ | refine IsS132.far ?_ NB0_102.out _ | refine IsS132.far ?_ NB0_109.out _) | exact HI0.out)); (case side2 => repeat (first | (with_reducible first | exact HB.out | apply below_alloc | apply pw_below_drewN | apply below_drew1 | refine below_set ?_ (IsS132.ge HI0.out) | refine below_set ?_ GE101.out | refine below_set ?_ GE102.out | refine below_set ?_ GE109.out) | exact HB.out)); rintro e w97 ⟨rfl, hi, hb, hk⟩; refine ⟨_, rfl, ?_⟩; have n0_ := Aside0.mk (Kd.R_mono (Kd.R_keep (IsS132.apart (show IsS132 w0 _ g s0_0 t113 from by repeat (first | (with_reducible first | exact HI0.out | apply IsS132.alloc | apply IsS132.drewN | apply IsS132.drew | apply IsS132.set_1 | refine IsS132.far ?_ NB0_101.out _ | refine IsS132.far ?_ NB0_102.out _ | refine IsS132.far ?_ NB0_109.out _) | exact HI0.out)) q37_9 (by decide)) hk (fun _ h => h.2)) (fun _ h => h.1)); have n1_ := Aside0.mk (KeepBut.blk hk (g' := gb101) (o := .cells #[.string a1_0, .slice A1_1 l1_1.length c1_1] 25 (0, 0)) q37_2 NB101_0.out (by simp)); have n2_ := Aside0.mk (KeepBut.blk hk (g' := gb102) (o := .cells #[.string (⟨#[]⟩ : ByteArray), .slice none 0 0] 25 (0, 0)) q37_3 NB102_0.out (by simp)); have n3_ := Aside0.mk (KeepBut.blk hk (g' := gb109) (o := .cells #[.string a1_0, .slice Ao14 y106.length co14] 25 (0, 0)) q37_4 NB109_0.out (by simp)); have n4_ := Aside0.mk (KeepBut.trans q37_1 hk (.inl rfl)); have n5_ := Aside0.mk (hb); have n6_ := Aside0.mk (hi); clear HO_110001; clear BK101; clear BK102; clear BK109; clear HK; clear HB; clear HI0; have HO_110001 := n0_; have BK101 := n1_; have BK102 := n2_; have BK109 := n3_; have HK := n4_; have HB := n5_; have HI0 := n6_; clear n0_ n1_ n2_ n3_ n4_ n5_ n6_; (try clear hb); (try clear hb2); (try clear hk); (try clear hi)))
            have n0_ := Aside0.mk (Kd.R_drew HO_110001.out)
            have n1_ := Aside0.mk (blk_drew BK101.out)
            have n2_ := Aside0.mk (blk_drew BK102.out)
            have n3_ := Aside0.mk (blk_drew BK109.out)
            have n4_ := Aside0.mk (IsS132.drew HI0.out)
            have n5_ := Aside0.mk (keep_drew HK.out)
            have n6_ := Aside0.mk (below_drew1 HB.out)
            clear HO_110001
            clear BK101
            clear BK102
            clear BK109
            clear HI0
            clear HK
            clear HB
            have HO_110001 := n0_
            have BK101 := n1_
            have BK102 := n2_
            have BK109 := n3_
            have HI0 := n4_
            have HK := n5_
            have HB := n6_
            clear n0_ n1_ n2_ n3_ n4_ n5_ n6_
            have p133 : 0 ≤ (t112 : Int) := of_decide_eq_true (by first | (with_reducible assumption) | assumption)
            have q133 : t112 < (y106.length : Int) := of_decide_eq_true (by first | (with_reducible assumption) | assumption)
            obtain ⟨ad133, e133, hx133_0, hx133_1⟩ := at_T46 (Kd.R_reads' HO_110001.out).2.2 t112 p133 q133
            cases e133
            replace p133 := eq_true p133
            replace q133 := eq_true q133
            refine start_ (n := 11) (S := fun w' => w'.cell? ⟨gb109, 0, none⟩ = some (.string a1_0) ∧ w'.cell? ⟨gb109, 1, none⟩ = some (.slice (some ad133) y106.length co14) ∧ w'.cell? (ad133.add ((t112).toNat * 2)) = some (.string ((rd_T46 y106 t112).f0)) ∧ w'.cell? ⟨(ad133.add ((t112).toNat * 2)).block, (ad133.add ((t112).toNat * 2)).off + 1, none⟩ = some (.string ((rd_T46 y106 t112).f1))) (ds := [8, 10]) #[false, false, false, false, false, false, false, false, false, false, false] (by kernel_rfl) rfl rfl ⟨(blk_cell BK109.out 0).trans rfl, (blk_cell BK109.out 1).trans rfl, hx133_0, hx133_1⟩ (fun hHeld => ?_); refine with_tabW spec_l1Bent.tab16 spec_l1Bent.bits16 (fun HT_ HW_ => ?_)
            generalize w97.drew = w98 at HO_110001 BK101 BK102 BK109 HI0 HK HB hx133_0 hx133_1 hHeld ⊢
            refine pure_ (i := 0) (N := some 71) (v := ?_) (a' := ?_) #[true, false, false, false, false, false, false, false, false, false, false] rfl rfl (any_of HT_.out (by kernel_rfl)) (fun _ _ _ h => h) (Or.inl ⟨by rfl, ?_⟩) ?_ ?_
            rotate_left
            ·intro w'
             go_simp
             with_reducible rfl
            rotate_left
            ·simp only [Act.put, List.setIfInBounds_toArray, List.set_cons_zero, List.set_cons_succ, i64_w, i32_w]
             rfl
            refine pure_ (i := 2) (N := some 73) (v := ?_) (a' := ?_) #[true, false, true, false, false, false, false, false, false, false, false] rfl rfl (any_of HT_.out (by kernel_rfl)) (fun _ _ _ h => h) (Or.inl ⟨by rfl, ?_⟩) ?_ ?_
            rotate_left
            ·intro w'
             go_simp
             with_reducible rfl
            rotate_left
            ·simp only [Act.put, List.setIfInBounds_toArray, List.set_cons_zero, List.set_cons_succ, i64_w, i32_w]
             rfl
            refine pure_ (i := 4) (N := some 75) (v := ?_) (a' := ?_) #[true, false, true, false, true, false, false, false, false, false, false] rfl rfl (any_of HT_.out (by kernel_rfl)) (fun _ _ _ h => h) (Or.inl ⟨by rfl, ?_⟩) ?_ ?_
            rotate_left
            ·intro w'
             go_simp
             with_reducible rfl
            rotate_left
            ·simp only [Act.put, List.setIfInBounds_toArray, List.set_cons_zero, List.set_cons_succ, i64_w, i32_w]
             rfl
            refine take_ (i := 1) (N := some 72) (v := ?_) (a' := ?_) #[true, true, true, false, true, false, false, false, false, false, false] rfl rfl (take_ofW HT_.out HW_.out (by kernel_rfl)) (fun _ _ _ h => h) (Or.inl ⟨by rfl, ?_⟩) hHeld ?_ ?_
            rotate_left
            ·rintro w' ⟨s0, s1, s2, s3⟩
             go_simp
             with_reducible rfl
            rotate_left
            ·simp only [Act.put, List.setIfInBounds_toArray, List.set_cons_zero, List.set_cons_succ, i64_w, i32_w]
             rfl
            refine take_ (i := 3) (N := some 74) (v := ?_) (a' := ?_) #[true, true, true, true, true, false, false, false, false, false, false] rfl rfl (take_ofW HT_.out HW_.out (by kernel_rfl)) (fun _ _ _ h => h) (Or.inl ⟨by rfl, ?_⟩) hHeld ?_ ?_
            rotate_left
            ·rintro w' ⟨s0, s1, s2, s3⟩
             go_simp
             with_reducible rfl
            rotate_left
            ·simp only [Act.put, List.setIfInBounds_toArray, List.set_cons_zero, List.set_cons_succ, i64_w, i32_w]
             rfl
            refine pure_ (i := 5) (N := some 76) (v := ?_) (a' := ?_) #[true, true, true, true, true, true, false, false, false, false, false] rfl rfl (any_of HT_.out (by kernel_rfl)) (fun _ _ _ h => h) (Or.inl ⟨by rfl, ?_⟩) ?_ ?_
            rotate_left
            ·intro w'
             go_simp
             with_reducible rfl
            rotate_left
            ·simp only [Act.put, List.setIfInBounds_toArray, List.set_cons_zero, List.set_cons_succ, i64_w, i32_w]
             rfl
            refine take_ (i := 6) (N := some 77) (v := ?_) (a' := ?_) #[true, true, true, true, true, true, true, false, false, false, false] rfl rfl (take_ofW HT_.out HW_.out (by kernel_rfl)) (fun _ _ _ h => h) (Or.inl ⟨by rfl, ?_⟩) hHeld ?_ ?_
            rotate_left
            ·rintro w' ⟨s0, s1, s2, s3⟩
             go_simp
             with_reducible rfl
            rotate_left
            ·simp only [Act.put, List.setIfInBounds_toArray, List.set_cons_zero, List.set_cons_succ, i64_w, i32_w]
             rfl
            refine one_ (i := 7) (N := some 78) #[true, true, true, true, true, true, true, true, false, false, false] rfl rfl (one_of HT_.out (by kernel_rfl)) (by decide) (fun K hK => ?_)
            refine value_ (w1 := ?_) (v := ?_) (by rfl) rfl ?_ ?_
            rotate_left 2
            ·go_simp
             constructor
             ·rfl
             ·rfl
            refine hK.out _ _ ⟨(blk_cell (blk_alloc BK109.out _) 0).trans rfl, (blk_cell (blk_alloc BK109.out _) 1).trans rfl, (World.cell?_alloc_lt _ _ _ (World.block_lt_of_cell? _ _ (hHeld.2.2.1))).trans (hHeld.2.2.1), (World.cell?_alloc_lt _ _ _ (World.block_lt_of_cell? _ _ (hHeld.2.2.2))).trans (hHeld.2.2.2)⟩ (fun hHeld => ?_)
            clear hK K
            refine norm_ (a' := ?_) ?_ ?_
            rotate_left
            ·show Act.put _ (some 78) _ = _
             simp only [Act.put, List.setIfInBounds_toArray, List.set_cons_zero, List.set_cons_succ, i64_w, i32_w]
             rfl
            refine last_ (i := 8) (N := some 79) #[true, true, true, true, true, true, true, true, true, false, false] rfl rfl (one_of HT_.out (by kernel_rfl)) (by decide) (fun K hK => ?_)
            refine Kd.R_append_step k46 w.heap.size (by rfl) (.tmp 72) (.tmp 78) 23 46 (.agg #[(.string ⟨#[]⟩), (.string ⟨#[]⟩)]) 32 rfl Tryd.underlying23 info46 rfl (by decide) (by omega) (.slice (some ad133) y106.length co14) y106 (⟨(rd_T46 y106 t112).f0, (rd_T46 y106 t112).f1⟩ : S46) [.string ((rd_T46 y106 t112).f0), .string ((rd_T46 y106 t112).f1)] (fun _ => True) (fun _ => False) rfl rfl ?aP (fun _ hk => hk.elim) ?aF ?aO (Below.refl _ _) ?aS ?aL ?_
            (case aP => exact k46_mkM _ _ _ (⟨(rd_T46 y106 t112).f0, (rd_T46 y106 t112).f1⟩ : S46))
            (case aF => exact (fun _ _ => trivial))
            (case aO => exact q37_9)
            (case aS => exact (keep_size (w := w) (g := g) (row := none) q37_1))
            (case aL => have := LMc95.out; omega)
            intro v135 w99 ho hb hg hat
            rw [← Ny134.out] at ho
            have n0_ := Aside0.mk (blk_grown (g := gb101) (o := .cells #[.string a1_0, .slice A1_1 l1_1.length c1_1] 25 (0, 0)) q37_2 hg (Kd.R_ne HO_110001.out BK101.out (by decide)))
            have n1_ := Aside0.mk (blk_grown (g := gb102) (o := .cells #[.string (⟨#[]⟩ : ByteArray), .slice none 0 0] 25 (0, 0)) q37_3 hg (Kd.R_ne HO_110001.out BK102.out (by decide)))
            have n2_ := Aside0.mk (blk_grown (g := gb109) (o := .cells #[.string a1_0, .slice (some ad133) y106.length co14] 25 (0, 0)) q37_4 hg (Kd.R_ne HO_110001.out BK109.out (by decide)))
            have n3_ := Aside0.mk (IsS132.grown q37_7 hg (IsS132.own_ne HI0.out HO_110001.out (by decide)))
            have n4_ := Aside0.mk (below_weaken q37_6 HL.out hb)
            have n5_ := Aside0.mk (KeepBut.trans q37_1 (KeepBut.of_grown hg g) (Kd.R_base2 HO_110001.out))
            have n6_ := Aside0.mk (ho)
            clear BK101
            clear BK102
            clear BK109
            clear HI0
            clear HB
            clear HK
            clear HO_110001
            have BK101 := n0_
            have BK102 := n1_
            have BK109 := n2_
            have HI0 := n3_
            have HB := n4_
            have HK := n5_
            have HO136 := n6_
            clear n0_ n1_ n2_ n3_ n4_ n5_ n6_
            clear ho hb hg hat
            obtain ⟨Ao100, co100, eo100⟩ := Kd.R_slice HO136.out
            (first | subst eo100 | (injection eo100 with f1_ f2_ f3_; have f4_ := f1_.symm; have f5_ := f3_.symm; clear f1_ f2_ f3_; subst f4_; subst f5_))
            refine hK.out _ _ ?_
            clear hK K
            refine norm_ (a' := ?_) ?_ ?_
            rotate_left
            ·show Act.put _ (some 79) _ = _
             simp only [Act.put, List.setIfInBounds_toArray, List.set_cons_zero, List.set_cons_succ, i64_w, i32_w]
             rfl
            refine pure_ (i := 9) (N := some 80) (v := ?_) (a' := ?_) #[true, true, true, true, true, true, true, true, true, true, false] rfl rfl (any_of HT_.out (by kernel_rfl)) (fun _ _ _ h => h) (Or.inl ⟨by rfl, ?_⟩) ?_ ?_
            rotate_left
            ·intro w'
             go_simp
             with_reducible rfl
            rotate_left
            ·simp only [Act.put, List.setIfInBounds_toArray, List.set_cons_zero, List.set_cons_succ, i64_w, i32_w]
             rfl
            refine last_ (i := 10) (N := none) #[true, true, true, true, true, true, true, true, true, true, true] rfl rfl (one_of HT_.out (by kernel_rfl)) (by decide) (fun K hK => ?_)
            have hs101 : w99.cell? ⟨gb109, 1, none⟩ = some (.slice (some ad133) y106.length co14) := (blk_cell BK109.out 1).trans rfl
            have hfs101 := blk_frozen BK109.out 1
            have hns101_0 := NB101_109.out
            have hns101_1 := NB102_109.out
            have hms101_0 := NB109_101.out
            have hms101_1 := NB109_102.out
            refine skip_ (w1 := ?_) (by rfl) rfl ?_ ?_
            rotate_left
            ·go_simp
             rfl
            refine hK.out _ _ ?_
            clear hK K
            refine done_ (done_of HT_.out (by kernel_rfl)) ?_
            have hnb102 := NB109_101.out
            have hnc102 := NB101_109.out
            have hnb103 := NB109_102.out
            have hnc103 := NB102_109.out
            have hnb104 := NB109_0.out
            have hnc104 := NB0_109.out
            have hcz105_0 : w99.cell? ⟨gb109, 0, none⟩ = some (.string a1_0) := (blk_cell BK109.out 0).trans rfl
            have hcz105_1 : w99.cell? ⟨gb109, 1, none⟩ = some (.slice (some ad133) y106.length co14) := (blk_cell BK109.out 1).trans rfl
            have hfz105_0 := blk_frozen BK109.out 0
            have hfz105_1 := blk_frozen BK109.out 1
            have hnb106 := NB102_101.out
            have hnc106 := NB101_102.out
            have hnb107 := NB102_0.out
            have hnc107 := NB0_102.out
            have hcz108_0 : w99.cell? ⟨gb102, 0, none⟩ = some (.string (⟨#[]⟩ : ByteArray)) := (blk_cell BK102.out 0).trans rfl
            have hcz108_1 : w99.cell? ⟨gb102, 1, none⟩ = some (.slice none 0 0) := (blk_cell BK102.out 1).trans rfl
            have hfz108_0 := blk_frozen BK102.out 0
            have hfz108_1 := blk_frozen BK102.out 1
            try go_wp2
            refine bodyPost_ret (results_cell_row rfl _ _ gb102 25 #[.string a1_0, .slice Ao100 y134.length co100] (0, 0) _ rfl (by (with_reducible repeat (first | refine blk_drewN ?_ _ | refine blk_drew ?_ | refine blk_alloc ?_ _)); refine blk_put (cs := #[.string a1_0, .slice none 0 0]) ?_ 1 _ rfl; (with_reducible repeat (first | refine blk_drewN ?_ _ | refine blk_drew ?_ | refine blk_alloc ?_ _)); refine blk_put (cs := #[.string (⟨#[]⟩ : ByteArray), .slice none 0 0]) ?_ 0 _ rfl; (with_reducible repeat (first | refine blk_drewN ?_ _ | refine blk_drew ?_ | refine blk_alloc ?_ _)); refine blk_far ?_ NB102_109.out _; (with_reducible repeat (first | refine blk_drewN ?_ _ | refine blk_drew ?_ | refine blk_alloc ?_ _)); exact BK102.out) Tryd.underlying25 rfl (by kernel_rfl)) rfl ?_
            exact ⟨_, by first | rfl | (simp [errW_none, errW_some] <;> rfl) | (simp [*, errW_none, errW_some] <;> rfl), by (with_reducible repeat (first | apply Kd.R_alloc | apply Kd.R_drewN | apply Kd.R_drew)); exact Kd.R_mono (Kd.R_far (p := ⟨gb102, 1, none⟩) (Kd.R_far (p := ⟨gb102, 0, none⟩) (Kd.R_far (p := ⟨gb109, 1, none⟩) (Kd.R_types (Kd.R_types HO136.out BK109.out (by decide)) BK102.out (by decide)) (fun _ hk => hk.1.2) (.slice Ao100 y134.length co100)) (fun _ hk => hk.2) (.string a1_0)) (fun _ hk => hk.2) (.slice Ao100 y134.length co100)) (fun _ hk => trivial), by repeat (first | (with_reducible first | exact HI0.out | apply IsS132.alloc | apply IsS132.drewN | apply IsS132.drew | apply IsS132.set_1 | refine IsS132.far ?_ NB0_101.out _ | refine IsS132.far ?_ NB0_102.out _ | refine IsS132.far ?_ NB0_109.out _) | exact HI0.out), by repeat (first | (with_reducible first | exact HB.out | apply below_alloc | apply pw_below_drewN | apply below_drew1 | refine below_set ?_ (IsS132.ge HI0.out) | refine below_set ?_ GE101.out | refine below_set ?_ GE102.out | refine below_set ?_ GE109.out) | exact HB.out), by repeat (first | (with_reducible first | exact HK.out | apply KeepBut.set_ | apply keep_drewN | apply keep_drew | apply keep_alloc | refine keep_far ?_ GW101.out _ | refine keep_far ?_ GW102.out _ | refine keep_far ?_ GW109.out _) | exact HK.out)⟩
           ·rw [if_neg c95] at H
            exact absurd H (by simp)
          ·rw [if_neg c94] at H
           exact absurd H (by simp)
         ·rw [if_neg c93] at H
          exact absurd H (by simp)
        ·rw [if_neg c92] at H
         have c92b0 : (t114 == 3) = false := beq_eq_false_iff_ne.mpr c92
         have c92b1 : (t114 != 3) = true := bne_iff_ne.mpr c92
         have H' := Aside0.mk H
         clear H
         go_wp2_with (first | ((with_reducible refine gate_callee (f := 84) rfl ?_); refine goesL_ (some 28) rfl rfl Tryd.func84 (by kernel_rfl) rfl #[.pointer (some ⟨g, 0, none⟩), .int .i64 (y106.length : Int)] rfl q37_8 ?_; (with_reducible refine (spec_l17Rd_pick.calls kj3 g s0_0 x1001_3 (y106.length : Int) t112 t113 w0 _ ?side1 ?side2 A33.out).mono ?_); (case side1 => repeat (first | (with_reducible first | exact HI0.out | apply IsS132.alloc | apply IsS132.drewN | apply IsS132.drew | apply IsS132.set_1 | refine IsS132.far ?_ NB0_101.out _ | refine IsS132.far ?_ NB0_102.out _ | refine IsS132.far ?_ NB0_109.out _) | exact HI0.out)); (case side2 => repeat (first | (with_reducible first | exact HB.out | apply below_alloc | apply pw_below_drewN | apply below_drew1 | refine below_set ?_ (IsS132.ge HI0.out) | refine below_set ?_ GE101.out | refine below_set ?_ GE102.out | refine below_set ?_ GE109.out) | exact HB.out)); rintro e w109 ⟨rfl, hi, hb, hk⟩; refine ⟨_, rfl, ?_⟩; have n0_ := Aside0.mk (Kd.R_mono (Kd.R_keep (IsS132.apart (show IsS132 w0 _ g s0_0 x1001_3 from by repeat (first | (with_reducible first | exact HI0.out | apply IsS132.alloc | apply IsS132.drewN | apply IsS132.drew | apply IsS132.set_1 | refine IsS132.far ?_ NB0_101.out _ | refine IsS132.far ?_ NB0_102.out _ | refine IsS132.far ?_ NB0_109.out _) | exact HI0.out)) q37_9 (by decide)) hk (fun _ h => h.2)) (fun _ h => h.1)); have n1_ := Aside0.mk (KeepBut.blk hk (g' := gb101) (o := .cells #[.string a1_0, .slice A1_1 l1_1.length c1_1] 25 (0, 0)) q37_2 NB101_0.out (by simp)); have n2_ := Aside0.mk (KeepBut.blk hk (g' := gb102) (o := .cells #[.string (⟨#[]⟩ : ByteArray), .slice none 0 0] 25 (0, 0)) q37_3 NB102_0.out (by simp)); have n3_ := Aside0.mk (KeepBut.blk hk (g' := gb109) (o := .cells #[.string a1_0, .slice Ao14 y106.length co14] 25 (0, 0)) q37_4 NB109_0.out (by simp)); have n4_ := Aside0.mk (KeepBut.trans q37_1 hk (.inl rfl)); have n5_ := Aside0.mk (hb); have n6_ := Aside0.mk (hi); clear HO_110001; clear BK101; clear BK102; clear BK109; clear HK; clear HB; clear HI0; have HO_110001 := n0_; have BK101 := n1_; have BK102 := n2_; have BK109 := n3_; have HK := n4_; have HB := n5_; have HI0 := n6_; clear n0_ n1_ n2_ n3_ n4_ n5_ n6_; (try clear hb); (try clear hb2); (try clear hk); (try clear hi)) | ((with_reducible refine gate_callee (f := 84) rfl ?_); refine goesL_ (some 30) rfl rfl Tryd.func84 (by kernel_rfl) rfl #[.pointer (some ⟨g, 0, none⟩), .int .i64 5] rfl q37_8 ?_; (with_reducible refine (spec_l17Rd_pick.calls kj3 g s0_0 t113 5 t114 t115 w0 _ ?side1 ?side2 A34.out).mono ?_); (case side1 => repeat (first | (with_reducible first | exact HI0.out | apply IsS132.alloc | apply IsS132.drewN | apply IsS132.drew | apply IsS132.set_1 | refine IsS132.far ?_ NB0_101.out _ | refine IsS132.far ?_ NB0_102.out _ | refine IsS132.far ?_ NB0_109.out _) | exact HI0.out)); (case side2 => repeat (first | (with_reducible first | exact HB.out | apply below_alloc | apply pw_below_drewN | apply below_drew1 | refine below_set ?_ (IsS132.ge HI0.out) | refine below_set ?_ GE101.out | refine below_set ?_ GE102.out | refine below_set ?_ GE109.out) | exact HB.out)); rintro e w110 ⟨rfl, hi, hb, hk⟩; refine ⟨_, rfl, ?_⟩; have n0_ := Aside0.mk (Kd.R_mono (Kd.R_keep (IsS132.apart (show IsS132 w0 _ g s0_0 t113 from by repeat (first | (with_reducible first | exact HI0.out | apply IsS132.alloc | apply IsS132.drewN | apply IsS132.drew | apply IsS132.set_1 | refine IsS132.far ?_ NB0_101.out _ | refine IsS132.far ?_ NB0_102.out _ | refine IsS132.far ?_ NB0_109.out _) | exact HI0.out)) q37_9 (by decide)) hk (fun _ h => h.2)) (fun _ h => h.1)); have n1_ := Aside0.mk (KeepBut.blk hk (g' := gb101) (o := .cells #[.string a1_0, .slice A1_1 l1_1.length c1_1] 25 (0, 0)) q37_2 NB101_0.out (by simp)); have n2_ := Aside0.mk (KeepBut.blk hk (g' := gb102) (o := .cells #[.string (⟨#[]⟩ : ByteArray), .slice none 0 0] 25 (0, 0)) q37_3 NB102_0.out (by simp)); have n3_ := Aside0.mk (KeepBut.blk hk (g' := gb109) (o := .cells #[.string a1_0, .slice Ao14 y106.length co14] 25 (0, 0)) q37_4 NB109_0.out (by simp)); have n4_ := Aside0.mk (KeepBut.trans q37_1 hk (.inl rfl)); have n5_ := Aside0.mk (hb); have n6_ := Aside0.mk (hi); clear HO_110001; clear BK101; clear BK102; clear BK109; clear HK; clear HB; clear HI0; have HO_110001 := n0_; have BK101 := n1_; have BK102 := n2_; have BK109 := n3_; have HK := n4_; have HB := n5_; have HI0 := n6_; clear n0_ n1_ n2_ n3_ n4_ n5_ n6_; (try clear hb); (try clear hb2); (try clear hk); (try clear hi)))
         go_loopg [] kj3 (fun kq w' => ∃ (x1001_2 : Int) (x110001_2 : List (S46)) (u110001 : Value), Aside0 (spec_l1Bent.l0 kq s0_0 x1001_2 a1_0 x110001_2 = some (r1, r2, r3)) ∧ Aside0 (kq ≤ kj3) ∧ Aside0 (Kd.R k46 46 w' w.heap.size (fun _ => True) u110001 x110001_2) ∧ Aside0 (w'.heap[gb101]? = some (.cells #[.string a1_0, (.slice A1_1 l1_1.length c1_1)] 25 (0, 0))) ∧ Aside0 (w'.heap[gb102]? = some (.cells #[.string (⟨#[]⟩ : ByteArray), (.slice none 0 0)] 25 (0, 0))) ∧ Aside0 (w'.heap[gb109]? = some (.cells #[.string a1_0, u110001] 25 (0, 0))) ∧ Aside0 (IsS132 w0 w' g s0_0 x1001_2) ∧ Aside0 (KeepBut w w' g none) ∧ Aside0 (Below w0.heap.size w0 w'))
         case atStart => exact ⟨(t115), (y106), (.slice Ao14 y106.length co14), H', ⟨Nat.le_refl _⟩, ⟨by (with_reducible repeat (first | apply Kd.R_alloc | apply Kd.R_drewN | apply Kd.R_drew)); exact HO_110001.out⟩, ⟨by (with_reducible repeat (first | refine blk_drewN ?_ _ | refine blk_drew ?_ | refine blk_alloc ?_ _)); exact BK101.out⟩, ⟨by (with_reducible repeat (first | refine blk_drewN ?_ _ | refine blk_drew ?_ | refine blk_alloc ?_ _)); exact BK102.out⟩, ⟨by (with_reducible repeat (first | refine blk_drewN ?_ _ | refine blk_drew ?_ | refine blk_alloc ?_ _)); exact BK109.out⟩, ⟨by repeat (first | (with_reducible first | exact HI0.out | apply IsS132.alloc | apply IsS132.drewN | apply IsS132.drew | apply IsS132.set_1 | refine IsS132.far ?_ NB0_101.out _ | refine IsS132.far ?_ NB0_102.out _ | refine IsS132.far ?_ NB0_109.out _) | exact HI0.out)⟩, ⟨by repeat (first | (with_reducible first | exact HK.out | apply KeepBut.set_ | apply keep_drewN | apply keep_drew | apply keep_alloc | refine keep_far ?_ GW101.out _ | refine keep_far ?_ GW102.out _ | refine keep_far ?_ GW109.out _) | exact HK.out)⟩, ⟨by repeat (first | (with_reducible first | exact HB.out | apply below_alloc | apply pw_below_drewN | apply below_drew1 | refine below_set ?_ (IsS132.ge HI0.out) | refine below_set ?_ GE101.out | refine below_set ?_ GE102.out | refine below_set ?_ GE109.out) | exact HB.out)⟩⟩
         case round =>
          clear H'
          try clear c1
          try clear p1
          try clear q1
          try clear hx1
          try clear p2
          try clear c5
          try clear p5
          try clear q5
          try clear hx5
          try clear hf5
          try clear c6
          try clear c7
          try clear p7
          try clear q7
          try clear hx7
          try clear hf7
          try clear c8
          try clear c9
          try clear c10
          try clear p13
          try clear q13
          try clear hx13
          try clear c50
          try clear c50b0
          try clear c50b1
          try clear c52
          try clear c53
          try clear c54
          try clear p54
          try clear q54
          try clear hx54
          try clear hf54
          try clear c62
          try clear c64
          try clear c65
          try clear c66
          try clear c68
          try clear c69
          try clear c71
          try clear c71b0
          try clear c71b1
          try clear c73
          try clear c73b0
          try clear c74
          try clear c74b0
          try clear c75
          try clear p75
          try clear q75
          try clear hx75
          try clear hf75
          try clear c83
          try clear c84
          try clear c85
          try clear c86
          try clear c87
          try clear c89
          try clear c90
          try clear c92
          try clear c92b0
          try clear c92b1
          try clear c93
          try clear c93b0
          try clear c94
          try clear c94b0
          try clear c95
          try clear c102
          try clear c103
          try clear c104
          try clear c106
          try clear c107
          try clear hcz105_0
          try clear hcz105_1
          try clear hcz108_0
          try clear hcz108_1
          try clear hcz67_0
          try clear hcz67_1
          try clear hcz70_0
          try clear hcz70_1
          try clear hcz88_0
          try clear hcz88_1
          try clear hcz91_0
          try clear hcz91_1
          try clear hfz105_0
          try clear hfz105_1
          try clear hfz108_0
          try clear hfz108_1
          try clear hfz67_0
          try clear hfz67_1
          try clear hfz70_0
          try clear hfz70_1
          try clear hfz88_0
          try clear hfz88_1
          try clear hfz91_0
          try clear hfz91_1
          try clear hx133_0
          try clear hx133_1
          try clear hx54_0
          try clear hx54_1
          try clear hx75_0
          try clear hx75_1
          try clear p133
          try clear p54
          try clear p75
          try clear q133
          try clear q54
          try clear q75
          obtain ⟨x1001_2, x110001_2, u110001, HA, HK2, HO_110001, BK101, BK102, BK109, HI0, HK, HB⟩ := hrel
          cases gk with
          | zero => exact absurd HA.out (by simp [spec_l1Bent.l0])
          | succ k2 =>
           have H := HA.out
           clear HA
           simp only [spec_l1Bent.l0] at H
           by_cases c111 : (x110001_2.length : Int) ≤ 8
           ·rw [if_pos c111] at H
            have c111b0 : decide ((x110001_2.length : Int) ≤ 8) = true := decide_eq_true c111
            have c111b1 : decide (x110001_2.length ≤ 8) = true := decide_eq_true (by omega)
            clear c111
            replace H := Option.bind_eq_some_iff.mp H
            obtain ⟨⟨t137, t138⟩, A1120, H⟩ := H
            replace H : (if x110001_2.length < 4398046511104 then (spec_l1Bent.l0 k2 s0_0 t138 a1_0 (x110001_2 ++ [(⟨(⟨#[69]⟩ : ByteArray), t137⟩ : S46)])) else (none)) = some (r1, r2, r3) := H
            have A112 := Aside0.mk A1120
            clear A1120
            by_cases c113 : x110001_2.length < 4398046511104
            ·rw [if_pos c113] at H
             have LMc113 := Aside0.mk c113
             clear c113
             obtain ⟨y139, hy139⟩ : ∃ y_ : List (S46), y_ = (x110001_2 ++ [(⟨(⟨#[69]⟩ : ByteArray), t137⟩ : S46)]) := ⟨_, rfl⟩
             replace H : (spec_l1Bent.l0 k2 s0_0 t138 a1_0 y139) = some (r1, r2, r3) := by first | (rw [hy139]; with_reducible exact H) | (have H2_ := (Option.bind_some _ _).symm.trans H; rw [hy139]; with_reducible exact H2_) | (have H2_ := (Option.bind_some _ _).symm.trans H; with_reducible exact H2_) | with_reducible exact H | (rw [hy139]; exact H) | exact H
             have Ny139 := Aside0.mk hy139
             clear hy139
             have H' := Aside0.mk H
             clear H
             have hnb114 := NB109_101.out
             have hnc114 := NB101_109.out
             have hnb115 := NB109_102.out
             have hnc115 := NB102_109.out
             have hnb116 := NB109_0.out
             have hnc116 := NB0_109.out
             have hcz117_0 : wr.cell? ⟨gb109, 0, none⟩ = some (.string a1_0) := (blk_cell BK109.out 0).trans rfl
             have hcz117_1 : wr.cell? ⟨gb109, 1, none⟩ = some (u110001) := (blk_cell BK109.out 1).trans rfl
             have hfz117_0 := blk_frozen BK109.out 0
             have hfz117_1 := blk_frozen BK109.out 1
             obtain ⟨Ao118, co118, eo118⟩ := Kd.R_slice HO_110001.out
             subst eo118
             try go_wp2
             have n0_ := Aside0.mk (Kd.R_drew HO_110001.out)
             have n1_ := Aside0.mk (blk_drew BK101.out)
             have n2_ := Aside0.mk (blk_drew BK102.out)
             have n3_ := Aside0.mk (blk_drew BK109.out)
             have n4_ := Aside0.mk (IsS132.drew HI0.out)
             have n5_ := Aside0.mk (keep_drew HK.out)
             have n6_ := Aside0.mk (below_drew1 HB.out)
             clear HO_110001
             clear BK101
             clear BK102
             clear BK109
             clear HI0
             clear HK
             clear HB
             have HO_110001 := n0_
             have BK101 := n1_
             have BK102 := n2_
             have BK109 := n3_
             have HI0 := n4_
             have HK := n5_
             have HB := n6_
             clear n0_ n1_ n2_ n3_ n4_ n5_ n6_
             refine start_ (n := 9) (S := fun w' => w'.cell? ⟨gb109, 0, none⟩ = some (.string a1_0) ∧ w'.cell? ⟨gb109, 1, none⟩ = some (.slice Ao118 x110001_2.length co118)) (ds := [8]) #[false, false, false, false, false, false, false, false, false] (by kernel_rfl) rfl rfl ⟨(blk_cell BK109.out 0).trans rfl, (blk_cell BK109.out 1).trans rfl⟩ (fun hHeld => ?_); refine with_tabW spec_l1Bent.tab8 spec_l1Bent.bits8 (fun HT_ HW_ => ?_)
             generalize wr.drew = w119 at HO_110001 BK101 BK102 BK109 HI0 HK HB hHeld ⊢
             refine pure_ (i := 0) (N := some 35) (v := ?_) (a' := ?_) #[true, false, false, false, false, false, false, false, false] rfl rfl (any_of HT_.out (by kernel_rfl)) (fun _ _ _ h => h) (Or.inl ⟨by rfl, ?_⟩) ?_ ?_
             rotate_left
             ·intro w'
              go_simp
              with_reducible rfl
             rotate_left
             ·simp only [Act.put, List.setIfInBounds_toArray, List.set_cons_zero, List.set_cons_succ, i64_w, i32_w]
              rfl
             refine pure_ (i := 2) (N := some 37) (v := ?_) (a' := ?_) #[true, false, true, false, false, false, false, false, false] rfl rfl (any_of HT_.out (by kernel_rfl)) (fun _ _ _ h => h) (Or.inl ⟨by rfl, ?_⟩) ?_ ?_
             rotate_left
             ·intro w'
              go_simp
              with_reducible rfl
             rotate_left
             ·simp only [Act.put, List.setIfInBounds_toArray, List.set_cons_zero, List.set_cons_succ, i64_w, i32_w]
              rfl
             refine take_ (i := 1) (N := some 36) (v := ?_) (a' := ?_) #[true, true, true, false, false, false, false, false, false] rfl rfl (take_ofW HT_.out HW_.out (by kernel_rfl)) (fun _ _ _ h => h) (Or.inl ⟨by rfl, ?_⟩) hHeld ?_ ?_
             rotate_left
             ·rintro w' ⟨s0, s1⟩
              go_simp
              with_reducible rfl
             rotate_left
             ·simp only [Act.put, List.setIfInBounds_toArray, List.set_cons_zero, List.set_cons_succ, i64_w, i32_w]
              rfl
             refine one_ (i := 3) (N := some 38) #[true, true, true, true, false, false, false, false, false] rfl rfl (one_of HT_.out (by kernel_rfl)) (by decide) (fun K hK => ?_)
             refine goes_ Tryd.func136 (by kernel_rfl) rfl #[.pointer (some ⟨g, 0, none⟩), .int .i64 3] (by rfl) rfl rfl q37_8 ?_
             with_reducible refine (spec_l1Signed.calls k2 g s0_0 x1001_2 3 t137 t138 w0 _ ?side1 ?side2 A112.out).mono ?_
             (case side1 => repeat (first | (with_reducible first | exact HI0.out | apply IsS132.alloc | apply IsS132.drewN | apply IsS132.drew | apply IsS132.set_1 | refine IsS132.far ?_ NB0_101.out _ | refine IsS132.far ?_ NB0_102.out _ | refine IsS132.far ?_ NB0_109.out _) | exact HI0.out))
             (case side2 => repeat (first | (with_reducible first | exact HB.out | apply below_alloc | apply pw_below_drewN | apply below_drew1 | refine below_set ?_ (IsS132.ge HI0.out) | refine below_set ?_ GE101.out | refine below_set ?_ GE102.out | refine below_set ?_ GE109.out) | exact HB.out))
             rintro e w120 ⟨rfl, hi, hb, hk⟩
             refine ⟨_, rfl, ?_⟩
             have n0_ := Aside0.mk (Kd.R_mono (Kd.R_keep (IsS132.apart (show IsS132 w0 _ g s0_0 x1001_2 from by repeat (first | (with_reducible first | exact HI0.out | apply IsS132.alloc | apply IsS132.drewN | apply IsS132.drew | apply IsS132.set_1 | refine IsS132.far ?_ NB0_101.out _ | refine IsS132.far ?_ NB0_102.out _ | refine IsS132.far ?_ NB0_109.out _) | exact HI0.out)) q37_9 (by decide)) hk (fun _ h => h.2)) (fun _ h => h.1))
             have n1_ := Aside0.mk (KeepBut.blk hk (g' := gb101) (o := .cells #[.string a1_0, .slice A1_1 l1_1.length c1_1] 25 (0, 0)) q37_2 NB101_0.out (by simp))
             have n2_ := Aside0.mk (KeepBut.blk hk (g' := gb102) (o := .cells #[.string (⟨#[]⟩ : ByteArray), .slice none 0 0] 25 (0, 0)) q37_3 NB102_0.out (by simp))
             have n3_ := Aside0.mk (KeepBut.blk hk (g' := gb109) (o := .cells #[.string a1_0, .slice Ao118 x110001_2.length co118] 25 (0, 0)) q37_4 NB109_0.out (by simp))
             have n4_ := Aside0.mk (KeepBut.trans q37_1 hk (.inl rfl))
             have n5_ := Aside0.mk (hb)
             have n6_ := Aside0.mk (hi)
             clear HO_110001
             clear BK101
             clear BK102
             clear BK109
             clear HK
             clear HB
             clear HI0
             have HO_110001 := n0_
             have BK101 := n1_
             have BK102 := n2_
             have BK109 := n3_
             have HK := n4_
             have HB := n5_
             have HI0 := n6_
             clear n0_ n1_ n2_ n3_ n4_ n5_ n6_
             (try clear hb)
             (try clear hb2)
             (try clear hk)
             (try clear hi)
             refine hK.out _ _ ⟨(blk_cell BK109.out 0).trans rfl, (blk_cell BK109.out 1).trans rfl⟩ (fun hHeld => ?_)
             clear hK K
             refine norm_ (a' := ?_) ?_ ?_
             rotate_left
             ·show Act.put _ (some 38) _ = _
              simp only [Act.put, List.setIfInBounds_toArray, List.set_cons_zero, List.set_cons_succ, i64_w, i32_w]
              rfl
             refine pure_ (i := 4) (N := some 39) (v := ?_) (a' := ?_) #[true, true, true, true, true, false, false, false, false] rfl rfl (any_of HT_.out (by kernel_rfl)) (fun _ _ _ h => h) (Or.inl ⟨by rfl, ?_⟩) ?_ ?_
             rotate_left
             ·intro w'
              go_simp
              with_reducible rfl
             rotate_left
             ·simp only [Act.put, List.setIfInBounds_toArray, List.set_cons_zero, List.set_cons_succ, i64_w, i32_w]
              rfl
             refine one_ (i := 5) (N := some 40) #[true, true, true, true, true, true, false, false, false] rfl rfl (one_of HT_.out (by kernel_rfl)) (by decide) (fun K hK => ?_)
             refine value_ (w1 := ?_) (v := ?_) (by rfl) rfl ?_ ?_
             rotate_left 2
             ·go_simp
              constructor
              ·rfl
              ·rfl
             refine hK.out _ _ ⟨(blk_cell (blk_alloc BK109.out _) 0).trans rfl, (blk_cell (blk_alloc BK109.out _) 1).trans rfl⟩ (fun hHeld => ?_)
             clear hK K
             refine norm_ (a' := ?_) ?_ ?_
             rotate_left
             ·show Act.put _ (some 40) _ = _
              simp only [Act.put, List.setIfInBounds_toArray, List.set_cons_zero, List.set_cons_succ, i64_w, i32_w]
              rfl
             refine one_ (i := 6) (N := some 41) #[true, true, true, true, true, true, true, false, false] rfl rfl (one_of HT_.out (by kernel_rfl)) (by decide) (fun K hK => ?_)
             refine Kd.R_append_step k46 w.heap.size (by rfl) (.tmp 36) (.tmp 40) 23 46 (.agg #[(.string ⟨#[]⟩), (.string ⟨#[]⟩)]) 32 rfl Tryd.underlying23 info46 rfl (by decide) (by omega) (.slice Ao118 x110001_2.length co118) x110001_2 (⟨(⟨#[69]⟩ : ByteArray), t137⟩ : S46) [.string (⟨#[69]⟩ : ByteArray), .string t137] (fun _ => True) (fun _ => False) rfl rfl ?aP (fun _ hk => hk.elim) ?aF ?aO (Below.refl _ _) ?aS ?aL ?_
             (case aP => exact k46_mkM _ _ _ (⟨(⟨#[69]⟩ : ByteArray), t137⟩ : S46))
             (case aF => exact (fun _ _ => trivial))
             (case aO => exact q37_9)
             (case aS => exact (keep_size (w := w) (g := g) (row := none) q37_1))
             (case aL => have := LMc113.out; omega)
             intro v140 w121 ho hb hg hat
             rw [← Ny139.out] at ho
             have n0_ := Aside0.mk (blk_grown (g := gb101) (o := .cells #[.string a1_0, .slice A1_1 l1_1.length c1_1] 25 (0, 0)) q37_2 hg (Kd.R_ne HO_110001.out BK101.out (by decide)))
             have n1_ := Aside0.mk (blk_grown (g := gb102) (o := .cells #[.string (⟨#[]⟩ : ByteArray), .slice none 0 0] 25 (0, 0)) q37_3 hg (Kd.R_ne HO_110001.out BK102.out (by decide)))
             have n2_ := Aside0.mk (blk_grown (g := gb109) (o := .cells #[.string a1_0, .slice Ao118 x110001_2.length co118] 25 (0, 0)) q37_4 hg (Kd.R_ne HO_110001.out BK109.out (by decide)))
             have n3_ := Aside0.mk (IsS132.grown q37_7 hg (IsS132.own_ne HI0.out HO_110001.out (by decide)))
             have n4_ := Aside0.mk (below_weaken q37_6 HL.out hb)
             have n5_ := Aside0.mk (KeepBut.trans q37_1 (KeepBut.of_grown hg g) (Kd.R_base2 HO_110001.out))
             have n6_ := Aside0.mk (ho)
             clear BK101
             clear BK102
             clear BK109
             clear HI0
             clear HB
             clear HK
             clear HO_110001
             have BK101 := n0_
             have BK102 := n1_
             have BK109 := n2_
             have HI0 := n3_
             have HB := n4_
             have HK := n5_
             have HO141 := n6_
             clear n0_ n1_ n2_ n3_ n4_ n5_ n6_
             clear ho hb hg hat
             obtain ⟨Ao122, co122, eo122⟩ := Kd.R_slice HO141.out
             (first | subst eo122 | (injection eo122 with f1_ f2_ f3_; have f4_ := f1_.symm; have f5_ := f3_.symm; clear f1_ f2_ f3_; subst f4_; subst f5_))
             refine hK.out _ _ ⟨(blk_cell BK109.out 0).trans rfl, (blk_cell BK109.out 1).trans rfl⟩ (fun hHeld => ?_)
             clear hK K
             refine norm_ (a' := ?_) ?_ ?_
             rotate_left
             ·show Act.put _ (some 41) _ = _
              simp only [Act.put, List.setIfInBounds_toArray, List.set_cons_zero, List.set_cons_succ, i64_w, i32_w]
              rfl
             refine pure_ (i := 7) (N := some 42) (v := ?_) (a' := ?_) #[true, true, true, true, true, true, true, true, false] rfl rfl (any_of HT_.out (by kernel_rfl)) (fun _ _ _ h => h) (Or.inl ⟨by rfl, ?_⟩) ?_ ?_
             rotate_left
             ·intro w'
              go_simp
              with_reducible rfl
             rotate_left
             ·simp only [Act.put, List.setIfInBounds_toArray, List.set_cons_zero, List.set_cons_succ, i64_w, i32_w]
              rfl
             refine last_ (i := 8) (N := none) #[true, true, true, true, true, true, true, true, true] rfl rfl (one_of HT_.out (by kernel_rfl)) (by decide) (fun K hK => ?_)
             have hs123 : w121.cell? ⟨gb109, 1, none⟩ = some (.slice Ao118 x110001_2.length co118) := (blk_cell BK109.out 1).trans rfl
             have hfs123 := blk_frozen BK109.out 1
             have hns123_0 := NB101_109.out
             have hns123_1 := NB102_109.out
             have hms123_0 := NB109_101.out
             have hms123_1 := NB109_102.out
             refine skip_ (w1 := ?_) (by rfl) rfl ?_ ?_
             rotate_left
             ·go_simp
              rfl
             refine hK.out _ _ ?_
             clear hK K
             refine done_ (done_of HT_.out (by kernel_rfl)) ?_
             try go_wp2
             go_roundg k2
             case measure => have := HJ3.out; have := HK2.out; omega
             case rel => exact ⟨(t138), (y139), (.slice Ao122 y139.length co122), H', ⟨by have := HJ3.out; have := HK2.out; omega⟩, ⟨by (with_reducible repeat (first | apply Kd.R_alloc | apply Kd.R_drewN | apply Kd.R_drew)); exact Kd.R_mono (Kd.R_far (p := ⟨gb109, 1, none⟩) (Kd.R_types HO141.out BK109.out (by decide)) (fun _ hk => hk.2) (.slice Ao122 y139.length co122)) (fun _ hk => trivial)⟩, ⟨by (with_reducible repeat (first | refine blk_drewN ?_ _ | refine blk_drew ?_ | refine blk_alloc ?_ _)); refine blk_far ?_ NB101_109.out _; (with_reducible repeat (first | refine blk_drewN ?_ _ | refine blk_drew ?_ | refine blk_alloc ?_ _)); exact BK101.out⟩, ⟨by (with_reducible repeat (first | refine blk_drewN ?_ _ | refine blk_drew ?_ | refine blk_alloc ?_ _)); refine blk_far ?_ NB102_109.out _; (with_reducible repeat (first | refine blk_drewN ?_ _ | refine blk_drew ?_ | refine blk_alloc ?_ _)); exact BK102.out⟩, ⟨by (with_reducible repeat (first | refine blk_drewN ?_ _ | refine blk_drew ?_ | refine blk_alloc ?_ _)); refine blk_put (cs := #[.string a1_0, .slice Ao118 x110001_2.length co118]) ?_ 1 _ rfl; (with_reducible repeat (first | refine blk_drewN ?_ _ | refine blk_drew ?_ | refine blk_alloc ?_ _)); exact BK109.out⟩, ⟨by repeat (first | (with_reducible first | exact HI0.out | apply IsS132.alloc | apply IsS132.drewN | apply IsS132.drew | apply IsS132.set_1 | refine IsS132.far ?_ NB0_101.out _ | refine IsS132.far ?_ NB0_102.out _ | refine IsS132.far ?_ NB0_109.out _) | exact HI0.out)⟩, ⟨by repeat (first | (with_reducible first | exact HK.out | apply KeepBut.set_ | apply keep_drewN | apply keep_drew | apply keep_alloc | refine keep_far ?_ GW101.out _ | refine keep_far ?_ GW102.out _ | refine keep_far ?_ GW109.out _) | exact HK.out)⟩, ⟨by repeat (first | (with_reducible first | exact HB.out | apply below_alloc | apply pw_below_drewN | apply below_drew1 | refine below_set ?_ (IsS132.ge HI0.out) | refine below_set ?_ GE101.out | refine below_set ?_ GE102.out | refine below_set ?_ GE109.out) | exact HB.out)⟩⟩
            ·rw [if_neg c113] at H
             exact absurd H (by simp)
           ·rw [if_neg c111] at H
            have c111b0 : decide ((x110001_2.length : Int) ≤ 8) = false := decide_eq_false c111
            have c111b1 : decide (x110001_2.length ≤ 8) = false := decide_eq_false (by omega)
            clear c111
            simp only [Option.some.injEq, Prod.mk.injEq] at H
            obtain ⟨rfl, rfl, rfl⟩ := H
            have hnb124 := NB109_101.out
            have hnc124 := NB101_109.out
            have hnb125 := NB109_102.out
            have hnc125 := NB102_109.out
            have hnb126 := NB109_0.out
            have hnc126 := NB0_109.out
            have hcz127_0 : wr.cell? ⟨gb109, 0, none⟩ = some (.string a1_0) := (blk_cell BK109.out 0).trans rfl
            have hcz127_1 : wr.cell? ⟨gb109, 1, none⟩ = some (u110001) := (blk_cell BK109.out 1).trans rfl
            have hfz127_0 := blk_frozen BK109.out 0
            have hfz127_1 := blk_frozen BK109.out 1
            obtain ⟨Ao128, co128, eo128⟩ := Kd.R_slice HO_110001.out
            subst eo128
            have hnb129 := NB102_101.out
            have hnc129 := NB101_102.out
            have hnb130 := NB102_0.out
            have hnc130 := NB0_102.out
            have hcz131_0 : wr.cell? ⟨gb102, 0, none⟩ = some (.string (⟨#[]⟩ : ByteArray)) := (blk_cell BK102.out 0).trans rfl
            have hcz131_1 : wr.cell? ⟨gb102, 1, none⟩ = some (.slice none 0 0) := (blk_cell BK102.out 1).trans rfl
            have hfz131_0 := blk_frozen BK102.out 0
            have hfz131_1 := blk_frozen BK102.out 1
            go_wp2
            refine bodyPost_ret (results_cell_row rfl _ _ gb102 25 #[.string a1_0, .slice Ao128 x110001_2.length co128] (0, 0) _ rfl q37_10 Tryd.underlying25 rfl (by kernel_rfl)) rfl ?_
            exact ⟨_, by first | rfl | (simp [errW_none, errW_some] <;> rfl) | (simp [*, errW_none, errW_some] <;> rfl), by (with_reducible repeat (first | apply Kd.R_alloc | apply Kd.R_drewN | apply Kd.R_drew)); exact Kd.R_mono (Kd.R_far (p := ⟨gb102, 1, none⟩) (Kd.R_far (p := ⟨gb102, 0, none⟩) (Kd.R_types HO_110001.out BK102.out (by decide)) (fun _ hk => hk.2) (.string a1_0)) (fun _ hk => hk.2) (.slice Ao128 x110001_2.length co128)) (fun _ hk => trivial), by repeat (first | (with_reducible first | exact HI0.out | apply IsS132.alloc | apply IsS132.drewN | apply IsS132.drew | apply IsS132.set_1 | refine IsS132.far ?_ NB0_101.out _ | refine IsS132.far ?_ NB0_102.out _ | refine IsS132.far ?_ NB0_109.out _) | exact HI0.out), by repeat (first | (with_reducible first | exact HB.out | apply below_alloc | apply pw_below_drewN | apply below_drew1 | refine below_set ?_ (IsS132.ge HI0.out) | refine below_set ?_ GE101.out | refine below_set ?_ GE102.out | refine below_set ?_ GE109.out) | exact HB.out), by repeat (first | (with_reducible first | exact HK.out | apply KeepBut.set_ | apply keep_drewN | apply keep_drew | apply keep_alloc | refine keep_far ?_ GW101.out _ | refine keep_far ?_ GW102.out _ | refine keep_far ?_ GW109.out _) | exact HK.out)⟩
 ·rw [if_neg c3] at H
  exact absurd H (by simp)
end Go.Proofs.YtiibnkibckklgaaDoor.P
namespace Go.Proofs.YtiibnkibckklgaaDoor.P
open Go.RowKit Go.Proofs.YtiibnkibckklgaaDoorW.PrintWords Go.Proofs.YtiibnkibckklgaaDoorW.PrintLast Go.Proofs.YtiibnkibckklgaaDoorW.PrintMore
attribute [local go_sem] max2_int min2_int max_two min_two max_three min_three max_four min_four   -- for this text's walks alone
set_option linter.unusedVariables false
set_option linter.unusedSimpArgs false
/-! ### spec_l17Rd_num: function 101 -/
def spec_l17Rd_num.f (k : Nat) (s0_0 : List Int) (s0_1 : Int) (l1 : List Int) : Option (Int × Int) := (spec_l17Rd_pick.f k s0_0 s0_1 (l1.length : Int)).bind fun bt101 => (if 0 ≤ bt101.1 then (if bt101.1 < (l1.length : Int) then (some (rd l1 bt101.1, bt101.2)) else (none)) else (none))
theorem spec_l17Rd_num.mono : ∀ a0 a1 a2 k, LeO (spec_l17Rd_num.f k a0 a1 a2) (spec_l17Rd_num.f (k + 1) a0 a1 a2) := by
 intro a0 a1 a2 k
 unfold spec_l17Rd_num.f
 repeat' first
   | (with_reducible exact spec_l17Rd_pick.mono _ _ _ _)
   | (with_reducible exact LeO.refl _)
   | (with_reducible exact LeO.none _)
   | (with_reducible refine LeO.ite ?_ ?_)
   | (with_reducible refine LeO.bind ?_ (fun _ => ?_))
   | exact spec_l17Rd_pick.mono _ _ _ _
   | exact LeO.none _
   | refine LeO.ite ?_ ?_
   | refine LeO.bind ?_ (fun _ => ?_)
set_option maxHeartbeats 8000000 in
set_option maxRecDepth 100000 in
theorem spec_l17Rd_num.calls (k : Nat) (g : Nat) (s0_0 : List Int) (s0_1 : Int) (A1 : Option Addr) (c1 : Nat) (l1 : List Int) (r1 : Int) (r2 : Int) (w0 w : World) (hI : IsS132 w0 w g s0_0 s0_1) (hB : Below w0.heap.size w0 w) (hr1 : Kd.C (Kd.int .i64) w A1 l1.length l1) (hc1 : l1.length ≤ c1) (hf1 : ∀ ad, A1 = some ad → 0 < l1.length → ad.block ≠ g) (h : spec_l17Rd_num.f k s0_0 s0_1 l1 = some (r1, r2)) :
  Calls Tryd.prog 101 #[.pointer (some ⟨g, 0, none⟩), .slice A1 l1.length c1] w fun e w' => e = .returned (.int .i64 r1) ∧ IsS132 w0 w' g s0_0 r2 ∧ Below w0.heap.size w0 w' ∧ KeepBut w w' g none := by
 have HR1 := Aside0.mk hr1
 have HC1 := Aside0.mk hc1
 clear hr1 hc1
 have HI0 := Aside0.mk hI
 have HK := Aside0.mk (KeepBut.refl w g none)
 have HL := Aside0.mk hB.size
 clear hI
 have HW0 := Aside0.mk hB.size
 have HB := Aside0.mk hB
 clear hB
 have H : ((spec_l17Rd_pick.f k s0_0 s0_1 (l1.length : Int)).bind fun bt101 => (if 0 ≤ bt101.1 then (if bt101.1 < (l1.length : Int) then (some (rd l1 bt101.1, bt101.2)) else (none)) else (none))) = some (r1, r2) := h
 clear h
 replace H := Option.bind_eq_some_iff.mp H
 obtain ⟨⟨t101, t102⟩, A30, H⟩ := H
 replace H : (if 0 ≤ t101 then (if t101 < (l1.length : Int) then (some (rd l1 t101, t102)) else (none)) else (none)) = some (r1, r2) := H
 have A3 := Aside0.mk A30
 clear A30
 by_cases c4 : 0 ≤ t101
 ·rw [if_pos c4] at H
  have c4b0 : decide (0 ≤ t101) = true := decide_eq_true c4
  clear c4
  by_cases c5 : t101 < (l1.length : Int)
  ·rw [if_pos c5] at H
   have c5b0 : decide (t101 < (l1.length : Int)) = true := decide_eq_true c5
   clear c5
   simp only [Option.some.injEq, Prod.mk.injEq] at H
   obtain ⟨rfl, rfl⟩ := H
   go_enter Tryd.func101, Tryd.ntmps101
   go_wp2_with (first | ((with_reducible refine gate_callee (f := 84) rfl ?_); refine goesL_ (some 9) rfl rfl Tryd.func84 (by kernel_rfl) rfl #[.pointer (some ⟨g, 0, none⟩), .int .i64 (l1.length : Int)] rfl (by (try simp only [List.map_toArray, List.map_cons, List.map_nil]); first | done | rfl | (simp only [List.length_drop, List.length_take]; rfl)) ?_; (with_reducible refine (spec_l17Rd_pick.calls k g s0_0 s0_1 (l1.length : Int) t101 t102 w0 _ ?side1 ?side2 A3.out).mono ?_); (case side1 => repeat (first | (with_reducible first | exact HI0.out | apply IsS132.alloc | apply IsS132.drewN | apply IsS132.drew | apply IsS132.set_1) | exact HI0.out)); (case side2 => repeat (first | (with_reducible first | exact HB.out | apply below_alloc | apply pw_below_drewN | apply below_drew1 | refine below_set ?_ (IsS132.ge HI0.out)) | exact HB.out)); rintro e w6 ⟨rfl, hi, hb, hk⟩; refine ⟨_, rfl, ?_⟩; have n0_ := Aside0.mk (KeepBut.trans (by repeat (first | (with_reducible first | exact HK.out | apply KeepBut.set_ | apply keep_drewN | apply keep_drew | apply keep_alloc) | exact HK.out)) hk (.inl rfl)); have n1_ := Aside0.mk (hb); have n2_ := Aside0.mk (hi); clear HK; clear HB; clear HI0; have HK := n0_; have HB := n1_; have HI0 := n2_; clear n0_ n1_ n2_; (try clear hb); (try clear hb2); (try clear hk); (try clear hi); have p103 : 0 ≤ (t101 : Int) := of_decide_eq_true (by first | (with_reducible assumption) | assumption); have q103 : t101 < (l1.length : Int) := of_decide_eq_true (by first | (with_reducible assumption) | assumption); obtain ⟨ad103, e103, hx103_0⟩ := Kd.at_int HR1.out t101 p103 q103; cases e103; replace hx103_0 := keep_cell HK.out hx103_0 (by first | (rw [add_block]; exact hf1 _ rfl (by omega)) | exact hf1 _ rfl (by omega) | exact hf1 ad103 rfl (by omega)); replace p103 := eq_true p103; replace q103 := eq_true q103))
   go_ret
   exact ⟨by first | rfl | (simp [errW_none, errW_some] <;> rfl) | (simp [*, errW_none, errW_some] <;> rfl), by repeat (first | (with_reducible first | exact HI0.out | apply IsS132.alloc | apply IsS132.drewN | apply IsS132.drew | apply IsS132.set_1) | exact HI0.out), by repeat (first | (with_reducible first | exact HB.out | apply below_alloc | apply pw_below_drewN | apply below_drew1 | refine below_set ?_ (IsS132.ge HI0.out)) | exact HB.out), by repeat (first | (with_reducible first | exact HK.out | apply KeepBut.set_ | apply keep_drewN | apply keep_drew | apply keep_alloc) | exact HK.out)⟩
  ·rw [if_neg c5] at H
   exact absurd H (by simp)
 ·rw [if_neg c4] at H
  exact absurd H (by simp)
end Go.Proofs.YtiibnkibckklgaaDoor.P
namespace Go.Proofs.YtiibnkibckklgaaDoor.P
open Go.RowKit Go.Proofs.YtiibnkibckklgaaDoorW.PrintWords Go.Proofs.YtiibnkibckklgaaDoorW.PrintLast Go.Proofs.YtiibnkibckklgaaDoorW.PrintMore
attribute [local go_sem] max2_int min2_int max_two min_two max_three min_three max_four min_four   -- for this text's walks alone
set_option linter.unusedVariables false
set_option linter.unusedSimpArgs false
theorem q39_1 {p : Prop} (h : p := by (with_reducible repeat (first | refine blk_drewN ?_ _ | refine blk_drew ?_ | refine blk_alloc ?_ _)); refine blk_put (cs := #[.string (⟨#[65]⟩ : ByteArray), .slice none 0 0]) ?_ 1 _ rfl; (with_reducible repeat (first | refine blk_drewN ?_ _ | refine blk_drew ?_ | refine blk_alloc ?_ _)); refine blk_put (cs := #[.string (⟨#[]⟩ : ByteArray), .slice none 0 0]) ?_ 0 _ rfl; (with_reducible repeat (first | refine blk_drewN ?_ _ | refine blk_drew ?_ | refine blk_alloc ?_ _)); exact BK101.out) : p := h
theorem q39_2 {p : Prop} (h : p := by repeat (first | (with_reducible first | exact HB.out | apply below_alloc | apply pw_below_drewN | apply below_drew1) | exact HB.out)) : p := h
theorem q39_3 {p : Prop} (h : p := by repeat (first | (with_reducible first | exact HB.out | apply below_alloc | apply pw_below_drewN | apply below_drew1 | refine below_set ?_ GE101.out) | exact HB.out)) : p := h
theorem q39_4 {p : Prop} (h : p := by (with_reducible repeat (first | refine blk_drewN ?_ _ | refine blk_drew ?_ | refine blk_alloc ?_ _)); exact BK101.out) : p := h
/-! ### spec_l1Base: function 137 -/
def spec_l1Base.f (a0 : Int) : Option (ByteArray × (List (S46))) := if a0 = 0 then (some ((⟨#[65]⟩ : ByteArray), (([(⟨(⟨#[65]⟩ : ByteArray), (⟨#[97, 65, 98]⟩ : ByteArray)⟩ : S46), (⟨(⟨#[65]⟩ : ByteArray), (⟨#[]⟩ : ByteArray)⟩ : S46)] : List (S46))))) else (if a0 = 1 then (some ((⟨#[65]⟩ : ByteArray), (([(⟨(⟨#[65]⟩ : ByteArray), (⟨#[65, 98, 66]⟩ : ByteArray)⟩ : S46), (⟨(⟨#[65]⟩ : ByteArray), (⟨#[66]⟩ : ByteArray)⟩ : S46), (⟨(⟨#[66]⟩ : ByteArray), (⟨#[97]⟩ : ByteArray)⟩ : S46), (⟨(⟨#[66]⟩ : ByteArray), (⟨#[99, 65, 100]⟩ : ByteArray)⟩ : S46)] : List (S46))))) else (if a0 = 2 then (some ((⟨#[65]⟩ : ByteArray), (([(⟨(⟨#[65]⟩ : ByteArray), (⟨#[65, 98, 65]⟩ : ByteArray)⟩ : S46), (⟨(⟨#[65]⟩ : ByteArray), (⟨#[97]⟩ : ByteArray)⟩ : S46)] : List (S46))))) else (if a0 = 3 then (some ((⟨#[65]⟩ : ByteArray), (([(⟨(⟨#[65]⟩ : ByteArray), (⟨#[66, 67]⟩ : ByteArray)⟩ : S46), (⟨(⟨#[66]⟩ : ByteArray), (⟨#[97, 66]⟩ : ByteArray)⟩ : S46), (⟨(⟨#[66]⟩ : ByteArray), (⟨#[]⟩ : ByteArray)⟩ : S46), (⟨(⟨#[67]⟩ : ByteArray), (⟨#[98]⟩ : ByteArray)⟩ : S46), (⟨(⟨#[67]⟩ : ByteArray), (⟨#[68]⟩ : ByteArray)⟩ : S46), (⟨(⟨#[68]⟩ : ByteArray), (⟨#[68, 99]⟩ : ByteArray)⟩ : S46)] : List (S46))))) else (if a0 = 4 then (some ((⟨#[65]⟩ : ByteArray), (([(⟨(⟨#[65]⟩ : ByteArray), (⟨#[97, 66]⟩ : ByteArray)⟩ : S46), (⟨(⟨#[65]⟩ : ByteArray), (⟨#[98, 65]⟩ : ByteArray)⟩ : S46), (⟨(⟨#[66]⟩ : ByteArray), (⟨#[65]⟩ : ByteArray)⟩ : S46), (⟨(⟨#[66]⟩ : ByteArray), (⟨#[99]⟩ : ByteArray)⟩ : S46), (⟨(⟨#[66]⟩ : ByteArray), (⟨#[66]⟩ : ByteArray)⟩ : S46)] : List (S46))))) else (if a0 = 5 then (some ((⟨#[65]⟩ : ByteArray), (([(⟨(⟨#[65]⟩ : ByteArray), (⟨#[97, 65]⟩ : ByteArray)⟩ : S46), (⟨(⟨#[65]⟩ : ByteArray), (⟨#[97, 65, 98, 65]⟩ : ByteArray)⟩ : S46), (⟨(⟨#[65]⟩ : ByteArray), (⟨#[99]⟩ : ByteArray)⟩ : S46)] : List (S46))))) else (if a0 = 6 then (some ((⟨#[65]⟩ : ByteArray), (([(⟨(⟨#[65]⟩ : ByteArray), (⟨#[66, 66]⟩ : ByteArray)⟩ : S46), (⟨(⟨#[66]⟩ : ByteArray), (⟨#[97, 66]⟩ : ByteArray)⟩ : S46), (⟨(⟨#[66]⟩ : ByteArray), (⟨#[98]⟩ : ByteArray)⟩ : S46)] : List (S46))))) else (some ((⟨#[65]⟩ : ByteArray), (([] : List (S46)))))))))))
set_option maxHeartbeats 8000000 in
set_option maxRecDepth 100000 in
theorem spec_l1Base.calls (a0 : Int) (r1 : ByteArray) (r2 : List (S46)) (w : World) (h : spec_l1Base.f a0 = some (r1, r2)) :
  Calls Tryd.prog 137 #[.int .i64 a0] w fun e w' => ∃ v1_ : Value, e = .returned (.agg #[.string r1, v1_]) ∧ Kd.R k46 46 w' w.heap.size (fun _ => True) v1_ r2 ∧ Below w.heap.size w w' := by
 have hu25 := Tryd.underlying25
 have hu46 := Tryd.underlying46
 have HB := Aside0.mk (Below.refl w.heap.size w)
 have H : (if a0 = 0 then (some ((⟨#[65]⟩ : ByteArray), (([(⟨(⟨#[65]⟩ : ByteArray), (⟨#[97, 65, 98]⟩ : ByteArray)⟩ : S46), (⟨(⟨#[65]⟩ : ByteArray), (⟨#[]⟩ : ByteArray)⟩ : S46)] : List (S46))))) else (if a0 = 1 then (some ((⟨#[65]⟩ : ByteArray), (([(⟨(⟨#[65]⟩ : ByteArray), (⟨#[65, 98, 66]⟩ : ByteArray)⟩ : S46), (⟨(⟨#[65]⟩ : ByteArray), (⟨#[66]⟩ : ByteArray)⟩ : S46), (⟨(⟨#[66]⟩ : ByteArray), (⟨#[97]⟩ : ByteArray)⟩ : S46), (⟨(⟨#[66]⟩ : ByteArray), (⟨#[99, 65, 100]⟩ : ByteArray)⟩ : S46)] : List (S46))))) else (if a0 = 2 then (some ((⟨#[65]⟩ : ByteArray), (([(⟨(⟨#[65]⟩ : ByteArray), (⟨#[65, 98, 65]⟩ : ByteArray)⟩ : S46), (⟨(⟨#[65]⟩ : ByteArray), (⟨#[97]⟩ : ByteArray)⟩ : S46)] : List (S46))))) else (if a0 = 3 then (some ((⟨#[65]⟩ : ByteArray), (([(⟨(⟨#[65]⟩ : ByteArray), (⟨#[66, 67]⟩ : ByteArray)⟩ : S46), (⟨(⟨#[66]⟩ : ByteArray), (⟨#[97, 66]⟩ : ByteArray)⟩ : S46), (⟨(⟨#[66]⟩ : ByteArray), (⟨#[]⟩ : ByteArray)⟩ : S46), (⟨(⟨#[67]⟩ : ByteArray), (⟨#[98]⟩ : ByteArray)⟩ : S46), (⟨(⟨#[67]⟩ : ByteArray), (⟨#[68]⟩ : ByteArray)⟩ : S46), (⟨(⟨#[68]⟩ : ByteArray), (⟨#[68, 99]⟩ : ByteArray)⟩ : S46)] : List (S46))))) else (if a0 = 4 then (some ((⟨#[65]⟩ : ByteArray), (([(⟨(⟨#[65]⟩ : ByteArray), (⟨#[97, 66]⟩ : ByteArray)⟩ : S46), (⟨(⟨#[65]⟩ : ByteArray), (⟨#[98, 65]⟩ : ByteArray)⟩ : S46), (⟨(⟨#[66]⟩ : ByteArray), (⟨#[65]⟩ : ByteArray)⟩ : S46), (⟨(⟨#[66]⟩ : ByteArray), (⟨#[99]⟩ : ByteArray)⟩ : S46), (⟨(⟨#[66]⟩ : ByteArray), (⟨#[66]⟩ : ByteArray)⟩ : S46)] : List (S46))))) else (if a0 = 5 then (some ((⟨#[65]⟩ : ByteArray), (([(⟨(⟨#[65]⟩ : ByteArray), (⟨#[97, 65]⟩ : ByteArray)⟩ : S46), (⟨(⟨#[65]⟩ : ByteArray), (⟨#[97, 65, 98, 65]⟩ : ByteArray)⟩ : S46), (⟨(⟨#[65]⟩ : ByteArray), (⟨#[99]⟩ : ByteArray)⟩ : S46)] : List (S46))))) else (if a0 = 6 then (some ((⟨#[65]⟩ : ByteArray), (([(⟨(⟨#[65]⟩ : ByteArray), (⟨#[66, 66]⟩ : ByteArray)⟩ : S46), (⟨(⟨#[66]⟩ : ByteArray), (⟨#[97, 66]⟩ : ByteArray)⟩ : S46), (⟨(⟨#[66]⟩ : ByteArray), (⟨#[98]⟩ : ByteArray)⟩ : S46)] : List (S46))))) else (some ((⟨#[65]⟩ : ByteArray), (([] : List (S46)))))))))))) = some (r1, r2) := h
 clear h
 by_cases c2 : a0 = 0
 ·rw [if_pos c2] at H
  have c2b0 : (a0 == 0) = true := beq_iff_eq.mpr c2
  have c2b1 : (a0 != 0) = false := bne_eq_false_iff_eq.mpr c2
  clear c2
  obtain ⟨y102, hy102⟩ : ∃ y_ : List (S46), y_ = (([(⟨(⟨#[65]⟩ : ByteArray), (⟨#[97, 65, 98]⟩ : ByteArray)⟩ : S46), (⟨(⟨#[65]⟩ : ByteArray), (⟨#[]⟩ : ByteArray)⟩ : S46)] : List (S46))) := ⟨_, rfl⟩
  replace H : (some ((⟨#[65]⟩ : ByteArray), y102)) = some (r1, r2) := by first | (rw [hy102]; with_reducible exact H) | (have H2_ := (Option.bind_some _ _).symm.trans H; rw [hy102]; with_reducible exact H2_) | (have H2_ := (Option.bind_some _ _).symm.trans H; with_reducible exact H2_) | with_reducible exact H | (rw [hy102]; exact H) | exact H
  have Ny102 := Aside0.mk hy102
  clear hy102
  simp only [Option.some.injEq, Prod.mk.injEq] at H
  obtain ⟨rfl, rfl⟩ := H
  go_enter Tryd.func137, Tryd.ntmps137
  go_wp2_with (first | ((with_reducible refine gate_dst (N := 2) rfl ?_); refine box_event ?hg (N := 2) ?hd (cs := #[.string (⟨#[]⟩ : ByteArray), .slice none 0 0]) (t := 25) ?hr ?_; (case hd => rfl); (case hg => rfl); (case hr => first | (go_simp; done) | (go_simp; rfl)); intro gb101 hg w3 hbox hb; have n0_ := Aside0.mk (below_step q39_2 hb); have n1_ := Aside0.mk (hbox); have n2_ := Aside0.mk ((by rw [hg]; exact (below_size q39_2) : w.heap.size ≤ gb101)); have n3_ := Aside0.mk ((by rw [hg]; exact (below_size q39_2) : w.heap.size ≤ gb101)); clear HB; have HB := n0_; have BK101 := n1_; have GW101 := n2_; have GE101 := n3_; clear n0_ n1_ n2_ n3_; clear hb hbox hg) | ((with_reducible refine gate_dst (N := 8) rfl ?_); refine Kd.R_lit k46 _ 46 ?hg (N := 8) ?hd (xs := ([(⟨(⟨#[65]⟩ : ByteArray), (⟨#[97, 65, 98]⟩ : ByteArray)⟩ : S46), (⟨(⟨#[65]⟩ : ByteArray), (⟨#[]⟩ : ByteArray)⟩ : S46)] : List (S46))) (inner := [.string (⟨#[65]⟩ : ByteArray), .string (⟨#[97, 65, 98]⟩ : ByteArray), .string (⟨#[65]⟩ : ByteArray), .string (⟨#[]⟩ : ByteArray)]) (ok := fun _ => True) (okp := fun _ => True) ?hr ?hp (fun _ hk => hk) trivial (Below.refl _ _) (Nat.le_refl _) (by simp) ?_; (case hd => rfl); (case hg => rfl); (case hr => first | (go_simp; done) | (go_simp; rfl)); (case hp => exact (Reps.c2 (show Kd.M k46 _ _ _ (⟨(⟨#[65]⟩ : ByteArray), (⟨#[97, 65, 98]⟩ : ByteArray)⟩ : S46) [.string (⟨#[65]⟩ : ByteArray), .string (⟨#[97, 65, 98]⟩ : ByteArray)] from (k46_mkM _ _ _ (⟨(⟨#[65]⟩ : ByteArray), (⟨#[97, 65, 98]⟩ : ByteArray)⟩ : S46) )) (Reps.c2 (show Kd.M k46 _ _ _ (⟨(⟨#[65]⟩ : ByteArray), (⟨#[]⟩ : ByteArray)⟩ : S46) [.string (⟨#[65]⟩ : ByteArray), .string (⟨#[]⟩ : ByteArray)] from (k46_mkM _ _ _ (⟨(⟨#[65]⟩ : ByteArray), (⟨#[]⟩ : ByteArray)⟩ : S46) )) (Reps.none _ _)))); intro v103 w4 ho5 hb hg_ hnew_; clear hg_ hnew_; (first | rw [← Ny102.out] at ho5 | (simp only [Int.reduceToNat] at ho5; rw [← Ny102.out] at ho5)); have n0_ := Aside0.mk (Kd.R_lower ho5 (below_size q39_3)); have n1_ := Aside0.mk (blk_below (g := gb101) (o := .cells #[.string (⟨#[]⟩ : ByteArray), .slice none 0 0] 25 (0, 0)) q39_4 hb); have n2_ := Aside0.mk (below_step q39_3 hb); clear BK101; clear HB; have HO104 := n0_; have BK101 := n1_; have HB := n2_; clear n0_ n1_ n2_; clear hb ho5; obtain ⟨Ao6, co6, eo6⟩ := Kd.R_slice HO104.out; subst eo6; have hcz7_0 : w4.cell? ⟨gb101, 0, none⟩ = some (.string (⟨#[]⟩ : ByteArray)) := (blk_cell BK101.out 0).trans rfl; have hcz7_1 : w4.cell? ⟨gb101, 1, none⟩ = some (.slice none 0 0) := (blk_cell BK101.out 1).trans rfl; have hfz7_0 := blk_frozen BK101.out 0; have hfz7_1 := blk_frozen BK101.out 1))
  refine bodyPost_ret (results_cell_row rfl _ _ gb101 25 #[.string (⟨#[65]⟩ : ByteArray), .slice Ao6 y102.length co6] (0, 0) _ rfl q39_1 Tryd.underlying25 rfl (by kernel_rfl)) rfl ?_
  exact ⟨_, by first | rfl | (simp [errW_none, errW_some] <;> rfl) | (simp [*, errW_none, errW_some] <;> rfl), by (with_reducible repeat (first | apply Kd.R_alloc | apply Kd.R_drewN | apply Kd.R_drew)); exact Kd.R_mono (Kd.R_far (p := ⟨gb101, 1, none⟩) (Kd.R_far (p := ⟨gb101, 0, none⟩) (Kd.R_types HO104.out BK101.out (by decide)) (fun _ hk => hk.2) (.string (⟨#[65]⟩ : ByteArray))) (fun _ hk => hk.2) (.slice Ao6 y102.length co6)) (fun _ hk => trivial), by repeat (first | (with_reducible first | exact HB.out | apply below_alloc | apply pw_below_drewN | apply below_drew1 | refine below_set ?_ GE101.out) | exact HB.out)⟩
 ·rw [if_neg c2] at H
  have c2b0 : (a0 == 0) = false := beq_eq_false_iff_ne.mpr c2
  have c2b1 : (a0 != 0) = true := bne_iff_ne.mpr c2
  by_cases c8 : a0 = 1
  ·rw [if_pos c8] at H
   have c8b0 : (a0 == 1) = true := beq_iff_eq.mpr c8
   have c8b1 : (a0 != 1) = false := bne_eq_false_iff_eq.mpr c8
   clear c8
   obtain ⟨y105, hy105⟩ : ∃ y_ : List (S46), y_ = (([(⟨(⟨#[65]⟩ : ByteArray), (⟨#[65, 98, 66]⟩ : ByteArray)⟩ : S46), (⟨(⟨#[65]⟩ : ByteArray), (⟨#[66]⟩ : ByteArray)⟩ : S46), (⟨(⟨#[66]⟩ : ByteArray), (⟨#[97]⟩ : ByteArray)⟩ : S46), (⟨(⟨#[66]⟩ : ByteArray), (⟨#[99, 65, 100]⟩ : ByteArray)⟩ : S46)] : List (S46))) := ⟨_, rfl⟩
   replace H : (some ((⟨#[65]⟩ : ByteArray), y105)) = some (r1, r2) := by first | (rw [hy105]; with_reducible exact H) | (have H2_ := (Option.bind_some _ _).symm.trans H; rw [hy105]; with_reducible exact H2_) | (have H2_ := (Option.bind_some _ _).symm.trans H; with_reducible exact H2_) | with_reducible exact H | (rw [hy105]; exact H) | exact H
   have Ny105 := Aside0.mk hy105
   clear hy105
   simp only [Option.some.injEq, Prod.mk.injEq] at H
   obtain ⟨rfl, rfl⟩ := H
   go_enter Tryd.func137, Tryd.ntmps137
   go_wp2_with (first | ((with_reducible refine gate_dst (N := 2) rfl ?_); refine box_event ?hg (N := 2) ?hd (cs := #[.string (⟨#[]⟩ : ByteArray), .slice none 0 0]) (t := 25) ?hr ?_; (case hd => rfl); (case hg => rfl); (case hr => first | (go_simp; done) | (go_simp; rfl)); intro gb101 hg w9 hbox hb; have n0_ := Aside0.mk (below_step q39_2 hb); have n1_ := Aside0.mk (hbox); have n2_ := Aside0.mk ((by rw [hg]; exact (below_size q39_2) : w.heap.size ≤ gb101)); have n3_ := Aside0.mk ((by rw [hg]; exact (below_size q39_2) : w.heap.size ≤ gb101)); clear HB; have HB := n0_; have BK101 := n1_; have GW101 := n2_; have GE101 := n3_; clear n0_ n1_ n2_ n3_; clear hb hbox hg) | ((with_reducible refine gate_dst (N := 16) rfl ?_); refine Kd.R_lit k46 _ 46 ?hg (N := 16) ?hd (xs := ([(⟨(⟨#[65]⟩ : ByteArray), (⟨#[65, 98, 66]⟩ : ByteArray)⟩ : S46), (⟨(⟨#[65]⟩ : ByteArray), (⟨#[66]⟩ : ByteArray)⟩ : S46), (⟨(⟨#[66]⟩ : ByteArray), (⟨#[97]⟩ : ByteArray)⟩ : S46), (⟨(⟨#[66]⟩ : ByteArray), (⟨#[99, 65, 100]⟩ : ByteArray)⟩ : S46)] : List (S46))) (inner := [.string (⟨#[65]⟩ : ByteArray), .string (⟨#[65, 98, 66]⟩ : ByteArray), .string (⟨#[65]⟩ : ByteArray), .string (⟨#[66]⟩ : ByteArray), .string (⟨#[66]⟩ : ByteArray), .string (⟨#[97]⟩ : ByteArray), .string (⟨#[66]⟩ : ByteArray), .string (⟨#[99, 65, 100]⟩ : ByteArray)]) (ok := fun _ => True) (okp := fun _ => True) ?hr ?hp (fun _ hk => hk) trivial (Below.refl _ _) (Nat.le_refl _) (by simp) ?_; (case hd => rfl); (case hg => rfl); (case hr => first | (go_simp; done) | (go_simp; rfl)); (case hp => exact (Reps.c2 (show Kd.M k46 _ _ _ (⟨(⟨#[65]⟩ : ByteArray), (⟨#[65, 98, 66]⟩ : ByteArray)⟩ : S46) [.string (⟨#[65]⟩ : ByteArray), .string (⟨#[65, 98, 66]⟩ : ByteArray)] from (k46_mkM _ _ _ (⟨(⟨#[65]⟩ : ByteArray), (⟨#[65, 98, 66]⟩ : ByteArray)⟩ : S46) )) (Reps.c2 (show Kd.M k46 _ _ _ (⟨(⟨#[65]⟩ : ByteArray), (⟨#[66]⟩ : ByteArray)⟩ : S46) [.string (⟨#[65]⟩ : ByteArray), .string (⟨#[66]⟩ : ByteArray)] from (k46_mkM _ _ _ (⟨(⟨#[65]⟩ : ByteArray), (⟨#[66]⟩ : ByteArray)⟩ : S46) )) (Reps.c2 (show Kd.M k46 _ _ _ (⟨(⟨#[66]⟩ : ByteArray), (⟨#[97]⟩ : ByteArray)⟩ : S46) [.string (⟨#[66]⟩ : ByteArray), .string (⟨#[97]⟩ : ByteArray)] from (k46_mkM _ _ _ (⟨(⟨#[66]⟩ : ByteArray), (⟨#[97]⟩ : ByteArray)⟩ : S46) )) (Reps.c2 (show Kd.M k46 _ _ _ (⟨(⟨#[66]⟩ : ByteArray), (⟨#[99, 65, 100]⟩ : ByteArray)⟩ : S46) [.string (⟨#[66]⟩ : ByteArray), .string (⟨#[99, 65, 100]⟩ : ByteArray)] from (k46_mkM _ _ _ (⟨(⟨#[66]⟩ : ByteArray), (⟨#[99, 65, 100]⟩ : ByteArray)⟩ : S46) )) (Reps.none _ _)))))); intro v106 w10 ho11 hb hg_ hnew_; clear hg_ hnew_; (first | rw [← Ny105.out] at ho11 | (simp only [Int.reduceToNat] at ho11; rw [← Ny105.out] at ho11)); have n0_ := Aside0.mk (Kd.R_lower ho11 (below_size q39_3)); have n1_ := Aside0.mk (blk_below (g := gb101) (o := .cells #[.string (⟨#[]⟩ : ByteArray), .slice none 0 0] 25 (0, 0)) q39_4 hb); have n2_ := Aside0.mk (below_step q39_3 hb); clear BK101; clear HB; have HO107 := n0_; have BK101 := n1_; have HB := n2_; clear n0_ n1_ n2_; clear hb ho11; obtain ⟨Ao12, co12, eo12⟩ := Kd.R_slice HO107.out; subst eo12; have hcz13_0 : w10.cell? ⟨gb101, 0, none⟩ = some (.string (⟨#[]⟩ : ByteArray)) := (blk_cell BK101.out 0).trans rfl; have hcz13_1 : w10.cell? ⟨gb101, 1, none⟩ = some (.slice none 0 0) := (blk_cell BK101.out 1).trans rfl; have hfz13_0 := blk_frozen BK101.out 0; have hfz13_1 := blk_frozen BK101.out 1))
   refine bodyPost_ret (results_cell_row rfl _ _ gb101 25 #[.string (⟨#[65]⟩ : ByteArray), .slice Ao12 y105.length co12] (0, 0) _ rfl q39_1 Tryd.underlying25 rfl (by kernel_rfl)) rfl ?_
   exact ⟨_, by first | rfl | (simp [errW_none, errW_some] <;> rfl) | (simp [*, errW_none, errW_some] <;> rfl), by (with_reducible repeat (first | apply Kd.R_alloc | apply Kd.R_drewN | apply Kd.R_drew)); exact Kd.R_mono (Kd.R_far (p := ⟨gb101, 1, none⟩) (Kd.R_far (p := ⟨gb101, 0, none⟩) (Kd.R_types HO107.out BK101.out (by decide)) (fun _ hk => hk.2) (.string (⟨#[65]⟩ : ByteArray))) (fun _ hk => hk.2) (.slice Ao12 y105.length co12)) (fun _ hk => trivial), by repeat (first | (with_reducible first | exact HB.out | apply below_alloc | apply pw_below_drewN | apply below_drew1 | refine below_set ?_ GE101.out) | exact HB.out)⟩
  ·rw [if_neg c8] at H
   have c8b0 : (a0 == 1) = false := beq_eq_false_iff_ne.mpr c8
   have c8b1 : (a0 != 1) = true := bne_iff_ne.mpr c8
   by_cases c14 : a0 = 2
   ·rw [if_pos c14] at H
    have c14b0 : (a0 == 2) = true := beq_iff_eq.mpr c14
    have c14b1 : (a0 != 2) = false := bne_eq_false_iff_eq.mpr c14
    clear c14
    obtain ⟨y108, hy108⟩ : ∃ y_ : List (S46), y_ = (([(⟨(⟨#[65]⟩ : ByteArray), (⟨#[65, 98, 65]⟩ : ByteArray)⟩ : S46), (⟨(⟨#[65]⟩ : ByteArray), (⟨#[97]⟩ : ByteArray)⟩ : S46)] : List (S46))) := ⟨_, rfl⟩
    replace H : (some ((⟨#[65]⟩ : ByteArray), y108)) = some (r1, r2) := by first | (rw [hy108]; with_reducible exact H) | (have H2_ := (Option.bind_some _ _).symm.trans H; rw [hy108]; with_reducible exact H2_) | (have H2_ := (Option.bind_some _ _).symm.trans H; with_reducible exact H2_) | with_reducible exact H | (rw [hy108]; exact H) | exact H
    have Ny108 := Aside0.mk hy108
    clear hy108
    simp only [Option.some.injEq, Prod.mk.injEq] at H
    obtain ⟨rfl, rfl⟩ := H
    go_enter Tryd.func137, Tryd.ntmps137
    go_wp2_with (first | ((with_reducible refine gate_dst (N := 2) rfl ?_); refine box_event ?hg (N := 2) ?hd (cs := #[.string (⟨#[]⟩ : ByteArray), .slice none 0 0]) (t := 25) ?hr ?_; (case hd => rfl); (case hg => rfl); (case hr => first | (go_simp; done) | (go_simp; rfl)); intro gb101 hg w15 hbox hb; have n0_ := Aside0.mk (below_step q39_2 hb); have n1_ := Aside0.mk (hbox); have n2_ := Aside0.mk ((by rw [hg]; exact (below_size q39_2) : w.heap.size ≤ gb101)); have n3_ := Aside0.mk ((by rw [hg]; exact (below_size q39_2) : w.heap.size ≤ gb101)); clear HB; have HB := n0_; have BK101 := n1_; have GW101 := n2_; have GE101 := n3_; clear n0_ n1_ n2_ n3_; clear hb hbox hg) | ((with_reducible refine gate_dst (N := 22) rfl ?_); refine Kd.R_lit k46 _ 46 ?hg (N := 22) ?hd (xs := ([(⟨(⟨#[65]⟩ : ByteArray), (⟨#[65, 98, 65]⟩ : ByteArray)⟩ : S46), (⟨(⟨#[65]⟩ : ByteArray), (⟨#[97]⟩ : ByteArray)⟩ : S46)] : List (S46))) (inner := [.string (⟨#[65]⟩ : ByteArray), .string (⟨#[65, 98, 65]⟩ : ByteArray), .string (⟨#[65]⟩ : ByteArray), .string (⟨#[97]⟩ : ByteArray)]) (ok := fun _ => True) (okp := fun _ => True) ?hr ?hp (fun _ hk => hk) trivial (Below.refl _ _) (Nat.le_refl _) (by simp) ?_; (case hd => rfl); (case hg => rfl); (case hr => first | (go_simp; done) | (go_simp; rfl)); (case hp => exact (Reps.c2 (show Kd.M k46 _ _ _ (⟨(⟨#[65]⟩ : ByteArray), (⟨#[65, 98, 65]⟩ : ByteArray)⟩ : S46) [.string (⟨#[65]⟩ : ByteArray), .string (⟨#[65, 98, 65]⟩ : ByteArray)] from (k46_mkM _ _ _ (⟨(⟨#[65]⟩ : ByteArray), (⟨#[65, 98, 65]⟩ : ByteArray)⟩ : S46) )) (Reps.c2 (show Kd.M k46 _ _ _ (⟨(⟨#[65]⟩ : ByteArray), (⟨#[97]⟩ : ByteArray)⟩ : S46) [.string (⟨#[65]⟩ : ByteArray), .string (⟨#[97]⟩ : ByteArray)] from (k46_mkM _ _ _ (⟨(⟨#[65]⟩ : ByteArray), (⟨#[97]⟩ : ByteArray)⟩ : S46) )) (Reps.none _ _)))); intro v109 w16 ho17 hb hg_ hnew_; clear hg_ hnew_; (first | rw [← Ny108.out] at ho17 | (simp only [Int.reduceToNat] at ho17; rw [← Ny108.out] at ho17)); have n0_ := Aside0.mk (Kd.R_lower ho17 (below_size q39_3)); have n1_ := Aside0.mk (blk_below (g := gb101) (o := .cells #[.string (⟨#[]⟩ : ByteArray), .slice none 0 0] 25 (0, 0)) q39_4 hb); have n2_ := Aside0.mk (below_step q39_3 hb); clear BK101; clear HB; have HO110 := n0_; have BK101 := n1_; have HB := n2_; clear n0_ n1_ n2_; clear hb ho17; obtain ⟨Ao18, co18, eo18⟩ := Kd.R_slice HO110.out; subst eo18; have hcz19_0 : w16.cell? ⟨gb101, 0, none⟩ = some (.string (⟨#[]⟩ : ByteArray)) := (blk_cell BK101.out 0).trans rfl; have hcz19_1 : w16.cell? ⟨gb101, 1, none⟩ = some (.slice none 0 0) := (blk_cell BK101.out 1).trans rfl; have hfz19_0 := blk_frozen BK101.out 0; have hfz19_1 := blk_frozen BK101.out 1))
    refine bodyPost_ret (results_cell_row rfl _ _ gb101 25 #[.string (⟨#[65]⟩ : ByteArray), .slice Ao18 y108.length co18] (0, 0) _ rfl q39_1 Tryd.underlying25 rfl (by kernel_rfl)) rfl ?_
    exact ⟨_, by first | rfl | (simp [errW_none, errW_some] <;> rfl) | (simp [*, errW_none, errW_some] <;> rfl), by (with_reducible repeat (first | apply Kd.R_alloc | apply Kd.R_drewN | apply Kd.R_drew)); exact Kd.R_mono (Kd.R_far (p := ⟨gb101, 1, none⟩) (Kd.R_far (p := ⟨gb101, 0, none⟩) (Kd.R_types HO110.out BK101.out (by decide)) (fun _ hk => hk.2) (.string (⟨#[65]⟩ : ByteArray))) (fun _ hk => hk.2) (.slice Ao18 y108.length co18)) (fun _ hk => trivial), by repeat (first | (with_reducible first | exact HB.out | apply below_alloc | apply pw_below_drewN | apply below_drew1 | refine below_set ?_ GE101.out) | exact HB.out)⟩
   ·rw [if_neg c14] at H
    have c14b0 : (a0 == 2) = false := beq_eq_false_iff_ne.mpr c14
    have c14b1 : (a0 != 2) = true := bne_iff_ne.mpr c14
    by_cases c20 : a0 = 3
    ·rw [if_pos c20] at H
     have c20b0 : (a0 == 3) = true := beq_iff_eq.mpr c20
     have c20b1 : (a0 != 3) = false := bne_eq_false_iff_eq.mpr c20
     clear c20
     obtain ⟨y111, hy111⟩ : ∃ y_ : List (S46), y_ = (([(⟨(⟨#[65]⟩ : ByteArray), (⟨#[66, 67]⟩ : ByteArray)⟩ : S46), (⟨(⟨#[66]⟩ : ByteArray), (⟨#[97, 66]⟩ : ByteArray)⟩ : S46), (⟨(⟨#[66]⟩ : ByteArray), (⟨#[]⟩ : ByteArray)⟩ : S46), (⟨(⟨#[67]⟩ : ByteArray), (⟨#[98]⟩ : ByteArray)⟩ : S46), (⟨(⟨#[67]⟩ : ByteArray), (⟨#[68]⟩ : ByteArray)⟩ : S46), (⟨(⟨#[68]⟩ : ByteArray), (⟨#[68, 99]⟩ : ByteArray)⟩ : S46)] : List (S46))) := ⟨_, rfl⟩
     replace H : (some ((⟨#[65]⟩ : ByteArray), y111)) = some (r1, r2) := by first | (rw [hy111]; with_reducible exact H) | (have H2_ := (Option.bind_some _ _).symm.trans H; rw [hy111]; with_reducible exact H2_) | (have H2_ := (Option.bind_some _ _).symm.trans H; with_reducible exact H2_) | with_reducible exact H | (rw [hy111]; exact H) | exact H
     have Ny111 := Aside0.mk hy111
     clear hy111
     simp only [Option.some.injEq, Prod.mk.injEq] at H
     obtain ⟨rfl, rfl⟩ := H
     go_enter Tryd.func137, Tryd.ntmps137
     go_wp2_with (first | ((with_reducible refine gate_dst (N := 2) rfl ?_); refine box_event ?hg (N := 2) ?hd (cs := #[.string (⟨#[]⟩ : ByteArray), .slice none 0 0]) (t := 25) ?hr ?_; (case hd => rfl); (case hg => rfl); (case hr => first | (go_simp; done) | (go_simp; rfl)); intro gb101 hg w21 hbox hb; have n0_ := Aside0.mk (below_step q39_2 hb); have n1_ := Aside0.mk (hbox); have n2_ := Aside0.mk ((by rw [hg]; exact (below_size q39_2) : w.heap.size ≤ gb101)); have n3_ := Aside0.mk ((by rw [hg]; exact (below_size q39_2) : w.heap.size ≤ gb101)); clear HB; have HB := n0_; have BK101 := n1_; have GW101 := n2_; have GE101 := n3_; clear n0_ n1_ n2_ n3_; clear hb hbox hg) | ((with_reducible refine gate_dst (N := 32) rfl ?_); refine Kd.R_lit k46 _ 46 ?hg (N := 32) ?hd (xs := ([(⟨(⟨#[65]⟩ : ByteArray), (⟨#[66, 67]⟩ : ByteArray)⟩ : S46), (⟨(⟨#[66]⟩ : ByteArray), (⟨#[97, 66]⟩ : ByteArray)⟩ : S46), (⟨(⟨#[66]⟩ : ByteArray), (⟨#[]⟩ : ByteArray)⟩ : S46), (⟨(⟨#[67]⟩ : ByteArray), (⟨#[98]⟩ : ByteArray)⟩ : S46), (⟨(⟨#[67]⟩ : ByteArray), (⟨#[68]⟩ : ByteArray)⟩ : S46), (⟨(⟨#[68]⟩ : ByteArray), (⟨#[68, 99]⟩ : ByteArray)⟩ : S46)] : List (S46))) (inner := [.string (⟨#[65]⟩ : ByteArray), .string (⟨#[66, 67]⟩ : ByteArray), .string (⟨#[66]⟩ : ByteArray), .string (⟨#[97, 66]⟩ : ByteArray), .string (⟨#[66]⟩ : ByteArray), .string (⟨#[]⟩ : ByteArray), .string (⟨#[67]⟩ : ByteArray), .string (⟨#[98]⟩ : ByteArray), .string (⟨#[67]⟩ : ByteArray), .string (⟨#[68]⟩ : ByteArray), .string (⟨#[68]⟩ : ByteArray), .string (⟨#[68, 99]⟩ : ByteArray)]) (ok := fun _ => True) (okp := fun _ => True) ?hr ?hp (fun _ hk => hk) trivial (Below.refl _ _) (Nat.le_refl _) (by simp) ?_; (case hd => rfl); (case hg => rfl); (case hr => first | (go_simp; done) | (go_simp; rfl)); (case hp => exact (Reps.c2 (show Kd.M k46 _ _ _ (⟨(⟨#[65]⟩ : ByteArray), (⟨#[66, 67]⟩ : ByteArray)⟩ : S46) [.string (⟨#[65]⟩ : ByteArray), .string (⟨#[66, 67]⟩ : ByteArray)] from (k46_mkM _ _ _ (⟨(⟨#[65]⟩ : ByteArray), (⟨#[66, 67]⟩ : ByteArray)⟩ : S46) )) (Reps.c2 (show Kd.M k46 _ _ _ (⟨(⟨#[66]⟩ : ByteArray), (⟨#[97, 66]⟩ : ByteArray)⟩ : S46) [.string (⟨#[66]⟩ : ByteArray), .string (⟨#[97, 66]⟩ : ByteArray)] from (k46_mkM _ _ _ (⟨(⟨#[66]⟩ : ByteArray), (⟨#[97, 66]⟩ : ByteArray)⟩ : S46) )) (Reps.c2 (show Kd.M k46 _ _ _ (⟨(⟨#[66]⟩ : ByteArray), (⟨#[]⟩ : ByteArray)⟩ : S46) [.string (⟨#[66]⟩ : ByteArray), .string (⟨#[]⟩ : ByteArray)] from (k46_mkM _ _ _ (⟨(⟨#[66]⟩ : ByteArray), (⟨#[]⟩ : ByteArray)⟩ : S46) )) (Reps.c2 (show Kd.M k46 _ _ _ (⟨(⟨#[67]⟩ : ByteArray), (⟨#[98]⟩ : ByteArray)⟩ : S46) [.string (⟨#[67]⟩ : ByteArray), .string (⟨#[98]⟩ : ByteArray)] from (k46_mkM _ _ _ (⟨(⟨#[67]⟩ : ByteArray), (⟨#[98]⟩ : ByteArray)⟩ : S46) )) (Reps.c2 (show Kd.M k46 _ _ _ (⟨(⟨#[67]⟩ : ByteArray), (⟨#[68]⟩ : ByteArray)⟩ : S46) [.string (⟨#[67]⟩ : ByteArray), .string (⟨#[68]⟩ : ByteArray)] from (k46_mkM _ _ _ (⟨(⟨#[67]⟩ : ByteArray), (⟨#[68]⟩ : ByteArray)⟩ : S46) )) (Reps.c2 (show Kd.M k46 _ _ _ (⟨(⟨#[68]⟩ : ByteArray), (⟨#[68, 99]⟩ : ByteArray)⟩ : S46) [.string (⟨#[68]⟩ : ByteArray), .string (⟨#[68, 99]⟩ : ByteArray)] from (k46_mkM _ _ _ (⟨(⟨#[68]⟩ : ByteArray), (⟨#[68, 99]⟩ : ByteArray)⟩ : S46) )) (Reps.none _ _)))))))); intro v112 w22 ho23 hb hg_ hnew_; clear hg_ hnew_; (first | rw [← Ny111.out] at ho23 | (simp only [Int.reduceToNat] at ho23; rw [← Ny111.out] at ho23)); have n0_ := Aside0.mk (Kd.R_lower ho23 (below_size q39_3)); have n1_ := Aside0.mk (blk_below (g := gb101) (o := .cells #[.string (⟨#[]⟩ : ByteArray), .slice none 0 0] 25 (0, 0)) q39_4 hb); have n2_ := Aside0.mk (below_step q39_3 hb); clear BK101; clear HB; have HO113 := n0_; have BK101 := n1_; have HB := n2_; clear n0_ n1_ n2_; clear hb ho23; obtain ⟨Ao24, co24, eo24⟩ := Kd.R_slice HO113.out; subst eo24; have hcz25_0 : w22.cell? ⟨gb101, 0, none⟩ = some (.string (⟨#[]⟩ : ByteArray)) := (blk_cell BK101.out 0).trans rfl; have hcz25_1 : w22.cell? ⟨gb101, 1, none⟩ = some (.slice none 0 0) := (blk_cell BK101.out 1).trans rfl; have hfz25_0 := blk_frozen BK101.out 0; have hfz25_1 := blk_frozen BK101.out 1))
     refine bodyPost_ret (results_cell_row rfl _ _ gb101 25 #[.string (⟨#[65]⟩ : ByteArray), .slice Ao24 y111.length co24] (0, 0) _ rfl q39_1 Tryd.underlying25 rfl (by kernel_rfl)) rfl ?_
     exact ⟨_, by first | rfl | (simp [errW_none, errW_some] <;> rfl) | (simp [*, errW_none, errW_some] <;> rfl), by (with_reducible repeat (first | apply Kd.R_alloc | apply Kd.R_drewN | apply Kd.R_drew)); exact Kd.R_mono (Kd.R_far (p := ⟨gb101, 1, none⟩) (Kd.R_far (p := ⟨gb101, 0, none⟩) (Kd.R_types HO113.out BK101.out (by decide)) (fun _ hk => hk.2) (.string (⟨#[65]⟩ : ByteArray))) (fun _ hk => hk.2) (.slice Ao24 y111.length co24)) (fun _ hk => trivial), by repeat (first | (with_reducible first | exact HB.out | apply below_alloc | apply pw_below_drewN | apply below_drew1 | refine below_set ?_ GE101.out) | exact HB.out)⟩
    ·rw [if_neg c20] at H
     have c20b0 : (a0 == 3) = false := beq_eq_false_iff_ne.mpr c20
     have c20b1 : (a0 != 3) = true := bne_iff_ne.mpr c20
     by_cases c26 : a0 = 4
     ·rw [if_pos c26] at H
      have c26b0 : (a0 == 4) = true := beq_iff_eq.mpr c26
      have c26b1 : (a0 != 4) = false := bne_eq_false_iff_eq.mpr c26
      clear c26
      obtain ⟨y114, hy114⟩ : ∃ y_ : List (S46), y_ = (([(⟨(⟨#[65]⟩ : ByteArray), (⟨#[97, 66]⟩ : ByteArray)⟩ : S46), (⟨(⟨#[65]⟩ : ByteArray), (⟨#[98, 65]⟩ : ByteArray)⟩ : S46), (⟨(⟨#[66]⟩ : ByteArray), (⟨#[65]⟩ : ByteArray)⟩ : S46), (⟨(⟨#[66]⟩ : ByteArray), (⟨#[99]⟩ : ByteArray)⟩ : S46), (⟨(⟨#[66]⟩ : ByteArray), (⟨#[66]⟩ : ByteArray)⟩ : S46)] : List (S46))) := ⟨_, rfl⟩
      replace H : (some ((⟨#[65]⟩ : ByteArray), y114)) = some (r1, r2) := by first | (rw [hy114]; with_reducible exact H) | (have H2_ := (Option.bind_some _ _).symm.trans H; rw [hy114]; with_reducible exact H2_) | (have H2_ := (Option.bind_some _ _).symm.trans H; with_reducible exact H2_) | with_reducible exact H | (rw [hy114]; exact H) | exact H
      have Ny114 := Aside0.mk hy114
      clear hy114
      simp only [Option.some.injEq, Prod.mk.injEq] at H
      obtain ⟨rfl, rfl⟩ := H
      go_enter Tryd.func137, Tryd.ntmps137
      go_wp2_with (first | ((with_reducible refine gate_dst (N := 2) rfl ?_); refine box_event ?hg (N := 2) ?hd (cs := #[.string (⟨#[]⟩ : ByteArray), .slice none 0 0]) (t := 25) ?hr ?_; (case hd => rfl); (case hg => rfl); (case hr => first | (go_simp; done) | (go_simp; rfl)); intro gb101 hg w27 hbox hb; have n0_ := Aside0.mk (below_step q39_2 hb); have n1_ := Aside0.mk (hbox); have n2_ := Aside0.mk ((by rw [hg]; exact (below_size q39_2) : w.heap.size ≤ gb101)); have n3_ := Aside0.mk ((by rw [hg]; exact (below_size q39_2) : w.heap.size ≤ gb101)); clear HB; have HB := n0_; have BK101 := n1_; have GW101 := n2_; have GE101 := n3_; clear n0_ n1_ n2_ n3_; clear hb hbox hg) | ((with_reducible refine gate_dst (N := 41) rfl ?_); refine Kd.R_lit k46 _ 46 ?hg (N := 41) ?hd (xs := ([(⟨(⟨#[65]⟩ : ByteArray), (⟨#[97, 66]⟩ : ByteArray)⟩ : S46), (⟨(⟨#[65]⟩ : ByteArray), (⟨#[98, 65]⟩ : ByteArray)⟩ : S46), (⟨(⟨#[66]⟩ : ByteArray), (⟨#[65]⟩ : ByteArray)⟩ : S46), (⟨(⟨#[66]⟩ : ByteArray), (⟨#[99]⟩ : ByteArray)⟩ : S46), (⟨(⟨#[66]⟩ : ByteArray), (⟨#[66]⟩ : ByteArray)⟩ : S46)] : List (S46))) (inner := [.string (⟨#[65]⟩ : ByteArray), .string (⟨#[97, 66]⟩ : ByteArray), .string (⟨#[65]⟩ : ByteArray), .string (⟨#[98, 65]⟩ : ByteArray), .string (⟨#[66]⟩ : ByteArray), .string (⟨#[65]⟩ : ByteArray), .string (⟨#[66]⟩ : ByteArray), .string (⟨#[99]⟩ : ByteArray), .string (⟨#[66]⟩ : ByteArray), .string (⟨#[66]⟩ : ByteArray)]) (ok := fun _ => True) (okp := fun _ => True) ?hr ?hp (fun _ hk => hk) trivial (Below.refl _ _) (Nat.le_refl _) (by simp) ?_; (case hd => rfl); (case hg => rfl); (case hr => first | (go_simp; done) | (go_simp; rfl)); (case hp => exact (Reps.c2 (show Kd.M k46 _ _ _ (⟨(⟨#[65]⟩ : ByteArray), (⟨#[97, 66]⟩ : ByteArray)⟩ : S46) [.string (⟨#[65]⟩ : ByteArray), .string (⟨#[97, 66]⟩ : ByteArray)] from (k46_mkM _ _ _ (⟨(⟨#[65]⟩ : ByteArray), (⟨#[97, 66]⟩ : ByteArray)⟩ : S46) )) (Reps.c2 (show Kd.M k46 _ _ _ (⟨(⟨#[65]⟩ : ByteArray), (⟨#[98, 65]⟩ : ByteArray)⟩ : S46) [.string (⟨#[65]⟩ : ByteArray), .string (⟨#[98, 65]⟩ : ByteArray)] from (k46_mkM _ _ _ (⟨(⟨#[65]⟩ : ByteArray), (⟨#[98, 65]⟩ : ByteArray)⟩ : S46) )) (Reps.c2 (show Kd.M k46 _ _ _ (⟨(⟨#[66]⟩ : ByteArray), (⟨#[65]⟩ : ByteArray)⟩ : S46) [.string (⟨#[66]⟩ : ByteArray), .string (⟨#[65]⟩ : ByteArray)] from (k46_mkM _ _ _ (⟨(⟨#[66]⟩ : ByteArray), (⟨#[65]⟩ : ByteArray)⟩ : S46) )) (Reps.c2 (show Kd.M k46 _ _ _ (⟨(⟨#[66]⟩ : ByteArray), (⟨#[99]⟩ : ByteArray)⟩ : S46) [.string (⟨#[66]⟩ : ByteArray), .string (⟨#[99]⟩ : ByteArray)] from (k46_mkM _ _ _ (⟨(⟨#[66]⟩ : ByteArray), (⟨#[99]⟩ : ByteArray)⟩ : S46) )) (Reps.c2 (show Kd.M k46 _ _ _ (⟨(⟨#[66]⟩ : ByteArray), (⟨#[66]⟩ : ByteArray)⟩ : S46) [.string (⟨#[66]⟩ : ByteArray), .string (⟨#[66]⟩ : ByteArray)] from (k46_mkM _ _ _ (⟨(⟨#[66]⟩ : ByteArray), (⟨#[66]⟩ : ByteArray)⟩ : S46) )) (Reps.none _ _))))))); intro v115 w28 ho29 hb hg_ hnew_; clear hg_ hnew_; (first | rw [← Ny114.out] at ho29 | (simp only [Int.reduceToNat] at ho29; rw [← Ny114.out] at ho29)); have n0_ := Aside0.mk (Kd.R_lower ho29 (below_size q39_3)); have n1_ := Aside0.mk (blk_below (g := gb101) (o := .cells #[.string (⟨#[]⟩ : ByteArray), .slice none 0 0] 25 (0, 0)) q39_4 hb); have n2_ := Aside0.mk (below_step q39_3 hb); clear BK101; clear HB; have HO116 := n0_; have BK101 := n1_; have HB := n2_; clear n0_ n1_ n2_; clear hb ho29; obtain ⟨Ao30, co30, eo30⟩ := Kd.R_slice HO116.out; subst eo30; have hcz31_0 : w28.cell? ⟨gb101, 0, none⟩ = some (.string (⟨#[]⟩ : ByteArray)) := (blk_cell BK101.out 0).trans rfl; have hcz31_1 : w28.cell? ⟨gb101, 1, none⟩ = some (.slice none 0 0) := (blk_cell BK101.out 1).trans rfl; have hfz31_0 := blk_frozen BK101.out 0; have hfz31_1 := blk_frozen BK101.out 1))
      refine bodyPost_ret (results_cell_row rfl _ _ gb101 25 #[.string (⟨#[65]⟩ : ByteArray), .slice Ao30 y114.length co30] (0, 0) _ rfl q39_1 Tryd.underlying25 rfl (by kernel_rfl)) rfl ?_
      exact ⟨_, by first | rfl | (simp [errW_none, errW_some] <;> rfl) | (simp [*, errW_none, errW_some] <;> rfl), by (with_reducible repeat (first | apply Kd.R_alloc | apply Kd.R_drewN | apply Kd.R_drew)); exact Kd.R_mono (Kd.R_far (p := ⟨gb101, 1, none⟩) (Kd.R_far (p := ⟨gb101, 0, none⟩) (Kd.R_types HO116.out BK101.out (by decide)) (fun _ hk => hk.2) (.string (⟨#[65]⟩ : ByteArray))) (fun _ hk => hk.2) (.slice Ao30 y114.length co30)) (fun _ hk => trivial), by repeat (first | (with_reducible first | exact HB.out | apply below_alloc | apply pw_below_drewN | apply below_drew1 | refine below_set ?_ GE101.out) | exact HB.out)⟩
     ·rw [if_neg c26] at H
      have c26b0 : (a0 == 4) = false := beq_eq_false_iff_ne.mpr c26
      have c26b1 : (a0 != 4) = true := bne_iff_ne.mpr c26
      by_cases c32 : a0 = 5
      ·rw [if_pos c32] at H
       have c32b0 : (a0 == 5) = true := beq_iff_eq.mpr c32
       have c32b1 : (a0 != 5) = false := bne_eq_false_iff_eq.mpr c32
       clear c32
       obtain ⟨y117, hy117⟩ : ∃ y_ : List (S46), y_ = (([(⟨(⟨#[65]⟩ : ByteArray), (⟨#[97, 65]⟩ : ByteArray)⟩ : S46), (⟨(⟨#[65]⟩ : ByteArray), (⟨#[97, 65, 98, 65]⟩ : ByteArray)⟩ : S46), (⟨(⟨#[65]⟩ : ByteArray), (⟨#[99]⟩ : ByteArray)⟩ : S46)] : List (S46))) := ⟨_, rfl⟩
       replace H : (some ((⟨#[65]⟩ : ByteArray), y117)) = some (r1, r2) := by first | (rw [hy117]; with_reducible exact H) | (have H2_ := (Option.bind_some _ _).symm.trans H; rw [hy117]; with_reducible exact H2_) | (have H2_ := (Option.bind_some _ _).symm.trans H; with_reducible exact H2_) | with_reducible exact H | (rw [hy117]; exact H) | exact H
       have Ny117 := Aside0.mk hy117
       clear hy117
       simp only [Option.some.injEq, Prod.mk.injEq] at H
       obtain ⟨rfl, rfl⟩ := H
       go_enter Tryd.func137, Tryd.ntmps137
       go_wp2_with (first | ((with_reducible refine gate_dst (N := 2) rfl ?_); refine box_event ?hg (N := 2) ?hd (cs := #[.string (⟨#[]⟩ : ByteArray), .slice none 0 0]) (t := 25) ?hr ?_; (case hd => rfl); (case hg => rfl); (case hr => first | (go_simp; done) | (go_simp; rfl)); intro gb101 hg w33 hbox hb; have n0_ := Aside0.mk (below_step q39_2 hb); have n1_ := Aside0.mk (hbox); have n2_ := Aside0.mk ((by rw [hg]; exact (below_size q39_2) : w.heap.size ≤ gb101)); have n3_ := Aside0.mk ((by rw [hg]; exact (below_size q39_2) : w.heap.size ≤ gb101)); clear HB; have HB := n0_; have BK101 := n1_; have GW101 := n2_; have GE101 := n3_; clear n0_ n1_ n2_ n3_; clear hb hbox hg) | ((with_reducible refine gate_dst (N := 48) rfl ?_); refine Kd.R_lit k46 _ 46 ?hg (N := 48) ?hd (xs := ([(⟨(⟨#[65]⟩ : ByteArray), (⟨#[97, 65]⟩ : ByteArray)⟩ : S46), (⟨(⟨#[65]⟩ : ByteArray), (⟨#[97, 65, 98, 65]⟩ : ByteArray)⟩ : S46), (⟨(⟨#[65]⟩ : ByteArray), (⟨#[99]⟩ : ByteArray)⟩ : S46)] : List (S46))) (inner := [.string (⟨#[65]⟩ : ByteArray), .string (⟨#[97, 65]⟩ : ByteArray), .string (⟨#[65]⟩ : ByteArray), .string (⟨#[97, 65, 98, 65]⟩ : ByteArray), .string (⟨#[65]⟩ : ByteArray), .string (⟨#[99]⟩ : ByteArray)]) (ok := fun _ => True) (okp := fun _ => True) ?hr ?hp (fun _ hk => hk) trivial (Below.refl _ _) (Nat.le_refl _) (by simp) ?_; (case hd => rfl); (case hg => rfl); (case hr => first | (go_simp; done) | (go_simp; rfl)); (case hp => exact (Reps.c2 (show Kd.M k46 _ _ _ (⟨(⟨#[65]⟩ : ByteArray), (⟨#[97, 65]⟩ : ByteArray)⟩ : S46) [.string (⟨#[65]⟩ : ByteArray), .string (⟨#[97, 65]⟩ : ByteArray)] from (k46_mkM _ _ _ (⟨(⟨#[65]⟩ : ByteArray), (⟨#[97, 65]⟩ : ByteArray)⟩ : S46) )) (Reps.c2 (show Kd.M k46 _ _ _ (⟨(⟨#[65]⟩ : ByteArray), (⟨#[97, 65, 98, 65]⟩ : ByteArray)⟩ : S46) [.string (⟨#[65]⟩ : ByteArray), .string (⟨#[97, 65, 98, 65]⟩ : ByteArray)] from (k46_mkM _ _ _ (⟨(⟨#[65]⟩ : ByteArray), (⟨#[97, 65, 98, 65]⟩ : ByteArray)⟩ : S46) )) (Reps.c2 (show Kd.M k46 _ _ _ (⟨(⟨#[65]⟩ : ByteArray), (⟨#[99]⟩ : ByteArray)⟩ : S46) [.string (⟨#[65]⟩ : ByteArray), .string (⟨#[99]⟩ : ByteArray)] from (k46_mkM _ _ _ (⟨(⟨#[65]⟩ : ByteArray), (⟨#[99]⟩ : ByteArray)⟩ : S46) )) (Reps.none _ _))))); intro v118 w34 ho35 hb hg_ hnew_; clear hg_ hnew_; (first | rw [← Ny117.out] at ho35 | (simp only [Int.reduceToNat] at ho35; rw [← Ny117.out] at ho35)); have n0_ := Aside0.mk (Kd.R_lower ho35 (below_size q39_3)); have n1_ := Aside0.mk (blk_below (g := gb101) (o := .cells #[.string (⟨#[]⟩ : ByteArray), .slice none 0 0] 25 (0, 0)) q39_4 hb); have n2_ := Aside0.mk (below_step q39_3 hb); clear BK101; clear HB; have HO119 := n0_; have BK101 := n1_; have HB := n2_; clear n0_ n1_ n2_; clear hb ho35; obtain ⟨Ao36, co36, eo36⟩ := Kd.R_slice HO119.out; subst eo36; have hcz37_0 : w34.cell? ⟨gb101, 0, none⟩ = some (.string (⟨#[]⟩ : ByteArray)) := (blk_cell BK101.out 0).trans rfl; have hcz37_1 : w34.cell? ⟨gb101, 1, none⟩ = some (.slice none 0 0) := (blk_cell BK101.out 1).trans rfl; have hfz37_0 := blk_frozen BK101.out 0; have hfz37_1 := blk_frozen BK101.out 1))
       refine bodyPost_ret (results_cell_row rfl _ _ gb101 25 #[.string (⟨#[65]⟩ : ByteArray), .slice Ao36 y117.length co36] (0, 0) _ rfl q39_1 Tryd.underlying25 rfl (by kernel_rfl)) rfl ?_
       exact ⟨_, by first | rfl | (simp [errW_none, errW_some] <;> rfl) | (simp [*, errW_none, errW_some] <;> rfl), by (with_reducible repeat (first | apply Kd.R_alloc | apply Kd.R_drewN | apply Kd.R_drew)); exact Kd.R_mono (Kd.R_far (p := ⟨gb101, 1, none⟩) (Kd.R_far (p := ⟨gb101, 0, none⟩) (Kd.R_types HO119.out BK101.out (by decide)) (fun _ hk => hk.2) (.string (⟨#[65]⟩ : ByteArray))) (fun _ hk => hk.2) (.slice Ao36 y117.length co36)) (fun _ hk => trivial), by repeat (first | (with_reducible first | exact HB.out | apply below_alloc | apply pw_below_drewN | apply below_drew1 | refine below_set ?_ GE101.out) | exact HB.out)⟩
      ·rw [if_neg c32] at H
       have c32b0 : (a0 == 5) = false := beq_eq_false_iff_ne.mpr c32
       have c32b1 : (a0 != 5) = true := bne_iff_ne.mpr c32
       by_cases c38 : a0 = 6
       ·rw [if_pos c38] at H
        have c38b0 : (a0 == 6) = true := beq_iff_eq.mpr c38
        have c38b1 : (a0 != 6) = false := bne_eq_false_iff_eq.mpr c38
        clear c38
        obtain ⟨y120, hy120⟩ : ∃ y_ : List (S46), y_ = (([(⟨(⟨#[65]⟩ : ByteArray), (⟨#[66, 66]⟩ : ByteArray)⟩ : S46), (⟨(⟨#[66]⟩ : ByteArray), (⟨#[97, 66]⟩ : ByteArray)⟩ : S46), (⟨(⟨#[66]⟩ : ByteArray), (⟨#[98]⟩ : ByteArray)⟩ : S46)] : List (S46))) := ⟨_, rfl⟩
        replace H : (some ((⟨#[65]⟩ : ByteArray), y120)) = some (r1, r2) := by first | (rw [hy120]; with_reducible exact H) | (have H2_ := (Option.bind_some _ _).symm.trans H; rw [hy120]; with_reducible exact H2_) | (have H2_ := (Option.bind_some _ _).symm.trans H; with_reducible exact H2_) | with_reducible exact H | (rw [hy120]; exact H) | exact H
        have Ny120 := Aside0.mk hy120
        clear hy120
        simp only [Option.some.injEq, Prod.mk.injEq] at H
        obtain ⟨rfl, rfl⟩ := H
        go_enter Tryd.func137, Tryd.ntmps137
        go_wp2_with (first | ((with_reducible refine gate_dst (N := 2) rfl ?_); refine box_event ?hg (N := 2) ?hd (cs := #[.string (⟨#[]⟩ : ByteArray), .slice none 0 0]) (t := 25) ?hr ?_; (case hd => rfl); (case hg => rfl); (case hr => first | (go_simp; done) | (go_simp; rfl)); intro gb101 hg w39 hbox hb; have n0_ := Aside0.mk (below_step q39_2 hb); have n1_ := Aside0.mk (hbox); have n2_ := Aside0.mk ((by rw [hg]; exact (below_size q39_2) : w.heap.size ≤ gb101)); have n3_ := Aside0.mk ((by rw [hg]; exact (below_size q39_2) : w.heap.size ≤ gb101)); clear HB; have HB := n0_; have BK101 := n1_; have GW101 := n2_; have GE101 := n3_; clear n0_ n1_ n2_ n3_; clear hb hbox hg) | ((with_reducible refine gate_dst (N := 55) rfl ?_); refine Kd.R_lit k46 _ 46 ?hg (N := 55) ?hd (xs := ([(⟨(⟨#[65]⟩ : ByteArray), (⟨#[66, 66]⟩ : ByteArray)⟩ : S46), (⟨(⟨#[66]⟩ : ByteArray), (⟨#[97, 66]⟩ : ByteArray)⟩ : S46), (⟨(⟨#[66]⟩ : ByteArray), (⟨#[98]⟩ : ByteArray)⟩ : S46)] : List (S46))) (inner := [.string (⟨#[65]⟩ : ByteArray), .string (⟨#[66, 66]⟩ : ByteArray), .string (⟨#[66]⟩ : ByteArray), .string (⟨#[97, 66]⟩ : ByteArray), .string (⟨#[66]⟩ : ByteArray), .string (⟨#[98]⟩ : ByteArray)]) (ok := fun _ => True) (okp := fun _ => True) ?hr ?hp (fun _ hk => hk) trivial (Below.refl _ _) (Nat.le_refl _) (by simp) ?_; (case hd => rfl); (case hg => rfl); (case hr => first | (go_simp; done) | (go_simp; rfl)); (case hp => exact (Reps.c2 (show Kd.M k46 _ _ _ (⟨(⟨#[65]⟩ : ByteArray), (⟨#[66, 66]⟩ : ByteArray)⟩ : S46) [.string (⟨#[65]⟩ : ByteArray), .string (⟨#[66, 66]⟩ : ByteArray)] from (k46_mkM _ _ _ (⟨(⟨#[65]⟩ : ByteArray), (⟨#[66, 66]⟩ : ByteArray)⟩ : S46) )) (Reps.c2 (show Kd.M k46 _ _ _ (⟨(⟨#[66]⟩ : ByteArray), (⟨#[97, 66]⟩ : ByteArray)⟩ : S46) [.string (⟨#[66]⟩ : ByteArray), .string (⟨#[97, 66]⟩ : ByteArray)] from (k46_mkM _ _ _ (⟨(⟨#[66]⟩ : ByteArray), (⟨#[97, 66]⟩ : ByteArray)⟩ : S46) )) (Reps.c2 (show Kd.M k46 _ _ _ (⟨(⟨#[66]⟩ : ByteArray), (⟨#[98]⟩ : ByteArray)⟩ : S46) [.string (⟨#[66]⟩ : ByteArray), .string (⟨#[98]⟩ : ByteArray)] from (k46_mkM _ _ _ (⟨(⟨#[66]⟩ : ByteArray), (⟨#[98]⟩ : ByteArray)⟩ : S46) )) (Reps.none _ _))))); intro v121 w40 ho41 hb hg_ hnew_; clear hg_ hnew_; (first | rw [← Ny120.out] at ho41 | (simp only [Int.reduceToNat] at ho41; rw [← Ny120.out] at ho41)); have n0_ := Aside0.mk (Kd.R_lower ho41 (below_size q39_3)); have n1_ := Aside0.mk (blk_below (g := gb101) (o := .cells #[.string (⟨#[]⟩ : ByteArray), .slice none 0 0] 25 (0, 0)) q39_4 hb); have n2_ := Aside0.mk (below_step q39_3 hb); clear BK101; clear HB; have HO122 := n0_; have BK101 := n1_; have HB := n2_; clear n0_ n1_ n2_; clear hb ho41; obtain ⟨Ao42, co42, eo42⟩ := Kd.R_slice HO122.out; subst eo42; have hcz43_0 : w40.cell? ⟨gb101, 0, none⟩ = some (.string (⟨#[]⟩ : ByteArray)) := (blk_cell BK101.out 0).trans rfl; have hcz43_1 : w40.cell? ⟨gb101, 1, none⟩ = some (.slice none 0 0) := (blk_cell BK101.out 1).trans rfl; have hfz43_0 := blk_frozen BK101.out 0; have hfz43_1 := blk_frozen BK101.out 1))
        refine bodyPost_ret (results_cell_row rfl _ _ gb101 25 #[.string (⟨#[65]⟩ : ByteArray), .slice Ao42 y120.length co42] (0, 0) _ rfl q39_1 Tryd.underlying25 rfl (by kernel_rfl)) rfl ?_
        exact ⟨_, by first | rfl | (simp [errW_none, errW_some] <;> rfl) | (simp [*, errW_none, errW_some] <;> rfl), by (with_reducible repeat (first | apply Kd.R_alloc | apply Kd.R_drewN | apply Kd.R_drew)); exact Kd.R_mono (Kd.R_far (p := ⟨gb101, 1, none⟩) (Kd.R_far (p := ⟨gb101, 0, none⟩) (Kd.R_types HO122.out BK101.out (by decide)) (fun _ hk => hk.2) (.string (⟨#[65]⟩ : ByteArray))) (fun _ hk => hk.2) (.slice Ao42 y120.length co42)) (fun _ hk => trivial), by repeat (first | (with_reducible first | exact HB.out | apply below_alloc | apply pw_below_drewN | apply below_drew1 | refine below_set ?_ GE101.out) | exact HB.out)⟩
       ·rw [if_neg c38] at H
        have c38b0 : (a0 == 6) = false := beq_eq_false_iff_ne.mpr c38
        have c38b1 : (a0 != 6) = true := bne_iff_ne.mpr c38
        obtain ⟨y123, hy123⟩ : ∃ y_ : List (S46), y_ = (([] : List (S46))) := ⟨_, rfl⟩
        replace H : (some ((⟨#[65]⟩ : ByteArray), y123)) = some (r1, r2) := by first | (rw [hy123]; with_reducible exact H) | (have H2_ := (Option.bind_some _ _).symm.trans H; rw [hy123]; with_reducible exact H2_) | (have H2_ := (Option.bind_some _ _).symm.trans H; with_reducible exact H2_) | with_reducible exact H | (rw [hy123]; exact H) | exact H
        have Ny123 := Aside0.mk hy123
        clear hy123
        simp only [Option.some.injEq, Prod.mk.injEq] at H
        obtain ⟨rfl, rfl⟩ := H
        go_enter Tryd.func137, Tryd.ntmps137
        go_wp2_with (first | ((with_reducible refine gate_dst (N := 2) rfl ?_); refine box_event ?hg (N := 2) ?hd (cs := #[.string (⟨#[]⟩ : ByteArray), .slice none 0 0]) (t := 25) ?hr ?_; (case hd => rfl); (case hg => rfl); (case hr => first | (go_simp; done) | (go_simp; rfl)); intro gb101 hg w44 hbox hb; have n0_ := Aside0.mk (below_step q39_2 hb); have n1_ := Aside0.mk (hbox); have n2_ := Aside0.mk ((by rw [hg]; exact (below_size q39_2) : w.heap.size ≤ gb101)); have n3_ := Aside0.mk ((by rw [hg]; exact (below_size q39_2) : w.heap.size ≤ gb101)); clear HB; have HB := n0_; have BK101 := n1_; have GW101 := n2_; have GE101 := n3_; clear n0_ n1_ n2_ n3_; clear hb hbox hg) | ((with_reducible refine gate_dst (N := 57) rfl ?_); refine Kd.R_lit k46 _ 46 ?hg (N := 57) ?hd (xs := ([] : List (S46))) (inner := []) (ok := fun _ => True) (okp := fun _ => True) ?hr ?hp (fun _ hk => hk) trivial (Below.refl _ _) (Nat.le_refl _) (by simp) ?_; (case hd => rfl); (case hg => rfl); (case hr => first | (go_simp; done) | (go_simp; rfl)); (case hp => exact (Reps.none _ _)); intro v124 w45 ho46 hb hg_ hnew_; clear hg_ hnew_; (first | rw [← Ny123.out] at ho46 | (simp only [Int.reduceToNat] at ho46; rw [← Ny123.out] at ho46)); have n0_ := Aside0.mk (Kd.R_lower ho46 (below_size q39_3)); have n1_ := Aside0.mk (blk_below (g := gb101) (o := .cells #[.string (⟨#[]⟩ : ByteArray), .slice none 0 0] 25 (0, 0)) q39_4 hb); have n2_ := Aside0.mk (below_step q39_3 hb); clear BK101; clear HB; have HO125 := n0_; have BK101 := n1_; have HB := n2_; clear n0_ n1_ n2_; clear hb ho46; obtain ⟨Ao47, co47, eo47⟩ := Kd.R_slice HO125.out; subst eo47; have hcz48_0 : w45.cell? ⟨gb101, 0, none⟩ = some (.string (⟨#[]⟩ : ByteArray)) := (blk_cell BK101.out 0).trans rfl; have hcz48_1 : w45.cell? ⟨gb101, 1, none⟩ = some (.slice none 0 0) := (blk_cell BK101.out 1).trans rfl; have hfz48_0 := blk_frozen BK101.out 0; have hfz48_1 := blk_frozen BK101.out 1))
        refine bodyPost_ret (results_cell_row rfl _ _ gb101 25 #[.string (⟨#[65]⟩ : ByteArray), .slice Ao47 y123.length co47] (0, 0) _ rfl q39_1 Tryd.underlying25 rfl (by kernel_rfl)) rfl ?_
        exact ⟨_, by first | rfl | (simp [errW_none, errW_some] <;> rfl) | (simp [*, errW_none, errW_some] <;> rfl), by (with_reducible repeat (first | apply Kd.R_alloc | apply Kd.R_drewN | apply Kd.R_drew)); exact Kd.R_mono (Kd.R_far (p := ⟨gb101, 1, none⟩) (Kd.R_far (p := ⟨gb101, 0, none⟩) (Kd.R_types HO125.out BK101.out (by decide)) (fun _ hk => hk.2) (.string (⟨#[65]⟩ : ByteArray))) (fun _ hk => hk.2) (.slice Ao47 y123.length co47)) (fun _ hk => trivial), by repeat (first | (with_reducible first | exact HB.out | apply below_alloc | apply pw_below_drewN | apply below_drew1 | refine below_set ?_ GE101.out) | exact HB.out)⟩
end Go.Proofs.YtiibnkibckklgaaDoor.P
