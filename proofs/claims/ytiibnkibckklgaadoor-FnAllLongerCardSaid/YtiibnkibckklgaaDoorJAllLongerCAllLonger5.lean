-- Joined texts of a claim (wip/tools/bundle2.py).
import Derived.Test.YtiibnkibckklgaaDoorJAllLongerCAllLonger4
namespace Go.Proofs.YtiibnkibckklgaaDoor.P
open Go.RowKit Go.Proofs.YtiibnkibckklgaaDoorW.PrintWords Go.Proofs.YtiibnkibckklgaaDoorW.PrintLast Go.Proofs.YtiibnkibckklgaaDoorW.PrintMore
attribute [local go_sem] max2_int min2_int max_two min_two max_three min_three max_four min_four
set_option linter.unusedVariables false
set_option linter.unusedSimpArgs false
theorem q95_1 {p : Prop} (h : p := by repeat (first | (with_reducible first | exact HB.out | apply below_alloc | apply pw_below_drewN | apply below_drew1 | refine below_set ?_ GE106.out) | exact HB.out)) : p := h
theorem q95_2 {p : Prop} (h : p := by (with_reducible repeat (first | apply Kd.R_alloc | apply Kd.R_drewN | apply Kd.R_drew)); exact HO109.out) : p := h
theorem q95_3 {p : Prop} (h : p := by repeat (first | exact (Kd.R_reads' HO104.out).2.2 | (with_reducible refine Kd.C_alloc ?_ _) | (with_reducible refine Kd.C_drewN ?_ _) | (with_reducible refine Kd.C_drew ?_))) : p := h
theorem q95_4 {p : Prop} (h : p := by (with_reducible repeat (first | apply Kd.R_alloc | apply Kd.R_drewN | apply Kd.R_drew)); exact HO112.out) : p := h
theorem q95_5 {p : Prop} (h : p := by (with_reducible repeat (first | refine blk_drewN ?_ _ | refine blk_drew ?_ | refine blk_alloc ?_ _)); exact BK106.out) : p := h
theorem q95_6 {p : Prop} (h : p := by (with_reducible repeat (first | apply Kd.R_alloc | apply Kd.R_drewN | apply Kd.R_drew)); exact HO104.out) : p := h
theorem q95_7 {p : Prop} (h : p := by (with_reducible repeat (first | apply Kd.R_alloc | apply Kd.R_drewN | apply Kd.R_drew)); exact (Kd.R_mono (Kd.R_far (p := ⟨gb106, 1, none⟩) (Kd.R_far (p := ⟨gb106, 0, none⟩) (Kd.R_types HO104.out BK106.out (by decide)) (fun _ hk => hk.2) (.string t101)) (fun _ hk => hk.2) (.slice Ao10 t102.length co10)) (fun _ h_ => h_.1))) : p := h
theorem q95_8 {p : Prop} (h : p := by (with_reducible repeat (first | refine blk_drewN ?_ _ | refine blk_drew ?_ | refine blk_alloc ?_ _)); refine blk_put (cs := #[.string t101, .slice none 0 0]) ?_ 1 _ rfl; (with_reducible repeat (first | refine blk_drewN ?_ _ | refine blk_drew ?_ | refine blk_alloc ?_ _)); refine blk_put (cs := #[.string (⟨#[]⟩ : ByteArray), .slice none 0 0]) ?_ 0 _ rfl; (with_reducible repeat (first | refine blk_drewN ?_ _ | refine blk_drew ?_ | refine blk_alloc ?_ _)); exact BK106.out) : p := h
theorem q95_9 {p : Prop} (h : p := by (with_reducible repeat (first | apply Kd.R_alloc | apply Kd.R_drewN | apply Kd.R_drew)); exact HO_5.out) : p := h
theorem q95_10 {p : Prop} (h : p := by (with_reducible repeat (first | apply Kd.R_alloc | apply Kd.R_drewN | apply Kd.R_drew)); exact HO_6.out) : p := h
theorem q95_11 {p : Prop} (h : p := by repeat (first | exact (Kd.R_reads' HO_107001.out).2.2 | (with_reducible refine Kd.C_alloc ?_ _) | (with_reducible refine Kd.C_drewN ?_ _) | (with_reducible refine Kd.C_drew ?_))) : p := h
theorem q95_12 {p : Prop} (h : p := by first | (with_reducible assumption) | assumption) : p := h
theorem q95_13 {p : Prop} (h : p := by repeat (first | exact HR0.out | (with_reducible refine Kd.C_alloc ?_ _) | (with_reducible refine Kd.C_drewN ?_ _) | (with_reducible refine Kd.C_drew ?_))) : p := h
theorem q95_14 {p : Prop} (h : p := by first | rfl | (simp; done) | (simp [*]; done)) : p := h
theorem q95_15 {p : Prop} (h : p := by (with_reducible repeat (first | apply Kd.R_alloc | apply Kd.R_drewN | apply Kd.R_drew)); exact HO_107001.out) : p := h
theorem q95_16 {p : Prop} (h : p := by (with_reducible repeat (first | apply Kd.R_alloc | apply Kd.R_drewN | apply Kd.R_drew)); exact HO115.out) : p := h
/-! ### laws_FnAllLonger: function 8 -/
mutual
noncomputable def laws_FnAllLonger.j0 : Nat → Int → List ByteArray → List ByteArray → Bool → ByteArray → List (S46) → Option (Bool)
 | 0, _, _, _, _, _, _ => none
 | k + 1, x4, x5, x6, x42, x107000, x107001 => if x42 = true then ((spec_AllWords.f k x107000 x107001 x4).bind fun t117 => (some ((x5.length : Int) == (t117.length : Int)))) else (if (x6.length : Int) < (x5.length : Int) then (some false) else (laws_FnAllLonger.l0 k x5 x6 0))
noncomputable def laws_FnAllLonger.l0 : Nat → List ByteArray → List ByteArray → Int → Option (Bool)
 | 0, _, _, _ => none
 | k + 1, x5, x6, x7 => if x7 < (x5.length : Int) then (if 0 ≤ x7 then (if x7 < (x6.length : Int) then (if (rdOf ByteArray.empty x5 x7).toList = (rdOf ByteArray.empty x6 x7).toList then (laws_FnAllLonger.l0 k x5 x6 (wrap64 (x7 + 1))) else (some false)) else (none)) else (none)) else (some true)
end
noncomputable def laws_FnAllLonger.f (k : Nat) (l0 : List Int) : Option (Bool) := if (l0.length : Int) > 1048576 then (some true) else ((spec_DrawAllWords.f k l0).bind fun bt101 => ((impl_AllWords.f k bt101.1 bt101.2.1 bt101.2.2).bind fun t107 => ((impl_AllWords.f k bt101.1 bt101.2.1 (wrap64 (bt101.2.2 + 1))).bind fun t110 => ((spec_AllWords.f k bt101.1 bt101.2.1 bt101.2.2).bind fun t113 => (if (t107.length : Int) = (t113.length : Int) then (if bt101.2.2 < 0 then (laws_FnAllLonger.j0 k bt101.2.2 t107 t110 true bt101.1 bt101.2.1) else (if bt101.2.2 > 3 then (laws_FnAllLonger.j0 k bt101.2.2 t107 t110 true bt101.1 bt101.2.1) else ((spec_GramOk.f k bt101.1 bt101.2.1).bind fun t116 => (laws_FnAllLonger.j0 k bt101.2.2 t107 t110 (!t116) bt101.1 bt101.2.1)))) else (laws_FnAllLonger.j0 k bt101.2.2 t107 t110 true bt101.1 bt101.2.1))))))
theorem laws_FnAllLonger.mono_l : ∀ k, (∀ y0 y1 y2 y3 y4 y5, LeO (laws_FnAllLonger.j0 k y0 y1 y2 y3 y4 y5) (laws_FnAllLonger.j0 (k + 1) y0 y1 y2 y3 y4 y5)) ∧ (∀ y0 y1 y2, LeO (laws_FnAllLonger.l0 k y0 y1 y2) (laws_FnAllLonger.l0 (k + 1) y0 y1 y2))
 | 0 => ⟨fun _ _ _ _ _ _ r h => by simp [laws_FnAllLonger.j0] at h, fun _ _ _ r h => by simp [laws_FnAllLonger.l0] at h⟩
 | k + 1 => by
  obtain ⟨ih0, ih1⟩ := laws_FnAllLonger.mono_l k
  refine ⟨?_, ?_⟩
  ·intro y0 y1 y2 y3 y4 y5
   unfold laws_FnAllLonger.j0
   repeat' first
   | (with_reducible exact ih0 _ _ _ _ _ _)
   | (with_reducible exact ih1 _ _ _)
   | (with_reducible exact impl_AllWords.mono _ _ _ _)
   | (with_reducible exact spec_AllWords.mono _ _ _ _)
   | (with_reducible exact spec_DrawAllWords.mono _ _)
   | (with_reducible exact spec_GramOk.mono _ _ _)
   | (with_reducible exact LeO.refl _)
   | (with_reducible exact LeO.none _)
   | (with_reducible refine LeO.ite ?_ ?_)
   | (with_reducible refine LeO.bind ?_ (fun _ => ?_))
   | exact ih0 _ _ _ _ _ _
   | exact ih1 _ _ _
   | exact impl_AllWords.mono _ _ _ _
   | exact spec_AllWords.mono _ _ _ _
   | exact spec_DrawAllWords.mono _ _
   | exact spec_GramOk.mono _ _ _
   | exact LeO.none _
   | refine LeO.ite ?_ ?_
   | refine LeO.bind ?_ (fun _ => ?_)
  intro y0 y1 y2
  unfold laws_FnAllLonger.l0
  repeat' first
  | (with_reducible exact ih0 _ _ _ _ _ _)
  | (with_reducible exact ih1 _ _ _)
  | (with_reducible exact impl_AllWords.mono _ _ _ _)
  | (with_reducible exact spec_AllWords.mono _ _ _ _)
  | (with_reducible exact spec_DrawAllWords.mono _ _)
  | (with_reducible exact spec_GramOk.mono _ _ _)
  | (with_reducible exact LeO.refl _)
  | (with_reducible exact LeO.none _)
  | (with_reducible refine LeO.ite ?_ ?_)
  | (with_reducible refine LeO.bind ?_ (fun _ => ?_))
  | exact ih0 _ _ _ _ _ _
  | exact ih1 _ _ _
  | exact impl_AllWords.mono _ _ _ _
  | exact spec_AllWords.mono _ _ _ _
  | exact spec_DrawAllWords.mono _ _
  | exact spec_GramOk.mono _ _ _
  | exact LeO.none _
  | refine LeO.ite ?_ ?_
  | refine LeO.bind ?_ (fun _ => ?_)
theorem laws_FnAllLonger.mono : ∀ a0 k, LeO (laws_FnAllLonger.f k a0) (laws_FnAllLonger.f (k + 1) a0) := by
 intro a0 k
 obtain ⟨ih0, ih1⟩ := laws_FnAllLonger.mono_l k
 unfold laws_FnAllLonger.f
 repeat' first
   | (with_reducible exact ih0 _ _ _ _ _ _)
   | (with_reducible exact ih1 _ _ _)
   | (with_reducible exact impl_AllWords.mono _ _ _ _)
   | (with_reducible exact spec_AllWords.mono _ _ _ _)
   | (with_reducible exact spec_DrawAllWords.mono _ _)
   | (with_reducible exact spec_GramOk.mono _ _ _)
   | (with_reducible exact LeO.refl _)
   | (with_reducible exact LeO.none _)
   | (with_reducible refine LeO.ite ?_ ?_)
   | (with_reducible refine LeO.bind ?_ (fun _ => ?_))
   | exact ih0 _ _ _ _ _ _
   | exact ih1 _ _ _
   | exact impl_AllWords.mono _ _ _ _
   | exact spec_AllWords.mono _ _ _ _
   | exact spec_DrawAllWords.mono _ _
   | exact spec_GramOk.mono _ _ _
   | exact LeO.none _
   | refine LeO.ite ?_ ?_
   | refine LeO.bind ?_ (fun _ => ?_)
set_option maxHeartbeats 8000000 in
set_option maxRecDepth 100000 in
theorem laws_FnAllLonger.calls (k : Nat) (A0 : Option Addr) (c0 : Nat) (l0 : List Int) (r : Bool) (w : World) (hr0 : Kd.C (Kd.int .u8) w A0 l0.length l0) (hc0 : l0.length ≤ c0) (h : laws_FnAllLonger.f k l0 = some r) :
  Calls Tryd.prog 8 #[.slice A0 l0.length c0] w fun e w' => e = .returned (.bool r) ∧ Below w.heap.size w w' := by
 have hu25 := Tryd.underlying25
 have HR0 := Aside0.mk hr0
 have HC0 := Aside0.mk hc0
 clear hr0 hc0
 have HB := Aside0.mk (Below.refl w.heap.size w)
 have H : (if (l0.length : Int) > 1048576 then (some true) else ((spec_DrawAllWords.f k l0).bind fun bt101 => ((impl_AllWords.f k bt101.1 bt101.2.1 bt101.2.2).bind fun t107 => ((impl_AllWords.f k bt101.1 bt101.2.1 (wrap64 (bt101.2.2 + 1))).bind fun t110 => ((spec_AllWords.f k bt101.1 bt101.2.1 bt101.2.2).bind fun t113 => (if (t107.length : Int) = (t113.length : Int) then (if bt101.2.2 < 0 then (laws_FnAllLonger.j0 k bt101.2.2 t107 t110 true bt101.1 bt101.2.1) else (if bt101.2.2 > 3 then (laws_FnAllLonger.j0 k bt101.2.2 t107 t110 true bt101.1 bt101.2.1) else ((spec_GramOk.f k bt101.1 bt101.2.1).bind fun t116 => (laws_FnAllLonger.j0 k bt101.2.2 t107 t110 (!t116) bt101.1 bt101.2.1)))) else (laws_FnAllLonger.j0 k bt101.2.2 t107 t110 true bt101.1 bt101.2.1))))))) = some r := h
 clear h
 by_cases c2 : (l0.length : Int) > 1048576
 ·rw [if_pos c2] at H
  have c2b0 : decide (1048576 < (l0.length : Int)) = true := decide_eq_true c2
  have c2b1 : decide (1048576 < l0.length) = true := decide_eq_true (by omega)
  clear c2
  obtain rfl := Option.some.inj H
  go_enter Tryd.func8, Tryd.ntmps8
  go_wp2
  repeat (go_quiet (fail); try go_wp2)
  go_ret
  exact ⟨by first | rfl | (simp [errW_none, errW_some] <;> rfl) | (simp [*, errW_none, errW_some] <;> rfl), by repeat (first | (with_reducible first | exact HB.out | apply below_alloc | apply pw_below_drewN | apply below_drew1 | refine below_set ?_ GE106.out) | exact HB.out)⟩
 rw [if_neg c2] at H
 have c2b0 : decide (1048576 < (l0.length : Int)) = false := decide_eq_false c2
 have c2b1 : decide (1048576 < l0.length) = false := decide_eq_false (by omega)
 clear c2
 replace H := Option.bind_eq_some_iff.mp H
 obtain ⟨⟨t101, t102, t105⟩, A30, H⟩ := H
 replace H : ((impl_AllWords.f k t101 t102 t105).bind fun t107 => ((impl_AllWords.f k t101 t102 (wrap64 (t105 + 1))).bind fun t110 => ((spec_AllWords.f k t101 t102 t105).bind fun t113 => (if (t107.length : Int) = (t113.length : Int) then (if t105 < 0 then (laws_FnAllLonger.j0 k t105 t107 t110 true t101 t102) else (if t105 > 3 then (laws_FnAllLonger.j0 k t105 t107 t110 true t101 t102) else ((spec_GramOk.f k t101 t102).bind fun t116 => (laws_FnAllLonger.j0 k t105 t107 t110 (!t116) t101 t102)))) else (laws_FnAllLonger.j0 k t105 t107 t110 true t101 t102))))) = some r := H
 have A3 := Aside0.mk A30
 clear A30
 replace H := Option.bind_eq_some_iff.mp H
 obtain ⟨t107, A40, H⟩ := H
 replace H : ((impl_AllWords.f k t101 t102 (wrap64 (t105 + 1))).bind fun t110 => ((spec_AllWords.f k t101 t102 t105).bind fun t113 => (if (t107.length : Int) = (t113.length : Int) then (if t105 < 0 then (laws_FnAllLonger.j0 k t105 t107 t110 true t101 t102) else (if t105 > 3 then (laws_FnAllLonger.j0 k t105 t107 t110 true t101 t102) else ((spec_GramOk.f k t101 t102).bind fun t116 => (laws_FnAllLonger.j0 k t105 t107 t110 (!t116) t101 t102)))) else (laws_FnAllLonger.j0 k t105 t107 t110 true t101 t102)))) = some r := H
 have A4 := Aside0.mk A40
 clear A40
 replace H := Option.bind_eq_some_iff.mp H
 obtain ⟨t110, A50, H⟩ := H
 replace H : ((spec_AllWords.f k t101 t102 t105).bind fun t113 => (if (t107.length : Int) = (t113.length : Int) then (if t105 < 0 then (laws_FnAllLonger.j0 k t105 t107 t110 true t101 t102) else (if t105 > 3 then (laws_FnAllLonger.j0 k t105 t107 t110 true t101 t102) else ((spec_GramOk.f k t101 t102).bind fun t116 => (laws_FnAllLonger.j0 k t105 t107 t110 (!t116) t101 t102)))) else (laws_FnAllLonger.j0 k t105 t107 t110 true t101 t102))) = some r := H
 have A5 := Aside0.mk A50
 clear A50
 have HC6 := Aside0.mk H
 clear H
 go_enter Tryd.func8, Tryd.ntmps8
 go_upto_region 6 with (first | (go_at_call 46; (with_reducible refine (spec_DrawAllWords.calls k _ _ l0 t101 t102 t105 _ ?side1 ?side2 A3.out).mono ?_); (case side1 => exact q95_13); (case side2 => exact HC0.out); rintro e w7 ⟨v103, rfl, ho0, hb⟩; refine rn2 (Kd.R_lower ho0 (below_size q95_1)) (below_step q95_1 hb) ?_; clear HB; intro HO104 HB; (try clear hb); (try clear hb2); (try clear hk); (try clear hi); (try clear ho0)) | ((with_reducible refine gate_dst (N := 3) rfl ?_); refine box_event ?hg (N := 3) ?hd (cs := #[.string (⟨#[]⟩ : ByteArray), .slice none 0 0]) (t := 25) ?hr ?_; (case hd => rfl); (case hg => rfl); (case hr => first | (go_simp; done) | (go_simp; rfl)); intro gb106 hg w8 hbox hb; refine rn5 (Kd.R_below q95_6 hb) (below_step q95_1 hb) (hbox) ((by rw [hg]; exact (below_size q95_1) : w.heap.size ≤ gb106)) ((by rw [hg]; exact (below_size q95_1) : w.heap.size ≤ gb106)) ?_; clear HO104 HB; intro HO104 HB BK106 GW106 GE106; clear hb hbox hg; have hcz9_0 : w8.cell? ⟨gb106, 0, none⟩ = some (.string (⟨#[]⟩ : ByteArray)) := (blk_cell BK106.out 0).trans rfl; have hcz9_1 : w8.cell? ⟨gb106, 1, none⟩ = some (.slice none 0 0) := (blk_cell BK106.out 1).trans rfl; have hfz9_0 := blk_frozen BK106.out 0; have hfz9_1 := blk_frozen BK106.out 1; obtain ⟨Ao10, co10, eo10⟩ := Kd.R_slice HO104.out; subst eo10) | (go_at_call 47; (with_reducible refine (impl_AllWords.calls k t101 _ _ t102 t105 t107 _ ?side1 ?side2 A4.out).mono ?_); (case side1 => refine (Kd.R_reads' (e := 46) (base := w.heap.size) (ok := fun k_ => True) (n := t102.length) (c := co10) ?_).2.2; exact q95_7); (case side2 => exact (Kd.R_reads' HO104.out).2.1); rintro e w11 ⟨v108, rfl, ho0, hb⟩; refine rn4 (Kd.R_below q95_7 hb) (Kd.R_lower ho0 (below_size q95_1)) (blk_below (g := gb106) (o := .cells #[.string t101, .slice Ao10 t102.length co10] 25 (0, 0)) q95_8 hb) (below_step q95_1 hb) ?_; clear HO104 BK106 HB; intro HO104 HO109 BK106 HB; (try clear hb); (try clear hb2); (try clear hk); (try clear hi); (try clear ho0); have hcz12_0 : w11.cell? ⟨gb106, 0, none⟩ = some (.string t101) := (blk_cell BK106.out 0).trans rfl; have hcz12_1 : w11.cell? ⟨gb106, 1, none⟩ = some (.slice Ao10 t102.length co10) := (blk_cell BK106.out 1).trans rfl; have hfz12_0 := blk_frozen BK106.out 0; have hfz12_1 := blk_frozen BK106.out 1) | (go_at_call 47; (with_reducible refine (impl_AllWords.calls k t101 _ _ t102 (wrap64 (t105 + 1)) t110 _ ?side1 ?side2 A5.out).mono ?_); (case side1 => exact q95_3); (case side2 => exact (Kd.R_reads' HO104.out).2.1); rintro e w13 ⟨v111, rfl, ho0, hb⟩; refine rn5 (Kd.R_below q95_6 hb) (Kd.R_elder' q95_2 (Kd.R_base ho0) hb) (Kd.R_lower (Kd.R_new' ho0 (Kd.R_lt q95_2)) (below_size q95_1)) (blk_below (g := gb106) (o := .cells #[.string t101, .slice Ao10 t102.length co10] 25 (0, 0)) q95_5 hb) (below_step q95_1 hb) ?_; clear HO104 HO109 BK106 HB; intro HO104 HO109 HO112 BK106 HB; (try clear hb); (try clear hb2); (try clear hk); (try clear hi); (try clear ho0)))
 repeat (go_quiet (first | (go_at_call 46; (with_reducible refine (spec_DrawAllWords.calls k _ _ l0 t101 t102 t105 _ ?side1 ?side2 A3.out).mono ?_); (case side1 => exact q95_13); (case side2 => exact HC0.out); rintro e w7 ⟨v103, rfl, ho0, hb⟩; refine rn2 (Kd.R_lower ho0 (below_size q95_1)) (below_step q95_1 hb) ?_; clear HB; intro HO104 HB; (try clear hb); (try clear hb2); (try clear hk); (try clear hi); (try clear ho0)) | ((with_reducible refine gate_dst (N := 3) rfl ?_); refine box_event ?hg (N := 3) ?hd (cs := #[.string (⟨#[]⟩ : ByteArray), .slice none 0 0]) (t := 25) ?hr ?_; (case hd => rfl); (case hg => rfl); (case hr => first | (go_simp; done) | (go_simp; rfl)); intro gb106 hg w8 hbox hb; refine rn5 (Kd.R_below q95_6 hb) (below_step q95_1 hb) (hbox) ((by rw [hg]; exact (below_size q95_1) : w.heap.size ≤ gb106)) ((by rw [hg]; exact (below_size q95_1) : w.heap.size ≤ gb106)) ?_; clear HO104 HB; intro HO104 HB BK106 GW106 GE106; clear hb hbox hg; have hcz9_0 : w8.cell? ⟨gb106, 0, none⟩ = some (.string (⟨#[]⟩ : ByteArray)) := (blk_cell BK106.out 0).trans rfl; have hcz9_1 : w8.cell? ⟨gb106, 1, none⟩ = some (.slice none 0 0) := (blk_cell BK106.out 1).trans rfl; have hfz9_0 := blk_frozen BK106.out 0; have hfz9_1 := blk_frozen BK106.out 1; obtain ⟨Ao10, co10, eo10⟩ := Kd.R_slice HO104.out; subst eo10) | (go_at_call 47; (with_reducible refine (impl_AllWords.calls k t101 _ _ t102 t105 t107 _ ?side1 ?side2 A4.out).mono ?_); (case side1 => refine (Kd.R_reads' (e := 46) (base := w.heap.size) (ok := fun k_ => True) (n := t102.length) (c := co10) ?_).2.2; exact q95_7); (case side2 => exact (Kd.R_reads' HO104.out).2.1); rintro e w11 ⟨v108, rfl, ho0, hb⟩; refine rn4 (Kd.R_below q95_7 hb) (Kd.R_lower ho0 (below_size q95_1)) (blk_below (g := gb106) (o := .cells #[.string t101, .slice Ao10 t102.length co10] 25 (0, 0)) q95_8 hb) (below_step q95_1 hb) ?_; clear HO104 BK106 HB; intro HO104 HO109 BK106 HB; (try clear hb); (try clear hb2); (try clear hk); (try clear hi); (try clear ho0); have hcz12_0 : w11.cell? ⟨gb106, 0, none⟩ = some (.string t101) := (blk_cell BK106.out 0).trans rfl; have hcz12_1 : w11.cell? ⟨gb106, 1, none⟩ = some (.slice Ao10 t102.length co10) := (blk_cell BK106.out 1).trans rfl; have hfz12_0 := blk_frozen BK106.out 0; have hfz12_1 := blk_frozen BK106.out 1) | (go_at_call 47; (with_reducible refine (impl_AllWords.calls k t101 _ _ t102 (wrap64 (t105 + 1)) t110 _ ?side1 ?side2 A5.out).mono ?_); (case side1 => exact q95_3); (case side2 => exact (Kd.R_reads' HO104.out).2.1); rintro e w13 ⟨v111, rfl, ho0, hb⟩; refine rn5 (Kd.R_below q95_6 hb) (Kd.R_elder' q95_2 (Kd.R_base ho0) hb) (Kd.R_lower (Kd.R_new' ho0 (Kd.R_lt q95_2)) (below_size q95_1)) (blk_below (g := gb106) (o := .cells #[.string t101, .slice Ao10 t102.length co10] 25 (0, 0)) q95_5 hb) (below_step q95_1 hb) ?_; clear HO104 HO109 BK106 HB; intro HO104 HO109 HO112 BK106 HB; (try clear hb); (try clear hb2); (try clear hk); (try clear hi); (try clear ho0))); go_upto_region 6 with (first | (go_at_call 46; (with_reducible refine (spec_DrawAllWords.calls k _ _ l0 t101 t102 t105 _ ?side1 ?side2 A3.out).mono ?_); (case side1 => exact q95_13); (case side2 => exact HC0.out); rintro e w7 ⟨v103, rfl, ho0, hb⟩; refine rn2 (Kd.R_lower ho0 (below_size q95_1)) (below_step q95_1 hb) ?_; clear HB; intro HO104 HB; (try clear hb); (try clear hb2); (try clear hk); (try clear hi); (try clear ho0)) | ((with_reducible refine gate_dst (N := 3) rfl ?_); refine box_event ?hg (N := 3) ?hd (cs := #[.string (⟨#[]⟩ : ByteArray), .slice none 0 0]) (t := 25) ?hr ?_; (case hd => rfl); (case hg => rfl); (case hr => first | (go_simp; done) | (go_simp; rfl)); intro gb106 hg w8 hbox hb; refine rn5 (Kd.R_below q95_6 hb) (below_step q95_1 hb) (hbox) ((by rw [hg]; exact (below_size q95_1) : w.heap.size ≤ gb106)) ((by rw [hg]; exact (below_size q95_1) : w.heap.size ≤ gb106)) ?_; clear HO104 HB; intro HO104 HB BK106 GW106 GE106; clear hb hbox hg; have hcz9_0 : w8.cell? ⟨gb106, 0, none⟩ = some (.string (⟨#[]⟩ : ByteArray)) := (blk_cell BK106.out 0).trans rfl; have hcz9_1 : w8.cell? ⟨gb106, 1, none⟩ = some (.slice none 0 0) := (blk_cell BK106.out 1).trans rfl; have hfz9_0 := blk_frozen BK106.out 0; have hfz9_1 := blk_frozen BK106.out 1; obtain ⟨Ao10, co10, eo10⟩ := Kd.R_slice HO104.out; subst eo10) | (go_at_call 47; (with_reducible refine (impl_AllWords.calls k t101 _ _ t102 t105 t107 _ ?side1 ?side2 A4.out).mono ?_); (case side1 => refine (Kd.R_reads' (e := 46) (base := w.heap.size) (ok := fun k_ => True) (n := t102.length) (c := co10) ?_).2.2; exact q95_7); (case side2 => exact (Kd.R_reads' HO104.out).2.1); rintro e w11 ⟨v108, rfl, ho0, hb⟩; refine rn4 (Kd.R_below q95_7 hb) (Kd.R_lower ho0 (below_size q95_1)) (blk_below (g := gb106) (o := .cells #[.string t101, .slice Ao10 t102.length co10] 25 (0, 0)) q95_8 hb) (below_step q95_1 hb) ?_; clear HO104 BK106 HB; intro HO104 HO109 BK106 HB; (try clear hb); (try clear hb2); (try clear hk); (try clear hi); (try clear ho0); have hcz12_0 : w11.cell? ⟨gb106, 0, none⟩ = some (.string t101) := (blk_cell BK106.out 0).trans rfl; have hcz12_1 : w11.cell? ⟨gb106, 1, none⟩ = some (.slice Ao10 t102.length co10) := (blk_cell BK106.out 1).trans rfl; have hfz12_0 := blk_frozen BK106.out 0; have hfz12_1 := blk_frozen BK106.out 1) | (go_at_call 47; (with_reducible refine (impl_AllWords.calls k t101 _ _ t102 (wrap64 (t105 + 1)) t110 _ ?side1 ?side2 A5.out).mono ?_); (case side1 => exact q95_3); (case side2 => exact (Kd.R_reads' HO104.out).2.1); rintro e w13 ⟨v111, rfl, ho0, hb⟩; refine rn5 (Kd.R_below q95_6 hb) (Kd.R_elder' q95_2 (Kd.R_base ho0) hb) (Kd.R_lower (Kd.R_new' ho0 (Kd.R_lt q95_2)) (below_size q95_1)) (blk_below (g := gb106) (o := .cells #[.string t101, .slice Ao10 t102.length co10] 25 (0, 0)) q95_5 hb) (below_step q95_1 hb) ?_; clear HO104 HO109 BK106 HB; intro HO104 HO109 HO112 BK106 HB; (try clear hb); (try clear hb2); (try clear hk); (try clear hi); (try clear ho0))))
 (try simp only [Act.put, List.setIfInBounds_toArray, List.set_cons_zero, List.set_cons_succ])
 go_cut [42] (fun v42 wc => ∃ (kq : Nat) (x42_5 : Bool), v42 = .bool x42_5 ∧ Aside0 (laws_FnAllLonger.j0 kq t105 t107 t110 x42_5 t101 t102 = some r) ∧ Aside0 (kq ≤ k) ∧ Aside0 (Kd.R Kd.string 9 wc w.heap.size (fun k_ => some k_ ≠ (v111 : Value).ownBlock) v108 t107) ∧ Aside0 (Kd.R Kd.string 9 wc w.heap.size (fun k_ => some k_ ≠ (v108 : Value).ownBlock) v111 t110) ∧ Aside0 (Kd.R k46 46 wc w.heap.size (fun _ => True) (.slice Ao10 t102.length co10) t102) ∧ Aside0 (wc.heap[gb106]? = some (.cells #[.string t101, (.slice Ao10 t102.length co10)] 25 (0, 0))) ∧ Aside0 (Below w.heap.size w wc))
 case first =>
  have H := HC6.out
  clear HC6
  replace H := Option.bind_eq_some_iff.mp H
  obtain ⟨t113, A140, H⟩ := H
  replace H : (if (t107.length : Int) = (t113.length : Int) then (if t105 < 0 then (laws_FnAllLonger.j0 k t105 t107 t110 true t101 t102) else (if t105 > 3 then (laws_FnAllLonger.j0 k t105 t107 t110 true t101 t102) else ((spec_GramOk.f k t101 t102).bind fun t116 => (laws_FnAllLonger.j0 k t105 t107 t110 (!t116) t101 t102)))) else (laws_FnAllLonger.j0 k t105 t107 t110 true t101 t102)) = some r := H
  have A14 := Aside0.mk A140
  clear A140
  by_cases c15 : (t107.length : Int) = (t113.length : Int)
  rotate_left
  ·rw [if_neg c15] at H
   have c15b0 : ((t107.length : Int) == (t113.length : Int)) = false := beq_eq_false_iff_ne.mpr c15
   have c15b1 : ((t107.length : Int) != (t113.length : Int)) = true := bne_iff_ne.mpr c15
   have c15b2 : (t107.length == t113.length) = false := by first | simpa using c15 | (simp at c15 ⊢; omega)
   (first | rw [c15b0] | (simp only [i64_w, i32_w]; rw [c15b0]) | skip)
   have H' := Aside0.mk H
   clear H
   obtain ⟨Ao33, co33, eo33⟩ := Kd.R_slice HO109.out
   subst eo33
   have hcz34_0 : w13.cell? ⟨gb106, 0, none⟩ = some (.string t101) := (blk_cell BK106.out 0).trans rfl
   have hcz34_1 : w13.cell? ⟨gb106, 1, none⟩ = some (.slice Ao10 t102.length co10) := (blk_cell BK106.out 1).trans rfl
   have hfz34_0 := blk_frozen BK106.out 0
   have hfz34_1 := blk_frozen BK106.out 1
   go_wp2_with (first | (go_at_call 48; (with_reducible refine (spec_AllWords.calls k t101 _ _ t102 t105 t113 _ ?side1 ?side2 A14.out).mono ?_); (case side1 => exact q95_3); (case side2 => exact (Kd.R_reads' HO104.out).2.1); rintro e w35 ⟨v114, rfl, ho0, hb⟩; refine rn6 (Kd.R_below q95_6 hb) (Kd.R_elder' q95_2 (Kd.R_base ho0) hb) (Kd.R_elder' q95_4 (Kd.R_base ho0) hb) (Kd.R_lower (Kd.R_new' (Kd.R_new' ho0 (Kd.R_lt q95_2)) (Kd.R_lt q95_4)) (below_size q95_1)) (blk_below (g := gb106) (o := .cells #[.string t101, .slice Ao10 t102.length co10] 25 (0, 0)) q95_5 hb) (below_step q95_1 hb) ?_; clear HO104 HO109 HO112 BK106 HB; intro HO104 HO109 HO112 HO115 BK106 HB; (try clear hb); (try clear hb2); (try clear hk); (try clear hi); (try clear ho0); obtain ⟨Ao36, co36, eo36⟩ := Kd.R_slice HO115.out; subst eo36))
   repeat (go_quiet (first | (go_at_call 48; (with_reducible refine (spec_AllWords.calls k t101 _ _ t102 t105 t113 _ ?side1 ?side2 A14.out).mono ?_); (case side1 => exact q95_3); (case side2 => exact (Kd.R_reads' HO104.out).2.1); rintro e w35 ⟨v114, rfl, ho0, hb⟩; refine rn6 (Kd.R_below q95_6 hb) (Kd.R_elder' q95_2 (Kd.R_base ho0) hb) (Kd.R_elder' q95_4 (Kd.R_base ho0) hb) (Kd.R_lower (Kd.R_new' (Kd.R_new' ho0 (Kd.R_lt q95_2)) (Kd.R_lt q95_4)) (below_size q95_1)) (blk_below (g := gb106) (o := .cells #[.string t101, .slice Ao10 t102.length co10] 25 (0, 0)) q95_5 hb) (below_step q95_1 hb) ?_; clear HO104 HO109 HO112 BK106 HB; intro HO104 HO109 HO112 HO115 BK106 HB; (try clear hb); (try clear hb2); (try clear hk); (try clear hi); (try clear ho0); obtain ⟨Ao36, co36, eo36⟩ := Kd.R_slice HO115.out; subst eo36)); try go_wp2_with (first | (go_at_call 48; (with_reducible refine (spec_AllWords.calls k t101 _ _ t102 t105 t113 _ ?side1 ?side2 A14.out).mono ?_); (case side1 => exact q95_3); (case side2 => exact (Kd.R_reads' HO104.out).2.1); rintro e w35 ⟨v114, rfl, ho0, hb⟩; refine rn6 (Kd.R_below q95_6 hb) (Kd.R_elder' q95_2 (Kd.R_base ho0) hb) (Kd.R_elder' q95_4 (Kd.R_base ho0) hb) (Kd.R_lower (Kd.R_new' (Kd.R_new' ho0 (Kd.R_lt q95_2)) (Kd.R_lt q95_4)) (below_size q95_1)) (blk_below (g := gb106) (o := .cells #[.string t101, .slice Ao10 t102.length co10] 25 (0, 0)) q95_5 hb) (below_step q95_1 hb) ?_; clear HO104 HO109 HO112 BK106 HB; intro HO104 HO109 HO112 HO115 BK106 HB; (try clear hb); (try clear hb2); (try clear hk); (try clear hi); (try clear ho0); obtain ⟨Ao36, co36, eo36⟩ := Kd.R_slice HO115.out; subst eo36)))
   go_meet
   case rel => exact ⟨_, (true), q95_14, H', ⟨by first | omega | exact Nat.le_refl _⟩, ⟨by (with_reducible repeat (first | apply Kd.R_alloc | apply Kd.R_drewN | apply Kd.R_drew)); exact Kd.R_mono HO109.out (fun _ hk => hk.1.2)⟩, ⟨by (with_reducible repeat (first | apply Kd.R_alloc | apply Kd.R_drewN | apply Kd.R_drew)); exact Kd.R_mono HO112.out (fun _ hk => hk.1.2)⟩, ⟨by (with_reducible repeat (first | apply Kd.R_alloc | apply Kd.R_drewN | apply Kd.R_drew)); exact HO104.out⟩, ⟨by (with_reducible repeat (first | refine blk_drewN ?_ _ | refine blk_drew ?_ | refine blk_alloc ?_ _)); exact BK106.out⟩, ⟨by repeat (first | (with_reducible first | exact HB.out | apply below_alloc | apply pw_below_drewN | apply below_drew1 | refine below_set ?_ GE106.out) | exact HB.out)⟩⟩
  rw [if_pos c15] at H
  have c15b0 : ((t107.length : Int) == (t113.length : Int)) = true := beq_iff_eq.mpr c15
  have c15b1 : ((t107.length : Int) != (t113.length : Int)) = false := bne_eq_false_iff_eq.mpr c15
  have c15b2 : (t107.length == t113.length) = true := by first | simpa using c15 | (simp at c15 ⊢; omega)
  clear c15
  (first | rw [c15b0] | (simp only [i64_w, i32_w]; rw [c15b0]) | skip)
  by_cases c16 : t105 < 0
  ·rw [if_pos c16] at H
   have c16b0 : decide (t105 < 0) = true := decide_eq_true c16
   clear c16
   have H' := Aside0.mk H
   clear H
   obtain ⟨Ao17, co17, eo17⟩ := Kd.R_slice HO109.out
   subst eo17
   have hcz18_0 : w13.cell? ⟨gb106, 0, none⟩ = some (.string t101) := (blk_cell BK106.out 0).trans rfl
   have hcz18_1 : w13.cell? ⟨gb106, 1, none⟩ = some (.slice Ao10 t102.length co10) := (blk_cell BK106.out 1).trans rfl
   have hfz18_0 := blk_frozen BK106.out 0
   have hfz18_1 := blk_frozen BK106.out 1
   go_wp2_with (first | (go_at_call 48; (with_reducible refine (spec_AllWords.calls k t101 _ _ t102 t105 t113 _ ?side1 ?side2 A14.out).mono ?_); (case side1 => exact q95_3); (case side2 => exact (Kd.R_reads' HO104.out).2.1); rintro e w19 ⟨v114, rfl, ho0, hb⟩; refine rn6 (Kd.R_below q95_6 hb) (Kd.R_elder' q95_2 (Kd.R_base ho0) hb) (Kd.R_elder' q95_4 (Kd.R_base ho0) hb) (Kd.R_lower (Kd.R_new' (Kd.R_new' ho0 (Kd.R_lt q95_2)) (Kd.R_lt q95_4)) (below_size q95_1)) (blk_below (g := gb106) (o := .cells #[.string t101, .slice Ao10 t102.length co10] 25 (0, 0)) q95_5 hb) (below_step q95_1 hb) ?_; clear HO104 HO109 HO112 BK106 HB; intro HO104 HO109 HO112 HO115 BK106 HB; (try clear hb); (try clear hb2); (try clear hk); (try clear hi); (try clear ho0); obtain ⟨Ao20, co20, eo20⟩ := Kd.R_slice HO115.out; subst eo20))
   repeat (go_quiet (first | (go_at_call 48; (with_reducible refine (spec_AllWords.calls k t101 _ _ t102 t105 t113 _ ?side1 ?side2 A14.out).mono ?_); (case side1 => exact q95_3); (case side2 => exact (Kd.R_reads' HO104.out).2.1); rintro e w19 ⟨v114, rfl, ho0, hb⟩; refine rn6 (Kd.R_below q95_6 hb) (Kd.R_elder' q95_2 (Kd.R_base ho0) hb) (Kd.R_elder' q95_4 (Kd.R_base ho0) hb) (Kd.R_lower (Kd.R_new' (Kd.R_new' ho0 (Kd.R_lt q95_2)) (Kd.R_lt q95_4)) (below_size q95_1)) (blk_below (g := gb106) (o := .cells #[.string t101, .slice Ao10 t102.length co10] 25 (0, 0)) q95_5 hb) (below_step q95_1 hb) ?_; clear HO104 HO109 HO112 BK106 HB; intro HO104 HO109 HO112 HO115 BK106 HB; (try clear hb); (try clear hb2); (try clear hk); (try clear hi); (try clear ho0); obtain ⟨Ao20, co20, eo20⟩ := Kd.R_slice HO115.out; subst eo20)); try go_wp2_with (first | (go_at_call 48; (with_reducible refine (spec_AllWords.calls k t101 _ _ t102 t105 t113 _ ?side1 ?side2 A14.out).mono ?_); (case side1 => exact q95_3); (case side2 => exact (Kd.R_reads' HO104.out).2.1); rintro e w19 ⟨v114, rfl, ho0, hb⟩; refine rn6 (Kd.R_below q95_6 hb) (Kd.R_elder' q95_2 (Kd.R_base ho0) hb) (Kd.R_elder' q95_4 (Kd.R_base ho0) hb) (Kd.R_lower (Kd.R_new' (Kd.R_new' ho0 (Kd.R_lt q95_2)) (Kd.R_lt q95_4)) (below_size q95_1)) (blk_below (g := gb106) (o := .cells #[.string t101, .slice Ao10 t102.length co10] 25 (0, 0)) q95_5 hb) (below_step q95_1 hb) ?_; clear HO104 HO109 HO112 BK106 HB; intro HO104 HO109 HO112 HO115 BK106 HB; (try clear hb); (try clear hb2); (try clear hk); (try clear hi); (try clear ho0); obtain ⟨Ao20, co20, eo20⟩ := Kd.R_slice HO115.out; subst eo20)))
   go_meet
   case rel => exact ⟨_, (true), q95_14, H', ⟨by first | omega | exact Nat.le_refl _⟩, ⟨by (with_reducible repeat (first | apply Kd.R_alloc | apply Kd.R_drewN | apply Kd.R_drew)); exact Kd.R_mono HO109.out (fun _ hk => hk.1.2)⟩, ⟨by (with_reducible repeat (first | apply Kd.R_alloc | apply Kd.R_drewN | apply Kd.R_drew)); exact Kd.R_mono HO112.out (fun _ hk => hk.1.2)⟩, ⟨by (with_reducible repeat (first | apply Kd.R_alloc | apply Kd.R_drewN | apply Kd.R_drew)); exact HO104.out⟩, ⟨by (with_reducible repeat (first | refine blk_drewN ?_ _ | refine blk_drew ?_ | refine blk_alloc ?_ _)); exact BK106.out⟩, ⟨by repeat (first | (with_reducible first | exact HB.out | apply below_alloc | apply pw_below_drewN | apply below_drew1 | refine below_set ?_ GE106.out) | exact HB.out)⟩⟩
  rw [if_neg c16] at H
  have c16b0 : decide (t105 < 0) = false := decide_eq_false c16
  clear c16
  by_cases c21 : t105 > 3
  ·rw [if_pos c21] at H
   have c21b0 : decide (3 < t105) = true := decide_eq_true c21
   clear c21
   have H' := Aside0.mk H
   clear H
   obtain ⟨Ao22, co22, eo22⟩ := Kd.R_slice HO109.out
   subst eo22
   have hcz23_0 : w13.cell? ⟨gb106, 0, none⟩ = some (.string t101) := (blk_cell BK106.out 0).trans rfl
   have hcz23_1 : w13.cell? ⟨gb106, 1, none⟩ = some (.slice Ao10 t102.length co10) := (blk_cell BK106.out 1).trans rfl
   have hfz23_0 := blk_frozen BK106.out 0
   have hfz23_1 := blk_frozen BK106.out 1
   go_wp2_with (first | (go_at_call 48; (with_reducible refine (spec_AllWords.calls k t101 _ _ t102 t105 t113 _ ?side1 ?side2 A14.out).mono ?_); (case side1 => exact q95_3); (case side2 => exact (Kd.R_reads' HO104.out).2.1); rintro e w24 ⟨v114, rfl, ho0, hb⟩; refine rn6 (Kd.R_below q95_6 hb) (Kd.R_elder' q95_2 (Kd.R_base ho0) hb) (Kd.R_elder' q95_4 (Kd.R_base ho0) hb) (Kd.R_lower (Kd.R_new' (Kd.R_new' ho0 (Kd.R_lt q95_2)) (Kd.R_lt q95_4)) (below_size q95_1)) (blk_below (g := gb106) (o := .cells #[.string t101, .slice Ao10 t102.length co10] 25 (0, 0)) q95_5 hb) (below_step q95_1 hb) ?_; clear HO104 HO109 HO112 BK106 HB; intro HO104 HO109 HO112 HO115 BK106 HB; (try clear hb); (try clear hb2); (try clear hk); (try clear hi); (try clear ho0); obtain ⟨Ao25, co25, eo25⟩ := Kd.R_slice HO115.out; subst eo25))
   repeat (go_quiet (first | (go_at_call 48; (with_reducible refine (spec_AllWords.calls k t101 _ _ t102 t105 t113 _ ?side1 ?side2 A14.out).mono ?_); (case side1 => exact q95_3); (case side2 => exact (Kd.R_reads' HO104.out).2.1); rintro e w24 ⟨v114, rfl, ho0, hb⟩; refine rn6 (Kd.R_below q95_6 hb) (Kd.R_elder' q95_2 (Kd.R_base ho0) hb) (Kd.R_elder' q95_4 (Kd.R_base ho0) hb) (Kd.R_lower (Kd.R_new' (Kd.R_new' ho0 (Kd.R_lt q95_2)) (Kd.R_lt q95_4)) (below_size q95_1)) (blk_below (g := gb106) (o := .cells #[.string t101, .slice Ao10 t102.length co10] 25 (0, 0)) q95_5 hb) (below_step q95_1 hb) ?_; clear HO104 HO109 HO112 BK106 HB; intro HO104 HO109 HO112 HO115 BK106 HB; (try clear hb); (try clear hb2); (try clear hk); (try clear hi); (try clear ho0); obtain ⟨Ao25, co25, eo25⟩ := Kd.R_slice HO115.out; subst eo25)); try go_wp2_with (first | (go_at_call 48; (with_reducible refine (spec_AllWords.calls k t101 _ _ t102 t105 t113 _ ?side1 ?side2 A14.out).mono ?_); (case side1 => exact q95_3); (case side2 => exact (Kd.R_reads' HO104.out).2.1); rintro e w24 ⟨v114, rfl, ho0, hb⟩; refine rn6 (Kd.R_below q95_6 hb) (Kd.R_elder' q95_2 (Kd.R_base ho0) hb) (Kd.R_elder' q95_4 (Kd.R_base ho0) hb) (Kd.R_lower (Kd.R_new' (Kd.R_new' ho0 (Kd.R_lt q95_2)) (Kd.R_lt q95_4)) (below_size q95_1)) (blk_below (g := gb106) (o := .cells #[.string t101, .slice Ao10 t102.length co10] 25 (0, 0)) q95_5 hb) (below_step q95_1 hb) ?_; clear HO104 HO109 HO112 BK106 HB; intro HO104 HO109 HO112 HO115 BK106 HB; (try clear hb); (try clear hb2); (try clear hk); (try clear hi); (try clear ho0); obtain ⟨Ao25, co25, eo25⟩ := Kd.R_slice HO115.out; subst eo25)))
   go_meet
   case rel => exact ⟨_, (true), q95_14, H', ⟨by first | omega | exact Nat.le_refl _⟩, ⟨by (with_reducible repeat (first | apply Kd.R_alloc | apply Kd.R_drewN | apply Kd.R_drew)); exact Kd.R_mono HO109.out (fun _ hk => hk.1.2)⟩, ⟨by (with_reducible repeat (first | apply Kd.R_alloc | apply Kd.R_drewN | apply Kd.R_drew)); exact Kd.R_mono HO112.out (fun _ hk => hk.1.2)⟩, ⟨by (with_reducible repeat (first | apply Kd.R_alloc | apply Kd.R_drewN | apply Kd.R_drew)); exact HO104.out⟩, ⟨by (with_reducible repeat (first | refine blk_drewN ?_ _ | refine blk_drew ?_ | refine blk_alloc ?_ _)); exact BK106.out⟩, ⟨by repeat (first | (with_reducible first | exact HB.out | apply below_alloc | apply pw_below_drewN | apply below_drew1 | refine below_set ?_ GE106.out) | exact HB.out)⟩⟩
  rw [if_neg c21] at H
  have c21b0 : decide (3 < t105) = false := decide_eq_false c21
  clear c21
  replace H := Option.bind_eq_some_iff.mp H
  obtain ⟨t116, A260, H⟩ := H
  replace H : (laws_FnAllLonger.j0 k t105 t107 t110 (!t116) t101 t102) = some r := H
  have A26 := Aside0.mk A260
  clear A260
  have H' := Aside0.mk H
  clear H
  obtain ⟨Ao27, co27, eo27⟩ := Kd.R_slice HO109.out
  subst eo27
  have hcz28_0 : w13.cell? ⟨gb106, 0, none⟩ = some (.string t101) := (blk_cell BK106.out 0).trans rfl
  have hcz28_1 : w13.cell? ⟨gb106, 1, none⟩ = some (.slice Ao10 t102.length co10) := (blk_cell BK106.out 1).trans rfl
  have hfz28_0 := blk_frozen BK106.out 0
  have hfz28_1 := blk_frozen BK106.out 1
  go_wp2_with (first | (go_at_call 48; (with_reducible refine (spec_AllWords.calls k t101 _ _ t102 t105 t113 _ ?side1 ?side2 A14.out).mono ?_); (case side1 => exact q95_3); (case side2 => exact (Kd.R_reads' HO104.out).2.1); rintro e w29 ⟨v114, rfl, ho0, hb⟩; refine rn6 (Kd.R_below q95_6 hb) (Kd.R_elder' q95_2 (Kd.R_base ho0) hb) (Kd.R_elder' q95_4 (Kd.R_base ho0) hb) (Kd.R_lower (Kd.R_new' (Kd.R_new' ho0 (Kd.R_lt q95_2)) (Kd.R_lt q95_4)) (below_size q95_1)) (blk_below (g := gb106) (o := .cells #[.string t101, .slice Ao10 t102.length co10] 25 (0, 0)) q95_5 hb) (below_step q95_1 hb) ?_; clear HO104 HO109 HO112 BK106 HB; intro HO104 HO109 HO112 HO115 BK106 HB; (try clear hb); (try clear hb2); (try clear hk); (try clear hi); (try clear ho0); obtain ⟨Ao30, co30, eo30⟩ := Kd.R_slice HO115.out; subst eo30; have hcz31_0 : w29.cell? ⟨gb106, 0, none⟩ = some (.string t101) := (blk_cell BK106.out 0).trans rfl; have hcz31_1 : w29.cell? ⟨gb106, 1, none⟩ = some (.slice Ao10 t102.length co10) := (blk_cell BK106.out 1).trans rfl; have hfz31_0 := blk_frozen BK106.out 0; have hfz31_1 := blk_frozen BK106.out 1) | (go_at_call 27; (with_reducible refine (spec_GramOk.calls k t101 _ _ t102 t116 _ ?side1 ?side2 A26.out).mono ?_); (case side1 => exact q95_3); (case side2 => exact (Kd.R_reads' HO104.out).2.1); rintro e w32 ⟨rfl, hb⟩; refine rn6 (Kd.R_below q95_6 hb) (Kd.R_below q95_2 hb) (Kd.R_below q95_4 hb) (Kd.R_below q95_16 hb) (blk_below (g := gb106) (o := .cells #[.string t101, .slice Ao10 t102.length co10] 25 (0, 0)) q95_5 hb) (below_step q95_1 hb) ?_; clear HO104 HO109 HO112 HO115 BK106 HB; intro HO104 HO109 HO112 HO115 BK106 HB; (try clear hb); (try clear hb2); (try clear hk); (try clear hi)))
  repeat (go_quiet (first | (go_at_call 48; (with_reducible refine (spec_AllWords.calls k t101 _ _ t102 t105 t113 _ ?side1 ?side2 A14.out).mono ?_); (case side1 => exact q95_3); (case side2 => exact (Kd.R_reads' HO104.out).2.1); rintro e w29 ⟨v114, rfl, ho0, hb⟩; refine rn6 (Kd.R_below q95_6 hb) (Kd.R_elder' q95_2 (Kd.R_base ho0) hb) (Kd.R_elder' q95_4 (Kd.R_base ho0) hb) (Kd.R_lower (Kd.R_new' (Kd.R_new' ho0 (Kd.R_lt q95_2)) (Kd.R_lt q95_4)) (below_size q95_1)) (blk_below (g := gb106) (o := .cells #[.string t101, .slice Ao10 t102.length co10] 25 (0, 0)) q95_5 hb) (below_step q95_1 hb) ?_; clear HO104 HO109 HO112 BK106 HB; intro HO104 HO109 HO112 HO115 BK106 HB; (try clear hb); (try clear hb2); (try clear hk); (try clear hi); (try clear ho0); obtain ⟨Ao30, co30, eo30⟩ := Kd.R_slice HO115.out; subst eo30; have hcz31_0 : w29.cell? ⟨gb106, 0, none⟩ = some (.string t101) := (blk_cell BK106.out 0).trans rfl; have hcz31_1 : w29.cell? ⟨gb106, 1, none⟩ = some (.slice Ao10 t102.length co10) := (blk_cell BK106.out 1).trans rfl; have hfz31_0 := blk_frozen BK106.out 0; have hfz31_1 := blk_frozen BK106.out 1) | (go_at_call 27; (with_reducible refine (spec_GramOk.calls k t101 _ _ t102 t116 _ ?side1 ?side2 A26.out).mono ?_); (case side1 => exact q95_3); (case side2 => exact (Kd.R_reads' HO104.out).2.1); rintro e w32 ⟨rfl, hb⟩; refine rn6 (Kd.R_below q95_6 hb) (Kd.R_below q95_2 hb) (Kd.R_below q95_4 hb) (Kd.R_below q95_16 hb) (blk_below (g := gb106) (o := .cells #[.string t101, .slice Ao10 t102.length co10] 25 (0, 0)) q95_5 hb) (below_step q95_1 hb) ?_; clear HO104 HO109 HO112 HO115 BK106 HB; intro HO104 HO109 HO112 HO115 BK106 HB; (try clear hb); (try clear hb2); (try clear hk); (try clear hi))); try go_wp2_with (first | (go_at_call 48; (with_reducible refine (spec_AllWords.calls k t101 _ _ t102 t105 t113 _ ?side1 ?side2 A14.out).mono ?_); (case side1 => exact q95_3); (case side2 => exact (Kd.R_reads' HO104.out).2.1); rintro e w29 ⟨v114, rfl, ho0, hb⟩; refine rn6 (Kd.R_below q95_6 hb) (Kd.R_elder' q95_2 (Kd.R_base ho0) hb) (Kd.R_elder' q95_4 (Kd.R_base ho0) hb) (Kd.R_lower (Kd.R_new' (Kd.R_new' ho0 (Kd.R_lt q95_2)) (Kd.R_lt q95_4)) (below_size q95_1)) (blk_below (g := gb106) (o := .cells #[.string t101, .slice Ao10 t102.length co10] 25 (0, 0)) q95_5 hb) (below_step q95_1 hb) ?_; clear HO104 HO109 HO112 BK106 HB; intro HO104 HO109 HO112 HO115 BK106 HB; (try clear hb); (try clear hb2); (try clear hk); (try clear hi); (try clear ho0); obtain ⟨Ao30, co30, eo30⟩ := Kd.R_slice HO115.out; subst eo30; have hcz31_0 : w29.cell? ⟨gb106, 0, none⟩ = some (.string t101) := (blk_cell BK106.out 0).trans rfl; have hcz31_1 : w29.cell? ⟨gb106, 1, none⟩ = some (.slice Ao10 t102.length co10) := (blk_cell BK106.out 1).trans rfl; have hfz31_0 := blk_frozen BK106.out 0; have hfz31_1 := blk_frozen BK106.out 1) | (go_at_call 27; (with_reducible refine (spec_GramOk.calls k t101 _ _ t102 t116 _ ?side1 ?side2 A26.out).mono ?_); (case side1 => exact q95_3); (case side2 => exact (Kd.R_reads' HO104.out).2.1); rintro e w32 ⟨rfl, hb⟩; refine rn6 (Kd.R_below q95_6 hb) (Kd.R_below q95_2 hb) (Kd.R_below q95_4 hb) (Kd.R_below q95_16 hb) (blk_below (g := gb106) (o := .cells #[.string t101, .slice Ao10 t102.length co10] 25 (0, 0)) q95_5 hb) (below_step q95_1 hb) ?_; clear HO104 HO109 HO112 HO115 BK106 HB; intro HO104 HO109 HO112 HO115 BK106 HB; (try clear hb); (try clear hb2); (try clear hk); (try clear hi))))
  go_meet
  case rel => exact ⟨_, (!t116), q95_14, H', ⟨by first | omega | exact Nat.le_refl _⟩, ⟨by (with_reducible repeat (first | apply Kd.R_alloc | apply Kd.R_drewN | apply Kd.R_drew)); exact Kd.R_mono HO109.out (fun _ hk => hk.1.2)⟩, ⟨by (with_reducible repeat (first | apply Kd.R_alloc | apply Kd.R_drewN | apply Kd.R_drew)); exact Kd.R_mono HO112.out (fun _ hk => hk.1.2)⟩, ⟨by (with_reducible repeat (first | apply Kd.R_alloc | apply Kd.R_drewN | apply Kd.R_drew)); exact HO104.out⟩, ⟨by (with_reducible repeat (first | refine blk_drewN ?_ _ | refine blk_drew ?_ | refine blk_alloc ?_ _)); exact BK106.out⟩, ⟨by repeat (first | (with_reducible first | exact HB.out | apply below_alloc | apply pw_below_drewN | apply below_drew1 | refine below_set ?_ GE106.out) | exact HB.out)⟩⟩
 case rest =>
  clear HC6
  try clear c1
  try clear c2
  try clear c2b0
  try clear c2b1
  try clear p2
  try clear p6
  try clear c8
  try clear c15
  try clear c15b0
  try clear c15b1
  try clear c15b2
  try clear c16
  try clear c16b0
  try clear c21
  try clear c21b0
  try clear hcz12_0
  try clear hcz12_1
  try clear hcz18_0
  try clear hcz18_1
  try clear hcz23_0
  try clear hcz23_1
  try clear hcz28_0
  try clear hcz28_1
  try clear hcz31_0
  try clear hcz31_1
  try clear hcz34_0
  try clear hcz34_1
  try clear hcz9_0
  try clear hcz9_1
  try clear hfz12_0
  try clear hfz12_1
  try clear hfz18_0
  try clear hfz18_1
  try clear hfz23_0
  try clear hfz23_1
  try clear hfz28_0
  try clear hfz28_1
  try clear hfz31_0
  try clear hfz31_1
  try clear hfz34_0
  try clear hfz34_1
  try clear hfz9_0
  try clear hfz9_1
  obtain ⟨kq, x42_5, rfl, HA, HJ5, HO_5, HO_6, HO_107001, BK106, HB⟩ := hcut
  cases kq with
  | zero => exact absurd HA.out (by simp [laws_FnAllLonger.j0])
  | succ kj5 =>
   have H := HA.out
   clear HA
   simp only [laws_FnAllLonger.j0] at H
   by_cases c37 : x42_5 = true
   ·subst c37
    have H1 : ((spec_AllWords.f kj5 t101 t102 t105).bind fun t117 => (some ((t107.length : Int) == (t117.length : Int)))) = some r := by rw [if_pos rfl] at H; exact H
    clear H
    have H := H1
    clear H1
    replace H := Option.bind_eq_some_iff.mp H
    obtain ⟨t117, A380, H⟩ := H
    replace H : (some ((t107.length : Int) == (t117.length : Int))) = some r := H
    have A38 := Aside0.mk A380
    clear A380
    obtain rfl := Option.some.inj H
    obtain ⟨Ao39, co39, eo39⟩ := Kd.R_slice HO_5.out
    subst eo39
    have hcz40_0 : wc.cell? ⟨gb106, 0, none⟩ = some (.string t101) := (blk_cell BK106.out 0).trans rfl
    have hcz40_1 : wc.cell? ⟨gb106, 1, none⟩ = some (.slice Ao10 t102.length co10) := (blk_cell BK106.out 1).trans rfl
    have hfz40_0 := blk_frozen BK106.out 0
    have hfz40_1 := blk_frozen BK106.out 1
    go_wp2_with (first | (go_at_call 48; (with_reducible refine (spec_AllWords.calls kj5 t101 _ _ t102 t105 t117 _ ?side1 ?side2 A38.out).mono ?_); (case side1 => exact q95_11); (case side2 => exact (Kd.R_reads' HO_107001.out).2.1); rintro e w41 ⟨v118, rfl, ho0, hb⟩; refine rn6 (Kd.R_elder' q95_9 (Kd.R_base ho0) hb) (Kd.R_elder' q95_10 (Kd.R_base ho0) hb) (Kd.R_below q95_15 hb) (Kd.R_lower (Kd.R_new' (Kd.R_new' ho0 (Kd.R_lt q95_9)) (Kd.R_lt q95_10)) (below_size q95_1)) (blk_below (g := gb106) (o := .cells #[.string t101, .slice Ao10 t102.length co10] 25 (0, 0)) q95_5 hb) (below_step q95_1 hb) ?_; clear HO_5 HO_6 HO_107001 BK106 HB; intro HO_5 HO_6 HO_107001 HO119 BK106 HB; (try clear hb); (try clear hb2); (try clear hk); (try clear hi); (try clear ho0); obtain ⟨Ao42, co42, eo42⟩ := Kd.R_slice HO119.out; subst eo42))
    repeat (go_quiet (first | (go_at_call 48; (with_reducible refine (spec_AllWords.calls kj5 t101 _ _ t102 t105 t117 _ ?side1 ?side2 A38.out).mono ?_); (case side1 => exact q95_11); (case side2 => exact (Kd.R_reads' HO_107001.out).2.1); rintro e w41 ⟨v118, rfl, ho0, hb⟩; refine rn6 (Kd.R_elder' q95_9 (Kd.R_base ho0) hb) (Kd.R_elder' q95_10 (Kd.R_base ho0) hb) (Kd.R_below q95_15 hb) (Kd.R_lower (Kd.R_new' (Kd.R_new' ho0 (Kd.R_lt q95_9)) (Kd.R_lt q95_10)) (below_size q95_1)) (blk_below (g := gb106) (o := .cells #[.string t101, .slice Ao10 t102.length co10] 25 (0, 0)) q95_5 hb) (below_step q95_1 hb) ?_; clear HO_5 HO_6 HO_107001 BK106 HB; intro HO_5 HO_6 HO_107001 HO119 BK106 HB; (try clear hb); (try clear hb2); (try clear hk); (try clear hi); (try clear ho0); obtain ⟨Ao42, co42, eo42⟩ := Kd.R_slice HO119.out; subst eo42)); try go_wp2_with (first | (go_at_call 48; (with_reducible refine (spec_AllWords.calls kj5 t101 _ _ t102 t105 t117 _ ?side1 ?side2 A38.out).mono ?_); (case side1 => exact q95_11); (case side2 => exact (Kd.R_reads' HO_107001.out).2.1); rintro e w41 ⟨v118, rfl, ho0, hb⟩; refine rn6 (Kd.R_elder' q95_9 (Kd.R_base ho0) hb) (Kd.R_elder' q95_10 (Kd.R_base ho0) hb) (Kd.R_below q95_15 hb) (Kd.R_lower (Kd.R_new' (Kd.R_new' ho0 (Kd.R_lt q95_9)) (Kd.R_lt q95_10)) (below_size q95_1)) (blk_below (g := gb106) (o := .cells #[.string t101, .slice Ao10 t102.length co10] 25 (0, 0)) q95_5 hb) (below_step q95_1 hb) ?_; clear HO_5 HO_6 HO_107001 BK106 HB; intro HO_5 HO_6 HO_107001 HO119 BK106 HB; (try clear hb); (try clear hb2); (try clear hk); (try clear hi); (try clear ho0); obtain ⟨Ao42, co42, eo42⟩ := Kd.R_slice HO119.out; subst eo42)))
    go_ret
    exact ⟨by first | rfl | (simp [errW_none, errW_some] <;> rfl) | (simp [*, errW_none, errW_some] <;> rfl), by repeat (first | (with_reducible first | exact HB.out | apply below_alloc | apply pw_below_drewN | apply below_drew1 | refine below_set ?_ GE106.out) | exact HB.out)⟩
   replace c37 := Bool.eq_false_iff.mpr c37
   subst c37
   have H1 : (if (t110.length : Int) < (t107.length : Int) then (some false) else (laws_FnAllLonger.l0 kj5 t107 t110 0)) = some r := by rw [if_neg (show ¬ (false = true) by decide)] at H; exact H
   clear H
   have H := H1
   clear H1
   by_cases c43 : (t110.length : Int) < (t107.length : Int)
   ·rw [if_pos c43] at H
    have c43b0 : decide ((t110.length : Int) < (t107.length : Int)) = true := decide_eq_true c43
    have c43b1 : decide (t110.length < t107.length) = true := decide_eq_true (Int.ofNat_lt.mp c43)
    clear c43
    obtain rfl := Option.some.inj H
    obtain ⟨Ao44, co44, eo44⟩ := Kd.R_slice HO_6.out
    subst eo44
    obtain ⟨Ao45, co45, eo45⟩ := Kd.R_slice HO_5.out
    subst eo45
    go_wp2
    repeat (go_quiet (fail); try go_wp2)
    go_ret
    exact ⟨by first | rfl | (simp [errW_none, errW_some] <;> rfl) | (simp [*, errW_none, errW_some] <;> rfl), by repeat (first | (with_reducible first | exact HB.out | apply below_alloc | apply pw_below_drewN | apply below_drew1 | refine below_set ?_ GE106.out) | exact HB.out)⟩
   rw [if_neg c43] at H
   have c43b0 : decide ((t110.length : Int) < (t107.length : Int)) = false := decide_eq_false c43
   have c43b1 : decide (t110.length < t107.length) = false := decide_eq_false (fun h => c43 (Int.ofNat_lt.mpr h))
   clear c43
   have H' := Aside0.mk H
   clear H
   obtain ⟨Ao46, co46, eo46⟩ := Kd.R_slice HO_6.out
   subst eo46
   obtain ⟨Ao47, co47, eo47⟩ := Kd.R_slice HO_5.out
   subst eo47
   go_wp2
   repeat (go_quiet (fail); try go_wp2)
   go_loopg [7] kj5 (fun kq v7 w' => ∃ (x7_2 : Int), v7 = .int .i64 x7_2 ∧ Aside0 (laws_FnAllLonger.l0 kq t107 t110 x7_2 = some r) ∧ Aside0 (kq ≤ kj5) ∧ Aside0 (Kd.R Kd.string 9 w' w.heap.size (fun k_ => some k_ ≠ ((.slice Ao46 t110.length co46) : Value).ownBlock) (.slice Ao47 t107.length co47) t107) ∧ Aside0 (Kd.R Kd.string 9 w' w.heap.size (fun k_ => some k_ ≠ ((.slice Ao47 t107.length co47) : Value).ownBlock) (.slice Ao46 t110.length co46) t110) ∧ Aside0 (Kd.R k46 46 w' w.heap.size (fun _ => True) (.slice Ao10 t102.length co10) t102) ∧ Aside0 (w'.heap[gb106]? = some (.cells #[.string t101, (.slice Ao10 t102.length co10)] 25 (0, 0))) ∧ Aside0 (Below w.heap.size w w'))
   case atStart => exact ⟨(0), q95_14, H', ⟨Nat.le_refl _⟩, ⟨by (with_reducible repeat (first | apply Kd.R_alloc | apply Kd.R_drewN | apply Kd.R_drew)); exact HO_5.out⟩, ⟨by (with_reducible repeat (first | apply Kd.R_alloc | apply Kd.R_drewN | apply Kd.R_drew)); exact HO_6.out⟩, ⟨by (with_reducible repeat (first | apply Kd.R_alloc | apply Kd.R_drewN | apply Kd.R_drew)); exact HO_107001.out⟩, ⟨by (with_reducible repeat (first | refine blk_drewN ?_ _ | refine blk_drew ?_ | refine blk_alloc ?_ _)); exact BK106.out⟩, ⟨by repeat (first | (with_reducible first | exact HB.out | apply below_alloc | apply pw_below_drewN | apply below_drew1 | refine below_set ?_ GE106.out) | exact HB.out)⟩⟩
   case round =>
    clear H'
    try clear c1
    try clear c2
    try clear c2b0
    try clear c2b1
    try clear p2
    try clear c3
    try clear c4
    try clear p6
    try clear c8
    try clear c15
    try clear c15b0
    try clear c15b1
    try clear c15b2
    try clear c16
    try clear c16b0
    try clear c21
    try clear c21b0
    try clear c37
    try clear c43
    try clear c43b0
    try clear c43b1
    try clear hcz12_0
    try clear hcz12_1
    try clear hcz18_0
    try clear hcz18_1
    try clear hcz23_0
    try clear hcz23_1
    try clear hcz28_0
    try clear hcz28_1
    try clear hcz31_0
    try clear hcz31_1
    try clear hcz34_0
    try clear hcz34_1
    try clear hcz40_0
    try clear hcz40_1
    try clear hcz9_0
    try clear hcz9_1
    try clear hfz12_0
    try clear hfz12_1
    try clear hfz18_0
    try clear hfz18_1
    try clear hfz23_0
    try clear hfz23_1
    try clear hfz28_0
    try clear hfz28_1
    try clear hfz31_0
    try clear hfz31_1
    try clear hfz34_0
    try clear hfz34_1
    try clear hfz40_0
    try clear hfz40_1
    try clear hfz9_0
    try clear hfz9_1
    try clear p2
    try clear p6
    obtain ⟨x7_2, rfl, HA, HK2, HO_5, HO_6, HO_107001, BK106, HB⟩ := hrel
    cases gk with
    | zero => exact absurd HA.out (by simp [laws_FnAllLonger.l0])
    | succ k2 =>
     have H := HA.out
     clear HA
     simp only [laws_FnAllLonger.l0] at H
     by_cases c48 : x7_2 < (t107.length : Int)
     rotate_left
     ·rw [if_neg c48] at H
      have c48b0 : decide (x7_2 < (t107.length : Int)) = false := decide_eq_false c48
      clear c48
      obtain rfl := Option.some.inj H
      go_wp2
      repeat (go_quiet (fail); try go_wp2)
      go_ret
      exact ⟨by first | rfl | (simp [errW_none, errW_some] <;> rfl) | (simp [*, errW_none, errW_some] <;> rfl), by repeat (first | (with_reducible first | exact HB.out | apply below_alloc | apply pw_below_drewN | apply below_drew1 | refine below_set ?_ GE106.out) | exact HB.out)⟩
     rw [if_pos c48] at H
     have c48b0 : decide (x7_2 < (t107.length : Int)) = true := decide_eq_true c48
     clear c48
     by_cases c49 : 0 ≤ x7_2
     rotate_left
     ·rw [if_neg c49] at H
      exact absurd H (by simp)
     rw [if_pos c49] at H
     have c49b0 : decide (0 ≤ x7_2) = true := decide_eq_true c49
     clear c49
     by_cases c50 : x7_2 < (t110.length : Int)
     rotate_left
     ·rw [if_neg c50] at H
      exact absurd H (by simp)
     rw [if_pos c50] at H
     have c50b0 : decide (x7_2 < (t110.length : Int)) = true := decide_eq_true c50
     clear c50
     by_cases c51 : (rdOf ByteArray.empty t107 x7_2).toList = (rdOf ByteArray.empty t110 x7_2).toList
     ·rw [if_pos c51] at H
      have c51b0 : ((rdOf ByteArray.empty t107 x7_2).toList == (rdOf ByteArray.empty t110 x7_2).toList) = true := beq_iff_eq.mpr c51
      have c51b1 : ((rdOf ByteArray.empty t107 x7_2).toList != (rdOf ByteArray.empty t110 x7_2).toList) = false := bne_eq_false_iff_eq.mpr c51
      clear c51
      have H' := Aside0.mk H
      clear H
      have p120 : 0 ≤ (x7_2 : Int) := of_decide_eq_true q95_12
      have q120 : x7_2 < (t107.length : Int) := of_decide_eq_true q95_12
      obtain ⟨ad120, e120, hx120_0⟩ := Kd.at_string (Kd.R_reads' HO_5.out).2.2 x7_2 p120 q120
      cases e120
      replace p120 := eq_true p120
      replace q120 := eq_true q120
      have p121 : 0 ≤ (x7_2 : Int) := of_decide_eq_true q95_12
      have q121 : x7_2 < (t110.length : Int) := of_decide_eq_true q95_12
      obtain ⟨ad121, e121, hx121_0⟩ := Kd.at_string (Kd.R_reads' HO_6.out).2.2 x7_2 p121 q121
      cases e121
      replace p121 := eq_true p121
      replace q121 := eq_true q121
      go_wp2
      repeat (go_quiet (fail); try go_wp2)
      go_roundg k2
      case measure => have := HJ5.out; have := HK2.out; omega
      case rel => exact ⟨(wrap64 (x7_2 + 1)), q95_14, H', ⟨by have := HJ5.out; have := HK2.out; omega⟩, ⟨by (with_reducible repeat (first | apply Kd.R_alloc | apply Kd.R_drewN | apply Kd.R_drew)); exact HO_5.out⟩, ⟨by (with_reducible repeat (first | apply Kd.R_alloc | apply Kd.R_drewN | apply Kd.R_drew)); exact HO_6.out⟩, ⟨by (with_reducible repeat (first | apply Kd.R_alloc | apply Kd.R_drewN | apply Kd.R_drew)); exact HO_107001.out⟩, ⟨by (with_reducible repeat (first | refine blk_drewN ?_ _ | refine blk_drew ?_ | refine blk_alloc ?_ _)); exact BK106.out⟩, ⟨by repeat (first | (with_reducible first | exact HB.out | apply below_alloc | apply pw_below_drewN | apply below_drew1 | refine below_set ?_ GE106.out) | exact HB.out)⟩⟩
     rw [if_neg c51] at H
     have c51b0 : ((rdOf ByteArray.empty t107 x7_2).toList == (rdOf ByteArray.empty t110 x7_2).toList) = false := beq_eq_false_iff_ne.mpr c51
     have c51b1 : ((rdOf ByteArray.empty t107 x7_2).toList != (rdOf ByteArray.empty t110 x7_2).toList) = true := bne_iff_ne.mpr c51
     obtain rfl := Option.some.inj H
     have p120 : 0 ≤ (x7_2 : Int) := of_decide_eq_true q95_12
     have q120 : x7_2 < (t107.length : Int) := of_decide_eq_true q95_12
     obtain ⟨ad120, e120, hx120_0⟩ := Kd.at_string (Kd.R_reads' HO_5.out).2.2 x7_2 p120 q120
     cases e120
     replace p120 := eq_true p120
     replace q120 := eq_true q120
     have p121 : 0 ≤ (x7_2 : Int) := of_decide_eq_true q95_12
     have q121 : x7_2 < (t110.length : Int) := of_decide_eq_true q95_12
     obtain ⟨ad121, e121, hx121_0⟩ := Kd.at_string (Kd.R_reads' HO_6.out).2.2 x7_2 p121 q121
     cases e121
     replace p121 := eq_true p121
     replace q121 := eq_true q121
     go_wp2
     repeat (go_quiet (fail); try go_wp2)
     go_ret
     exact ⟨by first | rfl | (simp [errW_none, errW_some] <;> rfl) | (simp [*, errW_none, errW_some] <;> rfl), by repeat (first | (with_reducible first | exact HB.out | apply below_alloc | apply pw_below_drewN | apply below_drew1 | refine below_set ?_ GE106.out) | exact HB.out)⟩
noncomputable def laws_FnAllLonger.Pure : Prop := ∀ (l0 : List Int), l0.length ≤ maxLen → l0.length * 1 ≤ 140737488351232 → (∀ x ∈ l0, (Lit.int .u8 x).wf = true) → ∃ k, laws_FnAllLonger.f k l0 = some true
theorem laws_FnAllLonger.walk (P : laws_FnAllLonger.Pure) (a0 : Option Addr) (len0 cap0 : Nat) (z0 : List Int) (w : World) (w0 : (a0 = none ∧ len0 = 0 ∧ cap0 = 0 ∧ z0 = []) ∨ ∃ x, a0 = some x ∧ len0 ≤ cap0 ∧ cap0 ≤ maxLen ∧ z0.length = cap0 ∧ (∀ i, i < z0.length → w.cell? (x.add i) = some (.int .u8 (z0.getD i 0))) ∧ ∀ n ∈ z0, (Lit.int .u8 n).wf = true) (y0 : len0 * 1 ≤ 140737488351232) :
  Calls Tryd.prog 8 #[.slice a0 len0 cap0] w fun e w' => e = .returned (.bool true) ∧ Below w.heap.size w w' := by
 obtain ⟨l0, rfl, hr0, hm0, hw0, hc0⟩ := ReadsInt.ofRowC w0
 obtain ⟨k, h⟩ := P l0 hm0 y0 hw0
 refine (laws_FnAllLonger.calls k _ _ l0 true w (Kd.C_of_reads (d := (0 : Int)) (h1 := fun _ => rfl) hr0) hc0 h).mono ?_
 rintro e w' ⟨rfl, hd⟩
 exact ⟨rfl, hd⟩
end Go.Proofs.YtiibnkibckklgaaDoor.P
namespace Go.Proofs.YtiibnkibckklgaaDoor.P
set_option linter.unusedVariables false
set_option linter.unusedSimpArgs false
open Go.RowKit Go.Proofs.YtiibnkibckklgaaDoorW.PrintWords
def Asc (s : ByteArray) : Prop := s.data.toList.Pairwise (· < ·)
theorem ins_asc {L : List UInt8} (h : L.Pairwise (· < ·)) (i : Nat) (c : UInt8) (h1 : ∀ x ∈ L.take i, x < c) (h2 : ∀ x ∈ L.drop i, c < x) :
  (L.take i ++ [c] ++ L.drop i).Pairwise (· < ·) ∧ ∀ e, e ∈ L.take i ++ [c] ++ L.drop i ↔ e ∈ L ∨ e = c := by
 constructor
 ·rw [List.append_assoc, List.pairwise_append]
  refine ⟨h.sublist (List.take_sublist _ _), ?_, ?_⟩
  ·rw [List.singleton_append, List.pairwise_cons]
   exact ⟨h2, h.sublist (List.drop_sublist _ _)⟩
  intro a ha b hb
  rcases List.mem_append.1 hb with hb | hb
  ·rw [List.mem_singleton.1 hb]; exact h1 a ha
  exact UInt8.lt_trans (h1 a ha) (h2 b hb)
 intro e
 conv => rhs; rw [← List.take_append_drop i L]
 simp only [List.mem_append, List.mem_singleton]
 constructor
 ·rintro ((h | h) | h)
  ·exact Or.inl (Or.inl h)
  ·exact Or.inr h
  exact Or.inl (Or.inr h)
 rintro ((h | h) | h)
 ·exact Or.inl (Or.inl h)
 ·exact Or.inr h
 exact Or.inl (Or.inr h)
theorem bt_lt (s : ByteArray) (i j : Nat) (hi : i < s.size) (c : UInt8) : bt s (i : Int) < (c.toNat : Int) ↔ s.data.toList[i]'(by simpa using hi) < c := by
 rw [bt_get s i hi, UInt8.lt_iff_toNat_lt]; omega
theorem spec_l1Add.tot (s : ByteArray) (c : UInt8) (hs : s.size ≤ 1000000000000) (ha : Asc s) : Tot (fun k => spec_l1Add.f k s (c.toNat : Int)) (fun r => Asc r ∧ (∀ e, e ∈ r.data.toList ↔ e ∈ s.data.toList ∨ e = c) ∧ r.size ≤ s.size + 1) := by
 have hstr : strOfNums [(c.toNat : Int)] = ⟨#[c]⟩ := by simp [strOfNums]
 have put : ∀ i : Nat, i ≤ s.size → (∀ x ∈ s.data.toList.take i, x < c) → (∀ x ∈ s.data.toList.drop i, c < x) →
   Asc ((s.extract 0 i ++ ⟨#[c]⟩) ++ s.extract i s.size) ∧ (∀ e, e ∈ ((s.extract 0 i ++ ⟨#[c]⟩) ++ s.extract i s.size).data.toList ↔ e ∈ s.data.toList ∨ e = c) ∧ ((s.extract 0 i ++ ⟨#[c]⟩) ++ s.extract i s.size).size ≤ s.size + 1 := by
  intro i hi h1 h2
  have e : ((s.extract 0 i ++ ⟨#[c]⟩) ++ s.extract i s.size).data.toList = s.data.toList.take i ++ [c] ++ s.data.toList.drop i := by
   have hz : s.size = s.data.toList.length := size_toList s
   simp only [ByteArray.data_append, ByteArray.data_extract, Array.toList_append, Array.toList_extract, List.extract_eq_take_drop, List.drop_zero, Nat.sub_zero]
   congr 1
   rw [hz, List.take_of_length_le (by simp)]
  have := ins_asc ha i c h1 h2
  refine ⟨by unfold Asc; rw [e]; exact this.1, by rw [e]; exact this.2, ?_⟩
  simp only [ByteArray.size_append, ByteArray.size_extract]
  have : (ByteArray.mk #[c]).size = 1 := rfl
  omega
 have sorted : ∀ i (hi : i < s.size), ∀ x ∈ s.data.toList.drop i, s.data.toList[i]'(by simpa using hi) ≤ x := by
  intro i hi x hx
  rw [List.drop_eq_getElem_cons (by simpa using hi)] at hx
  rcases List.mem_cons.1 hx with rfl | hx
  ·exact UInt8.le_refl _
  have := (List.pairwise_append.1 (by rw [List.take_append_drop]; exact ha : (s.data.toList.take (i + 1) ++ s.data.toList.drop (i + 1)).Pairwise (· < ·))).2.2 (s.data.toList[i]'(by simpa using hi)) (by
   rw [List.take_succ_eq_append_getElem (by simpa using hi)]; simp) x hx
  exact UInt8.le_of_lt this
 have key : ∀ (d i : Nat), i + d = s.size → (∀ x ∈ s.data.toList.take i, x < c) → Tot (fun k => spec_l1Add.l0 k s (c.toNat : Int) (i : Int)) (fun r => Asc r ∧ (∀ e, e ∈ r.data.toList ↔ e ∈ s.data.toList ∨ e = c) ∧ r.size ≤ s.size + 1) := by
  intro d
  induction d with
  | zero =>
   intro i hi h1
   have hz : s.data.toList.drop i = [] := List.drop_eq_nil_of_le (by rw [← size_toList]; omega)
   refine Tot.step (fun k => by rw [spec_l1Add.l0]) (Tot.neg (by omega) (Tot.pos (by omega) (Tot.pos (by omega) ?_)))
   simp only [Option.bind_some, hstr]
   refine Tot.pos ?_ (Tot.pos ?_ (Tot.ret ?_))
   ·rw [ByteArray.size_extract]; have : (ByteArray.mk #[c]).size = 1 := rfl; omega
   ·rw [ByteArray.size_append, ByteArray.size_extract, ByteArray.size_extract]; have : (ByteArray.mk #[c]).size = 1 := rfl; omega
   exact put i (by omega) h1 (by rw [hz]; simp)
  | succ d ih =>
   intro i hi h1
   have hb := bt_lt s i i (by omega) c
   have hg := bt_get s i (by omega)
   refine Tot.step (fun k => by rw [spec_l1Add.l0]) (Tot.pos (by omega) (Tot.pos (by omega) (Tot.ite (fun hlt => ?_) (fun hge => Tot.ite (fun heq => ?_) (fun hne => Tot.pos (by omega) ?_)))))
   ·rw [w64 (by omega) (by omega)]
    refine ih (i + 1) (by omega) fun x hx => ?_
    rw [List.take_succ_eq_append_getElem (by rw [← size_toList]; omega)] at hx
    rcases List.mem_append.1 hx with hx | hx
    ·exact h1 x hx
    rw [List.mem_singleton.1 hx]; exact hb.1 hlt
   ·refine Tot.ret ⟨ha, fun e => ⟨Or.inl, ?_⟩, by omega⟩
    rintro (h | rfl)
    ·exact h
    rw [hg] at heq
    have : s.data.toList[i]'(by rw [← size_toList]; omega) = e := UInt8.toNat_inj.1 (by omega)
    rw [← this]; exact List.getElem_mem _
   simp only [Option.bind_some, hstr]
   refine Tot.pos ?_ (Tot.pos ?_ (Tot.ret ?_))
   ·rw [ByteArray.size_extract]; have : (ByteArray.mk #[c]).size = 1 := rfl; omega
   ·rw [ByteArray.size_append, ByteArray.size_extract, ByteArray.size_extract]; have : (ByteArray.mk #[c]).size = 1 := rfl; omega
   refine put i (by omega) h1 fun x hx => ?_
   have h2 := sorted i (by omega) x hx
   rw [hg] at hge hne
   rw [UInt8.le_iff_toNat_le] at h2
   rw [UInt8.lt_iff_toNat_lt]
   omega
 exact key s.size 0 (by omega) (by simp)
theorem mem_ascB (q : UInt8 → Bool) (e : UInt8) : e ∈ (ascB q).data.toList ↔ q e = true := by
 unfold ascB
 simp only [List.mem_filter, List.mem_map, List.mem_range]
 constructor
 ·exact fun h => h.2
 exact fun h => ⟨⟨e.toNat, e.toNat_lt, UInt8.ofNat_toNat⟩, h⟩
theorem ascB_asc (q : UInt8 → Bool) : Asc (ascB q) := by
 unfold Asc ascB
 refine List.Pairwise.filter _ ?_
 rw [List.pairwise_map]
 refine (List.pairwise_lt_range (n := 256)).imp_of_mem fun {a b} ha hb h => ?_
 have ha := List.mem_range.1 ha
 have hb := List.mem_range.1 hb
 rw [UInt8.lt_iff_toNat_lt, UInt8.toNat_ofNat', UInt8.toNat_ofNat', Nat.mod_eq_of_lt ha, Nat.mod_eq_of_lt hb]
 exact h
theorem asc_ext {a b : ByteArray} (ha : Asc a) (hb : Asc b) (h : ∀ e, e ∈ a.data.toList ↔ e ∈ b.data.toList) : a = b := by
 apply bytes_ext
 have key := asc_eq (l := bytesI a) (m := bytesI b)
  (by unfold bytesI; rw [List.pairwise_map]; exact ha.imp fun h => by rw [UInt8.lt_iff_toNat_lt] at h; omega)
  (by unfold bytesI; rw [List.pairwise_map]; exact hb.imp fun h => by rw [UInt8.lt_iff_toNat_lt] at h; omega)
  (fun x => by
   constructor
   ·intro hx
    obtain ⟨c, hc, rfl⟩ := List.mem_map.1 hx
    exact (mem_bytesI b c).2 ((h c).1 hc)
   intro hx
   obtain ⟨c, hc, rfl⟩ := List.mem_map.1 hx
   exact (mem_bytesI a c).2 ((h c).2 hc))
 unfold bytesI at key
 refine List.map_inj_right (f := fun b : UInt8 => (b.toNat : Int)) (fun x y e => UInt8.toNat_inj.1 (Int.ofNat.inj e)) |>.1 key
theorem append_assoc_b (a b c : ByteArray) : (a ++ b) ++ c = a ++ (b ++ c) := ByteArray.append_assoc
theorem spec_l1Signs.tot (s : ByteArray) (l : List RuleS) (h : TinyG s l) (b : Bool) : Tot (fun k => spec_l1Signs.f k s l b) (fun r => r = setB (fun c => isBigB c == b) (everyB s l)) := by
 obtain ⟨h1, h2, h3⟩ := h
 have hbig := everyB_size s l 1000000 h1 h3
 -- the signs, one by one
 have walk : ∀ (t : ByteArray), t.size ≤ 10000000000 → ∀ (d i : Nat) (x : ByteArray), i + d = t.size → x.size ≤ i → Asc x → (∀ e, e ∈ x.data.toList ↔ e ∈ t.data.toList.take i ∧ (isBigB e == b) = true) →
   Tot (fun k => spec_l1Signs.l1 k b x t (i : Int)) (fun r => r = setB (fun c => isBigB c == b) t) := by
  intro t ht d
  induction d with
  | zero =>
   intro i x hi hx ha hm
   refine Tot.step (fun k => by rw [spec_l1Signs.l1]) (Tot.neg (by omega) (Tot.ret ?_))
   refine asc_ext ha (ascB_asc _) fun e => ?_
   rw [hm, List.take_of_length_le (by rw [← size_toList]; omega)]
   unfold setB
   rw [mem_ascB, Bool.and_eq_true, List.contains_iff_mem]
   exact And.comm
  | succ d ih =>
   intro i x hi hx ha hm
   have hil : i < t.data.toList.length := by rw [← size_toList]; omega
   have hg := bt_get t i (by omega)
   generalize hc : t.data.toList[i]'hil = c at hg
   have htake : t.data.toList.take (i + 1) = t.data.toList.take i ++ [c] := by rw [List.take_succ_eq_append_getElem hil, hc]
   refine Tot.step (fun k => by rw [spec_l1Signs.l1]) (Tot.pos (by omega) (Tot.pos (by omega) ?_))
   rw [hg, spec_l1Big.is, w64 (by omega) (by omega)]
   simp only [Option.bind_some]
   refine Tot.ite (fun hp => Tot.bind (spec_l1Add.tot x c (by omega) ha) fun y hy => ?_) (fun hp => ?_)
   ·refine ih (i + 1) y (by omega) (by omega) hy.1 fun e => ?_
    rw [hy.2.1, hm, htake, List.mem_append, List.mem_singleton]
    constructor
    ·rintro (⟨h, h'⟩ | rfl)
     ·exact ⟨Or.inl h, h'⟩
     exact ⟨Or.inr rfl, hp⟩
    rintro ⟨h | h, h'⟩
    ·exact Or.inl ⟨h, h'⟩
    exact Or.inr h
   refine ih (i + 1) x (by omega) (by omega) ha fun e => ?_
   rw [hm, htake, List.mem_append, List.mem_singleton]
   constructor
   ·rintro ⟨h, h'⟩
    exact ⟨Or.inl h, h'⟩
   rintro ⟨h | rfl, h'⟩
   ·exact ⟨h, h'⟩
   exact absurd h' hp
 have key : ∀ (d i : Nat) (t : ByteArray), i + d = l.length → t.size ≤ 1000000 + 2000000 * i → everyB t (l.drop i) = everyB s l →
   Tot (fun k => spec_l1Signs.l0 k b ⟨#[]⟩ t (i : Int) s l) (fun r => r = setB (fun c => isBigB c == b) (everyB s l)) := by
  intro d
  induction d with
  | zero =>
   intro i t hi ht he
   rw [List.drop_eq_nil_of_le (by omega)] at he
   have he : t = everyB s l := he
   refine Tot.step (fun k => by rw [spec_l1Signs.l0]) (Tot.neg (by omega) ?_)
   rw [← he]
   exact walk t (by omega) t.size 0 ⟨#[]⟩ (by omega) (Nat.le_refl _) List.Pairwise.nil (by intro e; simp)
  | succ d ih =>
   intro i t hi ht he
   have hx := h3 _ (mem_rd l i (by omega))
   have hd : l.drop i = rd_T46 l (i : Int) :: l.drop (i + 1) := by
    rw [List.drop_eq_getElem_cons (by omega)]
    simp [rd_T46, List.getD_eq_getElem?_getD, show i < l.length by omega]
   rw [hd] at he
   have he : everyB (t ++ ((rd_T46 l (i : Int)).f0 ++ (rd_T46 l (i : Int)).f1)) (l.drop (i + 1)) = everyB s l := he
   refine Tot.step (fun k => by rw [spec_l1Signs.l0]) (Tot.pos (by omega) (Tot.pos (by omega) (Tot.pos (by omega) (Tot.pos (by rw [ByteArray.size_append]; omega) ?_))))
   rw [w64 (by omega) (by omega), append_assoc_b]
   exact ih (i + 1) _ (by omega) (by rw [ByteArray.size_append, ByteArray.size_append]; omega) he
 exact key l.length 0 s (by omega) (by omega) rfl
def RdB (s : List Int) : Prop := s.length ≤ 2000 ∧ ∀ x ∈ s, 0 ≤ x ∧ x ≤ 255
theorem RdB.bd {s : List Int} (h : RdB s) (i : Int) : 0 ≤ rd s i ∧ rd s i ≤ 255 := by
 unfold rd
 rw [List.getD_eq_getElem?_getD]
 by_cases hi : i.toNat < s.length
 ·rw [List.getElem?_eq_getElem hi]; exact h.2 _ (List.getElem_mem hi)
 rw [List.getElem?_eq_none (by omega)]; simp
theorem xor_nonneg {a b : Int} (ha : 0 ≤ a) (ha2 : a < 4611686018427387904) (hb : 0 ≤ b) (hb2 : b < 4611686018427387904) : 0 ≤ Go.bits .xor .i64 a b := by
 obtain ⟨m, rfl⟩ := Int.eq_ofNat_of_zero_le ha
 obtain ⟨n, rfl⟩ := Int.eq_ofNat_of_zero_le hb
 have hx : m ^^^ n < 2 ^ 62 := Nat.xor_lt_two_pow (by omega) (by omega)
 have h1 : (BitVec.ofInt 64 (m : Int)).toNat = m := by
  rw [BitVec.ofInt_natCast, BitVec.toNat_ofNat]; exact Nat.mod_eq_of_lt (by omega)
 have h2 : (BitVec.ofInt 64 (n : Int)).toNat = n := by
  rw [BitVec.ofInt_natCast, BitVec.toNat_ofNat]; exact Nat.mod_eq_of_lt (by omega)
 show 0 ≤ IntKind.i64.wrap ((BitVec.ofInt 64 (m : Int) ^^^ BitVec.ofInt 64 (n : Int)).toNat : Int)
 rw [BitVec.toNat_xor, h1, h2, IntKind.wrap_i64]
 omega
theorem tmod_bd {a n : Int} (ha : 0 ≤ a) (hn : 0 < n) : 0 ≤ Int.tmod a n ∧ Int.tmod a n < n := by
 rw [Int.tmod_eq_emod_of_nonneg ha]
 exact ⟨Int.emod_nonneg _ (by omega), Int.emod_lt_of_pos _ hn⟩
theorem tdiv_bd {a n : Int} (ha : 0 ≤ a) (hn : 0 < n) : 0 ≤ Int.tdiv a n ∧ Int.tdiv a n ≤ a := by
 rw [Int.tdiv_eq_ediv_of_nonneg ha]
 exact ⟨Int.ediv_nonneg ha (by omega), Int.ediv_le_self _ ha⟩
theorem spec_l17Rd_pick.tot {s : List Int} (hs : RdB s) {p n : Int} (h0 : 0 ≤ p) (h1 : p < 1000000000) (hn : 1 ≤ n) : Tot (fun k => spec_l17Rd_pick.f k s p n) (fun r => 0 ≤ r.1 ∧ r.1 < n ∧ r.2 = p + 1) := by
 unfold spec_l17Rd_pick.f
 refine Tot.neg (by omega) ?_
 refine Tot.step (fun k => by rw [spec_l17Rd_pick.j0]) ?_
 have e1 : wrap64 (p + 1) = p + 1 := w64 (by omega) (by omega)
 have e2 : wrap64 (p + 1 - 1) = p := by rw [show p + 1 - 1 = p by omega]; exact w64 (by omega) (by omega)
 rw [e1, e2]
 refine Tot.ite (fun _ => Tot.ret ⟨by simp, by simp only; omega, rfl⟩) (fun hne => ?_)
 have hl : 0 < (s.length : Int) := by
  rcases s with _ | ⟨a, s⟩
  ·simp at hne
  simp
 have hr := fun i => hs.bd i
 refine Tot.ite (fun h => Tot.pos h0 (Tot.neg (by omega) (Tot.ret ?_))) (fun h => ?_)
 ·have := hr p
  rw [w64 (by omega) (by omega)]
  have := tmod_bd (a := rd s p) (n := n) (by omega) (by omega)
  exact ⟨this.1, this.2, rfl⟩
 have hL := hs.1
 have b1 := tmod_bd (a := p) (n := s.length) h0 hl
 rw [w64 (x := p * 7) (by omega) (by omega), w64 (x := p * 7 + 3) (by omega) (by omega), w64 (x := p * 29) (by omega) (by omega)]
 have b2 := tmod_bd (a := p * 7 + 3) (n := s.length) (by omega) hl
 have b3 := tdiv_bd (a := p) (n := s.length) h0 hl
 have r1 := hr (Int.tmod p s.length)
 have r2 := hr (Int.tmod (p * 7 + 3) s.length)
 generalize Int.tmod p s.length = i at b1 r1 ⊢
 generalize Int.tmod (p * 7 + 3) s.length = j at b2 r2 ⊢
 generalize Int.tdiv p s.length = q at b3 ⊢
 refine Tot.neg (by omega) (Tot.pos b1.1 (Tot.pos b1.2 (Tot.pos b2.1 (Tot.pos b2.2 (Tot.neg (by omega) (Tot.ret ?_))))))
 generalize rd s i = u at r1 ⊢
 generalize rd s j = v at r2 ⊢
 rw [w64 (x := u) (by omega) (by omega), w64 (x := v) (by omega) (by omega), w64 (x := q) (by omega) (by omega), w64 (x := u * 131) (by omega) (by omega), w64 (x := v * 1117) (by omega) (by omega), w64 (x := q * 53) (by omega) (by omega),
  w64 (x := u * 131 + v * 1117) (by omega) (by omega), w64 (x := u * 131 + v * 1117 + p * 29) (by omega) (by omega), w64 (x := u * 131 + v * 1117 + p * 29 + q * 53) (by omega) (by omega)]
 have hx : 0 ≤ u * 131 + v * 1117 + p * 29 + q * 53 := by omega
 have hx2 : u * 131 + v * 1117 + p * 29 + q * 53 < 1000000000000 := by omega
 generalize u * 131 + v * 1117 + p * 29 + q * 53 = x at hx hx2 ⊢
 have b4 := tdiv_bd (a := x) (n := 64) hx (by omega)
 rw [w64 (x := Int.tdiv x 64) (by omega) (by omega)]
 have := tmod_bd (n := n) (xor_nonneg (a := x) (b := Int.tdiv x 64) hx (by omega) b4.1 (by omega)) (by omega)
 exact ⟨this.1, this.2, rfl⟩
theorem spec_l17Rd_of.tot {s : List Int} (hs : RdB s) {p : Int} (h0 : 0 ≤ p) (h1 : p < 1000000000) (l : List ByteArray) (hl : 1 ≤ l.length) : Tot (fun k => spec_l17Rd_of.f k s p l) (fun r => r.1 ∈ l ∧ r.2 = p + 1) := by
 unfold spec_l17Rd_of.f
 refine Tot.bind (spec_l17Rd_pick.tot hs h0 h1 (by omega)) fun r hr => ?_
 refine Tot.pos hr.1 (Tot.pos hr.2.1 (Tot.ret ⟨?_, hr.2.2⟩))
 unfold rdOf
 rw [List.getD_eq_getElem?_getD, List.getElem?_eq_getElem (by omega)]
 exact List.getElem_mem _
theorem spec_l17Rd_num.tot {s : List Int} (hs : RdB s) {p : Int} (h0 : 0 ≤ p) (h1 : p < 1000000000) (l : List Int) (hl : 1 ≤ l.length) : Tot (fun k => spec_l17Rd_num.f k s p l) (fun r => r.1 ∈ l ∧ r.2 = p + 1) := by
 unfold spec_l17Rd_num.f
 refine Tot.bind (spec_l17Rd_pick.tot hs h0 h1 (by omega)) fun r hr => ?_
 refine Tot.pos hr.1 (Tot.pos hr.2.1 (Tot.ret ⟨?_, hr.2.2⟩))
 unfold rd
 rw [List.getD_eq_getElem?_getD, List.getElem?_eq_getElem (by omega)]
 exact List.getElem_mem _
theorem spec_l1Signed.tot {s : List Int} (hs : RdB s) {p n : Int} (h0 : 0 ≤ p) (h1 : p < 100000000) (hn0 : 0 ≤ n) (hn : n ≤ 1000) :
  Tot (fun k => spec_l1Signed.f k s p n) (fun r => (r.1.size : Int) = n ∧ r.1.data.toList.all isSignB = true ∧ r.2 = p + n) := by
 have key : ∀ (d : Nat) (i q : Int) (t : ByteArray), i + d = n → 0 ≤ i → q = p + i → (t.size : Int) = i → t.data.toList.all isSignB = true →
   Tot (fun k => spec_l1Signed.l0 k n t i s q) (fun r => (r.1.size : Int) = n ∧ r.1.data.toList.all isSignB = true ∧ r.2 = p + n) := by
  intro d
  induction d with
  | zero =>
   intro i q t hi hi0 hq ht ha
   exact Tot.step (fun k => rfl) (Tot.neg (by omega) (Tot.ret ⟨by simp only; omega, ha, by simp only; omega⟩))
  | succ d ih =>
   intro i q t hi hi0 hq ht ha
   refine Tot.step (fun k => rfl) (Tot.pos (by omega) (Tot.bind (spec_l17Rd_of.tot hs (by omega) (by omega) _ (by decide)) fun r hr => ?_))
   have hz : r.1.size = 1 ∧ r.1.data.toList.all isSignB = true := by
    have := hr.1
    simp only [List.mem_cons, List.not_mem_nil, or_false] at this
    rcases this with h | h | h | h | h | h | h | h | h <;> rw [h] <;> decide
   refine Tot.pos (by omega) ?_
   rw [w64 (by omega) (by omega), hr.2]
   refine ih (i + 1) (q + 1) (t ++ r.1) (by omega) (by omega) (by omega) (by rw [ByteArray.size_append]; omega) ?_
   rw [ByteArray.data_append, Array.toList_append, List.all_append, ha, hz.2]; rfl
 exact key n.toNat 0 p ⟨#[]⟩ (by omega) (by omega) (by omega) rfl rfl
def Fine (x : RuleS) : Prop := oneBig x.f0 = true ∧ (x.f1.size : Int) ≤ 4 ∧ x.f1.data.toList.all isSignB = true
instance instFineDec : DecidablePred Fine := fun x => by unfold Fine; infer_instance
def FineG (g : ByteArray × List RuleS) : Prop := g.1 = ⟨#[65]⟩ ∧ g.2.length ≤ 8 ∧ (∀ x ∈ g.2, Fine x) ∧ g.2.Nodup
theorem spec_l1Base.tot (n : Int) : ∃ g, spec_l1Base.f n = some g ∧ FineG g := by
 unfold spec_l1Base.f
 repeat' split
 all_goals exact ⟨_, rfl, rfl, by decide, by decide, by decide⟩
theorem spec_l1Gram.tot {s : List Int} (hs : RdB s) {p : Int} (h0 : 0 ≤ p) (h1 : p < 10000000) :
  Tot (fun k => spec_l1Gram.f k s p) (fun r => FineG (r.1, r.2.1) ∧ p ≤ r.2.2 ∧ r.2.2 ≤ p + 100) := by
 have key : ∀ (d : Nat) (i q : Int) (l : List RuleS), i = d → d ≤ 5 → 0 ≤ q → q + 10 * d < 10001000 → l.length + d ≤ 5 → (∀ x ∈ l, Fine x) → l.Nodup →
   Tot (fun k => spec_l1Gram.l0 k i s q ⟨#[65]⟩ l) (fun r => FineG (r.1, r.2.1) ∧ q ≤ r.2.2 ∧ r.2.2 ≤ q + 10 * d) := by
  intro d
  induction d with
  | zero =>
   intro i q l hi hd hq0 hq hl hf hn
   exact Tot.step (fun k => rfl) (Tot.neg (by omega) (Tot.ret ⟨⟨rfl, by simp only; omega, hf, hn⟩, by simp only; omega, by simp only; omega⟩))
  | succ d ih =>
   intro i q l hi hd hq0 hq hl hf hn
   refine Tot.step (fun k => rfl) (Tot.pos (by omega) (Tot.bind (spec_l17Rd_of.tot hs (by omega) (by omega) _ (by decide)) fun a ha => ?_))
   refine Tot.bind (spec_l17Rd_num.tot hs (by omega) (by omega) _ (by decide)) fun b hb => ?_
   have hb2 : 0 ≤ b.1 ∧ b.1 ≤ 3 := by
    have := hb.1
    simp only [List.mem_cons, List.not_mem_nil, or_false] at this
    omega
   refine Tot.bind (spec_l1Signed.tot hs (by omega) (by omega) (by omega) (by omega)) fun c hc => ?_
   refine Tot.bind (spec_l1Place.tot l _ _ (by omega)) fun t ht => ?_
   have hx : Fine ⟨a.1, c.1⟩ := by
    refine ⟨?_, by simp only; omega, hc.2.1⟩
    have := ha.1
    simp only [List.mem_cons, List.not_mem_nil, or_false] at this
    simp only
    rcases this with h | h | h | h <;> rw [h] <;> decide
   rw [w64 (by omega) (by omega)]
   refine Tot.ite (fun h => Tot.pos (by omega) ?_) (fun h => ?_)
   ·refine (ih (i - 1) c.2 _ (by omega) (by omega) (by omega) (by omega) (by simp; omega) ?_ ?_).mono fun r hr => ⟨hr.1, by omega, by omega⟩
    ·intro x hm
     rcases List.mem_append.1 hm with hm | hm
     ·exact hf x hm
     rw [List.mem_singleton.1 hm]; exact hx
    have hni : (⟨a.1, c.1⟩ : RuleS) ∉ l := fun hm => by have := ht.1.2 hm; omega
    rw [List.nodup_append]
    exact ⟨hn, by simp, fun x hx y hy => by rw [List.mem_singleton.1 hy]; rintro rfl; exact hni hx⟩
   exact (ih (i - 1) c.2 l (by omega) (by omega) (by omega) (by omega) (by omega) hf hn).mono fun r hr => ⟨hr.1, by omega, by omega⟩
 unfold spec_l1Gram.f
 refine Tot.bind (spec_l17Rd_pick.tot hs h0 (by omega) (by omega)) fun a ha => ?_
 refine Tot.ite (fun h => ?_) (fun h => ?_)
 ·refine Tot.bind (spec_l17Rd_num.tot hs (by omega) (by omega) _ (by decide)) fun b hb => ?_
  obtain ⟨g, hg, hfine⟩ := spec_l1Base.tot b.1
  rw [hg]
  exact Tot.ret ⟨hfine, by simp only; omega, by simp only; omega⟩
 refine Tot.bind (spec_l17Rd_num.tot hs (by omega) (by omega) _ (by decide)) fun b hb => ?_
 have hb2 : 0 ≤ b.1 ∧ b.1 ≤ 5 := by
  have := hb.1
  simp only [List.mem_cons, List.not_mem_nil, or_false] at this
  omega
 refine (key b.1.toNat b.1 b.2 [] (by omega) (by omega) (by omega) (by omega) (by simp; omega) (by simp) (by simp)).mono fun r hr => ⟨hr.1, by omega, by omega⟩
def Meek (l : List RuleS) : Prop := l.length ≤ 9 ∧ ∀ x ∈ l, x.f0.size ≤ 5 ∧ x.f1.size ≤ 5
theorem FineG.meek {g : ByteArray × List RuleS} (h : FineG g) : Meek g.2 := by
 refine ⟨by have := h.2.1; omega, fun x hx => ?_⟩
 have hf := h.2.2.1 x hx
 refine ⟨?_, by have := hf.2.1; omega⟩
 rcases one_cases x.f0 with ⟨e, _⟩ | ⟨_, e⟩
 ·omega
 have := hf.1
 unfold oneBig at this
 split at this
 ·exact absurd ‹_› (e _)
 cases this
theorem Meek.small {l : List RuleS} (h : Meek l) : SmallG l := ⟨by have := h.1; omega, fun x hx => by have := h.2 x hx; omega⟩
theorem spec_l1Bent.tot {s : List Int} (hs : RdB s) {p : Int} (h0 : 0 ≤ p) (h1 : p < 10000000) (a : ByteArray) (ha : a.size ≤ 5) (l : List RuleS) (hl : Meek l) (hl8 : l.length ≤ 8) :
  Tot (fun k => spec_l1Bent.f k s p a l) (fun r => r.1.size ≤ 5 ∧ Meek r.2.1 ∧ p ≤ r.2.2 ∧ r.2.2 ≤ p + 100) := by
 have key : ∀ (d : Nat) (q : Int) (l : List RuleS), l.length + d = 9 → 0 ≤ q → q + 10 * d < 10001000 → Meek l →
   Tot (fun k => spec_l1Bent.l0 k s q a l) (fun r => r.1.size ≤ 5 ∧ Meek r.2.1 ∧ q ≤ r.2.2 ∧ r.2.2 ≤ q + 10 * d) := by
  intro d
  induction d with
  | zero =>
   intro q l hd hq0 hq hm
   exact Tot.step (fun k => rfl) (Tot.neg (by omega) (Tot.ret ⟨ha, hm, by simp only; omega, by simp only; omega⟩))
  | succ d ih =>
   intro q l hd hq0 hq hm
   refine Tot.step (fun k => rfl) (Tot.pos (by omega) (Tot.bind (spec_l1Signed.tot hs (by omega) (by omega) (by omega) (by omega)) fun c hc => Tot.pos (by omega) ?_))
   refine (ih c.2 _ (by simp; omega) (by omega) (by omega) ⟨by simp; omega, fun x hx => ?_⟩).mono fun r hr => ⟨hr.1, hr.2.1, by omega, by omega⟩
   rcases List.mem_append.1 hx with hx | hx
   ·exact hm.2 x hx
   rw [List.mem_singleton.1 hx]; simp only; exact ⟨by decide, by omega⟩
 unfold spec_l1Bent.f
 simp only [Option.bind_some, List.nil_append, List.length_nil, Nat.zero_add]
 have hlen := hl.1
 refine Tot.pos (by omega) (Tot.bind (spec_l17Rd_pick.tot hs h0 (by omega) (by omega)) fun b hb => ?_)
 have body : Tot (fun k => spec_l1Bent.j0 k (l.length : Int) ((l.length : Int) == 0) s b.2 a l) (fun r => r.1.size ≤ 5 ∧ Meek r.2.1 ∧ p ≤ r.2.2 ∧ r.2.2 ≤ p + 100) := by
  refine Tot.step (fun k => rfl) (Tot.ite (fun h => Tot.ret ⟨ha, hl, by simp only; omega, by simp only; omega⟩) (fun h => ?_))
  have hpos : 1 ≤ (l.length : Int) := by
   have : ¬ (l.length : Int) = 0 := by simpa using h
   omega
  refine Tot.bind (spec_l17Rd_pick.tot hs (by omega) (by omega) hpos) fun c hc => ?_
  refine Tot.bind (spec_l17Rd_pick.tot hs (by omega) (by omega) (by omega)) fun d hd => ?_
  have hmem : rd_T46 l c.1 ∈ l := by
   have := mem_rd l c.1.toNat (by omega)
   rwa [show ((c.1.toNat : Nat) : Int) = c.1 by omega] at this
  have hsz := hl.2 _ hmem
  refine Tot.ite (fun _ => ?_) (fun _ => Tot.ite (fun _ => ?_) (fun _ => Tot.ite (fun _ => ?_) (fun _ => Tot.ite (fun _ => ?_) (fun _ => ?_))))
  ·refine Tot.bind (spec_l17Rd_of.tot hs (by omega) (by omega) _ (by decide)) fun e he => Tot.ret ⟨?_, hl, by simp only; omega, by simp only; omega⟩
   have := he.1
   simp only [List.mem_cons, List.not_mem_nil, or_false] at this
   simp only
   rcases this with h | h | h | h | h <;> rw [h] <;> decide
  ·refine Tot.bind (spec_l17Rd_of.tot hs (by omega) (by omega) _ (by decide)) fun e he => Tot.pos hc.1 (Tot.pos hc.2.1 (Tot.ret ⟨ha, ⟨by simpa using hl.1, fun x hx => ?_⟩, by simp only; omega, by simp only; omega⟩))
   rcases List.mem_or_eq_of_mem_set hx with hx | hx
   ·exact hl.2 x hx
   have := he.1
   simp only [List.mem_cons, List.not_mem_nil, or_false] at this
   rw [hx]
   refine ⟨?_, hsz.2⟩
   simp only
   rcases this with h | h | h | h <;> rw [h] <;> decide
  ·refine Tot.bind (spec_l17Rd_of.tot hs (by omega) (by omega) _ (by decide)) fun e he => Tot.pos hc.1 (Tot.pos hc.2.1 (Tot.ret ⟨ha, ⟨by simpa using hl.1, fun x hx => ?_⟩, by simp only; omega, by simp only; omega⟩))
   rcases List.mem_or_eq_of_mem_set hx with hx | hx
   ·exact hl.2 x hx
   have := he.1
   simp only [List.mem_cons, List.not_mem_nil, or_false] at this
   rw [hx]
   refine ⟨hsz.1, ?_⟩
   simp only
   rcases this with h | h | h | h | h <;> rw [h] <;> decide
  ·refine Tot.pos hc.1 (Tot.pos hc.2.1 (Tot.pos (by omega) (Tot.ret ⟨ha, ⟨by simp; omega, fun x hx => ?_⟩, by simp only; omega, by simp only; omega⟩)))
   rcases List.mem_append.1 hx with hx | hx
   ·exact hl.2 x hx
   rw [List.mem_singleton.1 hx]; exact hsz
  refine (key (9 - l.length) d.2 l (by omega) (by omega) (by omega) hl).mono fun r hr => ⟨hr.1, hr.2.1, by omega, by omega⟩
 refine Tot.ite (fun h => Tot.step (h := fun _ => some (a, l, b.2)) (fun k => rfl) (Tot.ret ⟨ha, hl, by simp only; omega, by simp only; omega⟩)) (fun h => body)
theorem spec_l17Open.tot (l : List Int) (h : ∀ x ∈ l, (Lit.int .u8 x).wf = true) : ∃ s, spec_l17Open.f l = some (s, 0) ∧ RdB s := by
 have hb : ∀ x ∈ l, 0 ≤ x ∧ x ≤ 255 := fun x hx => by
  have := h x hx
  simp [Lit.wf, IntKind.min, IntKind.max, IntKind.signed, IntKind.bits] at this
  omega
 unfold spec_l17Open.f
 by_cases hl : (l.length : Int) > 2000
 ·rw [if_pos hl, if_pos (by omega)]
  exact ⟨_, rfl, by simp; omega, fun x hx => hb x (List.mem_of_mem_take hx)⟩
 rw [if_neg hl]
 exact ⟨_, rfl, by omega, hb⟩
end Go.Proofs.YtiibnkibckklgaaDoor.P
namespace Go.Proofs.YtiibnkibckklgaaDoor.P
open Go.RowKit Go.Proofs.YtiibnkibckklgaaDoorW.PrintWords Go.Proofs.YtiibnkibckklgaaDoorW.PrintLast Go.Proofs.YtiibnkibckklgaaDoorW.PrintMore
attribute [local go_sem] max2_int min2_int max_two min_two max_three min_three max_four min_four
set_option linter.unusedVariables false
set_option linter.unusedSimpArgs false
/-! ### spec_GramBigs: function 25 -/
def spec_GramBigs.f (k : Nat) (a0_0 : ByteArray) (l0_1 : List (S46)) : Option (ByteArray) := (spec_GramOk.f k a0_0 l0_1).bind fun t102 => (if t102 = true then ((spec_l1Signs.f k a0_0 l0_1 true).bind fun t103 => (some t103)) else (some (⟨#[]⟩ : ByteArray)))
theorem spec_GramBigs.mono : ∀ a0 a1 k, LeO (spec_GramBigs.f k a0 a1) (spec_GramBigs.f (k + 1) a0 a1) := by
 intro a0 a1 k
 unfold spec_GramBigs.f
 repeat' first
   | (with_reducible exact spec_GramOk.mono _ _ _)
   | (with_reducible exact spec_l1Signs.mono _ _ _ _)
   | (with_reducible exact LeO.refl _)
   | (with_reducible exact LeO.none _)
   | (with_reducible refine LeO.ite ?_ ?_)
   | (with_reducible refine LeO.bind ?_ (fun _ => ?_))
   | exact spec_GramOk.mono _ _ _
   | exact spec_l1Signs.mono _ _ _ _
   | exact LeO.none _
   | refine LeO.ite ?_ ?_
   | refine LeO.bind ?_ (fun _ => ?_)
set_option maxHeartbeats 8000000 in
set_option maxRecDepth 100000 in
theorem spec_GramBigs.calls (k : Nat) (a0_0 : ByteArray) (A0_1 : Option Addr) (c0_1 : Nat) (l0_1 : List (S46)) (r : ByteArray) (w : World) (hr0_1 : Kd.C k46 w A0_1 l0_1.length l0_1) (hc0_1 : l0_1.length ≤ c0_1) (h : spec_GramBigs.f k a0_0 l0_1 = some r) :
  Calls Tryd.prog 25 #[.agg #[.string a0_0, .slice A0_1 l0_1.length c0_1]] w fun e w' => e = .returned (.string r) ∧ Below w.heap.size w w' := by
 have hu25 := Tryd.underlying25
 have HR0_1 := Aside0.mk hr0_1
 have HC0_1 := Aside0.mk hc0_1
 clear hr0_1 hc0_1
 have HB := Aside0.mk (Below.refl w.heap.size w)
 have H : ((spec_GramOk.f k a0_0 l0_1).bind fun t102 => (if t102 = true then ((spec_l1Signs.f k a0_0 l0_1 true).bind fun t103 => (some t103)) else (some (⟨#[]⟩ : ByteArray)))) = some r := h
 clear h
 replace H := Option.bind_eq_some_iff.mp H
 obtain ⟨t102, A20, H⟩ := H
 replace H : (if t102 = true then ((spec_l1Signs.f k a0_0 l0_1 true).bind fun t103 => (some t103)) else (some (⟨#[]⟩ : ByteArray))) = some r := H
 have A2 := Aside0.mk A20
 clear A20
 by_cases c3 : t102 = true
 ·subst c3
  have H1 : ((spec_l1Signs.f k a0_0 l0_1 true).bind fun t103 => (some t103)) = some r := by rw [if_pos rfl] at H; exact H
  clear H
  have H := H1
  clear H1
  replace H := Option.bind_eq_some_iff.mp H
  obtain ⟨t103, A40, H⟩ := H
  replace H : (some t103) = some r := H
  have A4 := Aside0.mk A40
  clear A40
  obtain rfl := Option.some.inj H
  go_enter Tryd.func25, Tryd.ntmps25
  go_wp2_with (first | ((with_reducible refine gate_dst (N := 1) rfl ?_); refine box_event ?hg (N := 1) ?hd (cs := #[.string a0_0, .slice A0_1 l0_1.length c0_1]) (t := 25) ?hr ?_; (case hd => rfl); (case hg => rfl); (case hr => first | (go_simp; done) | (go_simp; rfl)); intro gb101 hg w5 hbox hb; refine rn4 (below_step (by repeat (first | (with_reducible first | exact HB.out | apply below_alloc | apply pw_below_drewN | apply below_drew1) | exact HB.out)) hb) (hbox) ((by rw [hg]; exact (below_size (by repeat (first | (with_reducible first | exact HB.out | apply below_alloc | apply pw_below_drewN | apply below_drew1) | exact HB.out))) : w.heap.size ≤ gb101)) ((by rw [hg]; exact (below_size (by repeat (first | (with_reducible first | exact HB.out | apply below_alloc | apply pw_below_drewN | apply below_drew1) | exact HB.out))) : w.heap.size ≤ gb101)) ?_; clear HB; intro HB BK101 GW101 GE101; clear hb hbox hg; have hcz6_0 : w5.cell? ⟨gb101, 0, none⟩ = some (.string a0_0) := (blk_cell BK101.out 0).trans rfl; have hcz6_1 : w5.cell? ⟨gb101, 1, none⟩ = some (.slice A0_1 l0_1.length c0_1) := (blk_cell BK101.out 1).trans rfl; have hfz6_0 := blk_frozen BK101.out 0; have hfz6_1 := blk_frozen BK101.out 1) | ((with_reducible refine gate_callee (f := 27) rfl ?_); refine goesL_ (some 4) rfl rfl Tryd.func27 (by kernel_rfl) rfl #[.agg #[.string a0_0, .slice A0_1 l0_1.length c0_1]] rfl (by (try simp only [List.map_toArray, List.map_cons, List.map_nil]); first | done | rfl | (simp only [List.length_drop, List.length_take]; rfl)) ?_; (with_reducible refine (spec_GramOk.calls k a0_0 _ _ l0_1 true _ ?side1 ?side2 A2.out).mono ?_); (case side1 => repeat (first | exact (Kd.C_below HR0_1.out HB.out) | (with_reducible refine Kd.C_alloc ?_ _) | (with_reducible refine Kd.C_drewN ?_ _) | (with_reducible refine Kd.C_drew ?_))); (case side2 => exact HC0_1.out); rintro e w7 ⟨rfl, hb⟩; refine ⟨_, rfl, ?_⟩; refine rn2 (blk_below (g := gb101) (o := .cells #[.string a0_0, .slice A0_1 l0_1.length c0_1] 25 (0, 0)) (by (with_reducible repeat (first | refine blk_drewN ?_ _ | refine blk_drew ?_ | refine blk_alloc ?_ _)); exact BK101.out) hb) (below_step (by repeat (first | (with_reducible first | exact HB.out | apply below_alloc | apply pw_below_drewN | apply below_drew1 | refine below_set ?_ GE101.out) | exact HB.out)) hb) ?_; clear BK101 HB; intro BK101 HB; (try clear hb); (try clear hb2); (try clear hk); (try clear hi); have hcz8_0 : w7.cell? ⟨gb101, 0, none⟩ = some (.string a0_0) := (blk_cell BK101.out 0).trans rfl; have hcz8_1 : w7.cell? ⟨gb101, 1, none⟩ = some (.slice A0_1 l0_1.length c0_1) := (blk_cell BK101.out 1).trans rfl; have hfz8_0 := blk_frozen BK101.out 0; have hfz8_1 := blk_frozen BK101.out 1) | ((with_reducible refine gate_callee (f := 73) rfl ?_); refine goesL_ (some 7) rfl rfl Tryd.func73 (by kernel_rfl) rfl #[.agg #[.string a0_0, .slice A0_1 l0_1.length c0_1], .bool true] rfl (by (try simp only [List.map_toArray, List.map_cons, List.map_nil]); first | done | rfl | (simp only [List.length_drop, List.length_take]; rfl)) ?_; (with_reducible refine (spec_l1Signs.calls k a0_0 _ _ l0_1 true t103 _ ?side1 ?side2 A4.out).mono ?_); (case side1 => repeat (first | exact (Kd.C_below HR0_1.out HB.out) | (with_reducible refine Kd.C_alloc ?_ _) | (with_reducible refine Kd.C_drewN ?_ _) | (with_reducible refine Kd.C_drew ?_))); (case side2 => exact HC0_1.out); rintro e w9 ⟨rfl, hb⟩; refine ⟨_, rfl, ?_⟩; refine rn2 (blk_below (g := gb101) (o := .cells #[.string a0_0, .slice A0_1 l0_1.length c0_1] 25 (0, 0)) (by (with_reducible repeat (first | refine blk_drewN ?_ _ | refine blk_drew ?_ | refine blk_alloc ?_ _)); exact BK101.out) hb) (below_step (by repeat (first | (with_reducible first | exact HB.out | apply below_alloc | apply pw_below_drewN | apply below_drew1 | refine below_set ?_ GE101.out) | exact HB.out)) hb) ?_; clear BK101 HB; intro BK101 HB; (try clear hb); (try clear hb2); (try clear hk); (try clear hi)))
  go_ret
  exact ⟨by first | rfl | (simp [errW_none, errW_some] <;> rfl) | (simp [*, errW_none, errW_some] <;> rfl), by repeat (first | (with_reducible first | exact HB.out | apply below_alloc | apply pw_below_drewN | apply below_drew1 | refine below_set ?_ GE101.out) | exact HB.out)⟩
 replace c3 := Bool.eq_false_iff.mpr c3
 subst c3
 have H1 : (some (⟨#[]⟩ : ByteArray)) = some r := by rw [if_neg (show ¬ (false = true) by decide)] at H; exact H
 clear H
 have H := H1
 clear H1
 obtain rfl := Option.some.inj H
 go_enter Tryd.func25, Tryd.ntmps25
 go_wp2_with (first | ((with_reducible refine gate_dst (N := 1) rfl ?_); refine box_event ?hg (N := 1) ?hd (cs := #[.string a0_0, .slice A0_1 l0_1.length c0_1]) (t := 25) ?hr ?_; (case hd => rfl); (case hg => rfl); (case hr => first | (go_simp; done) | (go_simp; rfl)); intro gb101 hg w10 hbox hb; refine rn4 (below_step (by repeat (first | (with_reducible first | exact HB.out | apply below_alloc | apply pw_below_drewN | apply below_drew1) | exact HB.out)) hb) (hbox) ((by rw [hg]; exact (below_size (by repeat (first | (with_reducible first | exact HB.out | apply below_alloc | apply pw_below_drewN | apply below_drew1) | exact HB.out))) : w.heap.size ≤ gb101)) ((by rw [hg]; exact (below_size (by repeat (first | (with_reducible first | exact HB.out | apply below_alloc | apply pw_below_drewN | apply below_drew1) | exact HB.out))) : w.heap.size ≤ gb101)) ?_; clear HB; intro HB BK101 GW101 GE101; clear hb hbox hg; have hcz11_0 : w10.cell? ⟨gb101, 0, none⟩ = some (.string a0_0) := (blk_cell BK101.out 0).trans rfl; have hcz11_1 : w10.cell? ⟨gb101, 1, none⟩ = some (.slice A0_1 l0_1.length c0_1) := (blk_cell BK101.out 1).trans rfl; have hfz11_0 := blk_frozen BK101.out 0; have hfz11_1 := blk_frozen BK101.out 1) | ((with_reducible refine gate_callee (f := 27) rfl ?_); refine goesL_ (some 4) rfl rfl Tryd.func27 (by kernel_rfl) rfl #[.agg #[.string a0_0, .slice A0_1 l0_1.length c0_1]] rfl (by (try simp only [List.map_toArray, List.map_cons, List.map_nil]); first | done | rfl | (simp only [List.length_drop, List.length_take]; rfl)) ?_; (with_reducible refine (spec_GramOk.calls k a0_0 _ _ l0_1 false _ ?side1 ?side2 A2.out).mono ?_); (case side1 => repeat (first | exact (Kd.C_below HR0_1.out HB.out) | (with_reducible refine Kd.C_alloc ?_ _) | (with_reducible refine Kd.C_drewN ?_ _) | (with_reducible refine Kd.C_drew ?_))); (case side2 => exact HC0_1.out); rintro e w12 ⟨rfl, hb⟩; refine ⟨_, rfl, ?_⟩; refine rn2 (blk_below (g := gb101) (o := .cells #[.string a0_0, .slice A0_1 l0_1.length c0_1] 25 (0, 0)) (by (with_reducible repeat (first | refine blk_drewN ?_ _ | refine blk_drew ?_ | refine blk_alloc ?_ _)); exact BK101.out) hb) (below_step (by repeat (first | (with_reducible first | exact HB.out | apply below_alloc | apply pw_below_drewN | apply below_drew1 | refine below_set ?_ GE101.out) | exact HB.out)) hb) ?_; clear BK101 HB; intro BK101 HB; (try clear hb); (try clear hb2); (try clear hk); (try clear hi)))
 go_ret
 exact ⟨by first | rfl | (simp [errW_none, errW_some] <;> rfl) | (simp [*, errW_none, errW_some] <;> rfl), by repeat (first | (with_reducible first | exact HB.out | apply below_alloc | apply pw_below_drewN | apply below_drew1 | refine below_set ?_ GE101.out) | exact HB.out)⟩
/-! ### spec_GramSmalls: function 26 -/
def spec_GramSmalls.f (k : Nat) (a0_0 : ByteArray) (l0_1 : List (S46)) : Option (ByteArray) := (spec_GramOk.f k a0_0 l0_1).bind fun t102 => (if t102 = true then ((spec_l1Signs.f k a0_0 l0_1 false).bind fun t103 => (some t103)) else (some (⟨#[]⟩ : ByteArray)))
theorem spec_GramSmalls.mono : ∀ a0 a1 k, LeO (spec_GramSmalls.f k a0 a1) (spec_GramSmalls.f (k + 1) a0 a1) := by
 intro a0 a1 k
 unfold spec_GramSmalls.f
 repeat' first
   | (with_reducible exact spec_GramOk.mono _ _ _)
   | (with_reducible exact spec_l1Signs.mono _ _ _ _)
   | (with_reducible exact LeO.refl _)
   | (with_reducible exact LeO.none _)
   | (with_reducible refine LeO.ite ?_ ?_)
   | (with_reducible refine LeO.bind ?_ (fun _ => ?_))
   | exact spec_GramOk.mono _ _ _
   | exact spec_l1Signs.mono _ _ _ _
   | exact LeO.none _
   | refine LeO.ite ?_ ?_
   | refine LeO.bind ?_ (fun _ => ?_)
set_option maxHeartbeats 8000000 in
set_option maxRecDepth 100000 in
theorem spec_GramSmalls.calls (k : Nat) (a0_0 : ByteArray) (A0_1 : Option Addr) (c0_1 : Nat) (l0_1 : List (S46)) (r : ByteArray) (w : World) (hr0_1 : Kd.C k46 w A0_1 l0_1.length l0_1) (hc0_1 : l0_1.length ≤ c0_1) (h : spec_GramSmalls.f k a0_0 l0_1 = some r) :
  Calls Tryd.prog 26 #[.agg #[.string a0_0, .slice A0_1 l0_1.length c0_1]] w fun e w' => e = .returned (.string r) ∧ Below w.heap.size w w' := by
 have hu25 := Tryd.underlying25
 have HR0_1 := Aside0.mk hr0_1
 have HC0_1 := Aside0.mk hc0_1
 clear hr0_1 hc0_1
 have HB := Aside0.mk (Below.refl w.heap.size w)
 have H : ((spec_GramOk.f k a0_0 l0_1).bind fun t102 => (if t102 = true then ((spec_l1Signs.f k a0_0 l0_1 false).bind fun t103 => (some t103)) else (some (⟨#[]⟩ : ByteArray)))) = some r := h
 clear h
 replace H := Option.bind_eq_some_iff.mp H
 obtain ⟨t102, A20, H⟩ := H
 replace H : (if t102 = true then ((spec_l1Signs.f k a0_0 l0_1 false).bind fun t103 => (some t103)) else (some (⟨#[]⟩ : ByteArray))) = some r := H
 have A2 := Aside0.mk A20
 clear A20
 by_cases c3 : t102 = true
 ·subst c3
  have H1 : ((spec_l1Signs.f k a0_0 l0_1 false).bind fun t103 => (some t103)) = some r := by rw [if_pos rfl] at H; exact H
  clear H
  have H := H1
  clear H1
  replace H := Option.bind_eq_some_iff.mp H
  obtain ⟨t103, A40, H⟩ := H
  replace H : (some t103) = some r := H
  have A4 := Aside0.mk A40
  clear A40
  obtain rfl := Option.some.inj H
  go_enter Tryd.func26, Tryd.ntmps26
  go_wp2_with (first | ((with_reducible refine gate_dst (N := 1) rfl ?_); refine box_event ?hg (N := 1) ?hd (cs := #[.string a0_0, .slice A0_1 l0_1.length c0_1]) (t := 25) ?hr ?_; (case hd => rfl); (case hg => rfl); (case hr => first | (go_simp; done) | (go_simp; rfl)); intro gb101 hg w5 hbox hb; refine rn4 (below_step (by repeat (first | (with_reducible first | exact HB.out | apply below_alloc | apply pw_below_drewN | apply below_drew1) | exact HB.out)) hb) (hbox) ((by rw [hg]; exact (below_size (by repeat (first | (with_reducible first | exact HB.out | apply below_alloc | apply pw_below_drewN | apply below_drew1) | exact HB.out))) : w.heap.size ≤ gb101)) ((by rw [hg]; exact (below_size (by repeat (first | (with_reducible first | exact HB.out | apply below_alloc | apply pw_below_drewN | apply below_drew1) | exact HB.out))) : w.heap.size ≤ gb101)) ?_; clear HB; intro HB BK101 GW101 GE101; clear hb hbox hg; have hcz6_0 : w5.cell? ⟨gb101, 0, none⟩ = some (.string a0_0) := (blk_cell BK101.out 0).trans rfl; have hcz6_1 : w5.cell? ⟨gb101, 1, none⟩ = some (.slice A0_1 l0_1.length c0_1) := (blk_cell BK101.out 1).trans rfl; have hfz6_0 := blk_frozen BK101.out 0; have hfz6_1 := blk_frozen BK101.out 1) | ((with_reducible refine gate_callee (f := 27) rfl ?_); refine goesL_ (some 4) rfl rfl Tryd.func27 (by kernel_rfl) rfl #[.agg #[.string a0_0, .slice A0_1 l0_1.length c0_1]] rfl (by (try simp only [List.map_toArray, List.map_cons, List.map_nil]); first | done | rfl | (simp only [List.length_drop, List.length_take]; rfl)) ?_; (with_reducible refine (spec_GramOk.calls k a0_0 _ _ l0_1 true _ ?side1 ?side2 A2.out).mono ?_); (case side1 => repeat (first | exact (Kd.C_below HR0_1.out HB.out) | (with_reducible refine Kd.C_alloc ?_ _) | (with_reducible refine Kd.C_drewN ?_ _) | (with_reducible refine Kd.C_drew ?_))); (case side2 => exact HC0_1.out); rintro e w7 ⟨rfl, hb⟩; refine ⟨_, rfl, ?_⟩; refine rn2 (blk_below (g := gb101) (o := .cells #[.string a0_0, .slice A0_1 l0_1.length c0_1] 25 (0, 0)) (by (with_reducible repeat (first | refine blk_drewN ?_ _ | refine blk_drew ?_ | refine blk_alloc ?_ _)); exact BK101.out) hb) (below_step (by repeat (first | (with_reducible first | exact HB.out | apply below_alloc | apply pw_below_drewN | apply below_drew1 | refine below_set ?_ GE101.out) | exact HB.out)) hb) ?_; clear BK101 HB; intro BK101 HB; (try clear hb); (try clear hb2); (try clear hk); (try clear hi); have hcz8_0 : w7.cell? ⟨gb101, 0, none⟩ = some (.string a0_0) := (blk_cell BK101.out 0).trans rfl; have hcz8_1 : w7.cell? ⟨gb101, 1, none⟩ = some (.slice A0_1 l0_1.length c0_1) := (blk_cell BK101.out 1).trans rfl; have hfz8_0 := blk_frozen BK101.out 0; have hfz8_1 := blk_frozen BK101.out 1) | ((with_reducible refine gate_callee (f := 73) rfl ?_); refine goesL_ (some 7) rfl rfl Tryd.func73 (by kernel_rfl) rfl #[.agg #[.string a0_0, .slice A0_1 l0_1.length c0_1], .bool false] rfl (by (try simp only [List.map_toArray, List.map_cons, List.map_nil]); first | done | rfl | (simp only [List.length_drop, List.length_take]; rfl)) ?_; (with_reducible refine (spec_l1Signs.calls k a0_0 _ _ l0_1 false t103 _ ?side1 ?side2 A4.out).mono ?_); (case side1 => repeat (first | exact (Kd.C_below HR0_1.out HB.out) | (with_reducible refine Kd.C_alloc ?_ _) | (with_reducible refine Kd.C_drewN ?_ _) | (with_reducible refine Kd.C_drew ?_))); (case side2 => exact HC0_1.out); rintro e w9 ⟨rfl, hb⟩; refine ⟨_, rfl, ?_⟩; refine rn2 (blk_below (g := gb101) (o := .cells #[.string a0_0, .slice A0_1 l0_1.length c0_1] 25 (0, 0)) (by (with_reducible repeat (first | refine blk_drewN ?_ _ | refine blk_drew ?_ | refine blk_alloc ?_ _)); exact BK101.out) hb) (below_step (by repeat (first | (with_reducible first | exact HB.out | apply below_alloc | apply pw_below_drewN | apply below_drew1 | refine below_set ?_ GE101.out) | exact HB.out)) hb) ?_; clear BK101 HB; intro BK101 HB; (try clear hb); (try clear hb2); (try clear hk); (try clear hi)))
  go_ret
  exact ⟨by first | rfl | (simp [errW_none, errW_some] <;> rfl) | (simp [*, errW_none, errW_some] <;> rfl), by repeat (first | (with_reducible first | exact HB.out | apply below_alloc | apply pw_below_drewN | apply below_drew1 | refine below_set ?_ GE101.out) | exact HB.out)⟩
 replace c3 := Bool.eq_false_iff.mpr c3
 subst c3
 have H1 : (some (⟨#[]⟩ : ByteArray)) = some r := by rw [if_neg (show ¬ (false = true) by decide)] at H; exact H
 clear H
 have H := H1
 clear H1
 obtain rfl := Option.some.inj H
 go_enter Tryd.func26, Tryd.ntmps26
 go_wp2_with (first | ((with_reducible refine gate_dst (N := 1) rfl ?_); refine box_event ?hg (N := 1) ?hd (cs := #[.string a0_0, .slice A0_1 l0_1.length c0_1]) (t := 25) ?hr ?_; (case hd => rfl); (case hg => rfl); (case hr => first | (go_simp; done) | (go_simp; rfl)); intro gb101 hg w10 hbox hb; refine rn4 (below_step (by repeat (first | (with_reducible first | exact HB.out | apply below_alloc | apply pw_below_drewN | apply below_drew1) | exact HB.out)) hb) (hbox) ((by rw [hg]; exact (below_size (by repeat (first | (with_reducible first | exact HB.out | apply below_alloc | apply pw_below_drewN | apply below_drew1) | exact HB.out))) : w.heap.size ≤ gb101)) ((by rw [hg]; exact (below_size (by repeat (first | (with_reducible first | exact HB.out | apply below_alloc | apply pw_below_drewN | apply below_drew1) | exact HB.out))) : w.heap.size ≤ gb101)) ?_; clear HB; intro HB BK101 GW101 GE101; clear hb hbox hg; have hcz11_0 : w10.cell? ⟨gb101, 0, none⟩ = some (.string a0_0) := (blk_cell BK101.out 0).trans rfl; have hcz11_1 : w10.cell? ⟨gb101, 1, none⟩ = some (.slice A0_1 l0_1.length c0_1) := (blk_cell BK101.out 1).trans rfl; have hfz11_0 := blk_frozen BK101.out 0; have hfz11_1 := blk_frozen BK101.out 1) | ((with_reducible refine gate_callee (f := 27) rfl ?_); refine goesL_ (some 4) rfl rfl Tryd.func27 (by kernel_rfl) rfl #[.agg #[.string a0_0, .slice A0_1 l0_1.length c0_1]] rfl (by (try simp only [List.map_toArray, List.map_cons, List.map_nil]); first | done | rfl | (simp only [List.length_drop, List.length_take]; rfl)) ?_; (with_reducible refine (spec_GramOk.calls k a0_0 _ _ l0_1 false _ ?side1 ?side2 A2.out).mono ?_); (case side1 => repeat (first | exact (Kd.C_below HR0_1.out HB.out) | (with_reducible refine Kd.C_alloc ?_ _) | (with_reducible refine Kd.C_drewN ?_ _) | (with_reducible refine Kd.C_drew ?_))); (case side2 => exact HC0_1.out); rintro e w12 ⟨rfl, hb⟩; refine ⟨_, rfl, ?_⟩; refine rn2 (blk_below (g := gb101) (o := .cells #[.string a0_0, .slice A0_1 l0_1.length c0_1] 25 (0, 0)) (by (with_reducible repeat (first | refine blk_drewN ?_ _ | refine blk_drew ?_ | refine blk_alloc ?_ _)); exact BK101.out) hb) (below_step (by repeat (first | (with_reducible first | exact HB.out | apply below_alloc | apply pw_below_drewN | apply below_drew1 | refine below_set ?_ GE101.out) | exact HB.out)) hb) ?_; clear BK101 HB; intro BK101 HB; (try clear hb); (try clear hb2); (try clear hk); (try clear hi)))
 go_ret
 exact ⟨by first | rfl | (simp [errW_none, errW_some] <;> rfl) | (simp [*, errW_none, errW_some] <;> rfl), by repeat (first | (with_reducible first | exact HB.out | apply below_alloc | apply pw_below_drewN | apply below_drew1 | refine below_set ?_ GE101.out) | exact HB.out)⟩
/-! ### laws_wpHas: function 30 -/
def laws_wpHas.l0 : Nat → ByteArray → Int → Int → Option (Bool)
 | 0, _, _, _ => none
 | k + 1, x0, x1, x5 => if x5 < (x0.size : Int) then (if 0 ≤ x5 then (if (bt x0 x5) = x1 then (some true) else (laws_wpHas.l0 k x0 x1 (wrap64 (x5 + 1)))) else (none)) else (some false)
def laws_wpHas.f (k : Nat) (a0 : ByteArray) (a1 : Int) : Option (Bool) := laws_wpHas.l0 k a0 a1 0
theorem laws_wpHas.mono_l : ∀ k, (∀ y0 y1 y2, LeO (laws_wpHas.l0 k y0 y1 y2) (laws_wpHas.l0 (k + 1) y0 y1 y2))
 | 0 => fun _ _ _ r h => by simp [laws_wpHas.l0] at h
 | k + 1 => by
  have ih0 := laws_wpHas.mono_l k
  intro y0 y1 y2
  unfold laws_wpHas.l0
  repeat' first
  | (with_reducible exact ih0 _ _ _)
  | (with_reducible exact LeO.refl _)
  | (with_reducible exact LeO.none _)
  | (with_reducible refine LeO.ite ?_ ?_)
  | (with_reducible refine LeO.bind ?_ (fun _ => ?_))
  | exact ih0 _ _ _
  | exact LeO.none _
  | refine LeO.ite ?_ ?_
  | refine LeO.bind ?_ (fun _ => ?_)
theorem laws_wpHas.mono : ∀ a0 a1 k, LeO (laws_wpHas.f k a0 a1) (laws_wpHas.f (k + 1) a0 a1) := by
 intro a0 a1 k
 have ih0 := laws_wpHas.mono_l k
 unfold laws_wpHas.f
 repeat' first
   | (with_reducible exact ih0 _ _ _)
   | (with_reducible exact LeO.refl _)
   | (with_reducible exact LeO.none _)
   | (with_reducible refine LeO.ite ?_ ?_)
   | (with_reducible refine LeO.bind ?_ (fun _ => ?_))
   | exact ih0 _ _ _
   | exact LeO.none _
   | refine LeO.ite ?_ ?_
   | refine LeO.bind ?_ (fun _ => ?_)
set_option maxHeartbeats 8000000 in
set_option maxRecDepth 100000 in
theorem laws_wpHas.calls (k : Nat) (a0 : ByteArray) (a1 : Int) (r : Bool) (w : World) (h : laws_wpHas.f k a0 a1 = some r) :
  Calls Tryd.prog 30 #[.string a0, .int .u8 a1] w fun e w' => e = .returned (.bool r) ∧ Drawn0 w w' := by
 have H : (laws_wpHas.l0 k a0 a1 0) = some r := h
 clear h
 have H' := Aside0.mk H
 clear H
 go_enter Tryd.func30, Tryd.ntmps30
 go_wp2
 go_loopg [5] k (fun kq v5 w' => ∃ (x5_1 : Int), v5 = .int .i64 x5_1 ∧ Aside0 (laws_wpHas.l0 kq a0 a1 x5_1 = some r) ∧ Aside0 (kq ≤ k) ∧ Drawn0 w w')
 case atStart => exact ⟨(0), (by first | rfl | (simp; done) | (simp [*]; done)), H', ⟨Nat.le_refl _⟩, by repeat (first | exact Drawn0.refl _ | apply Drawn0.step)⟩
 case round =>
  clear H'
  try clear p2
  obtain ⟨x5_1, rfl, HA, HK1, ⟨m1, rfl⟩⟩ := hrel
  cases gk with
  | zero => exact absurd HA.out (by simp [laws_wpHas.l0])
  | succ k1 =>
   have H := HA.out
   clear HA
   simp only [laws_wpHas.l0] at H
   by_cases c3 : x5_1 < (a0.size : Int)
   rotate_left
   ·rw [if_neg c3] at H
    have c3b0 : decide (x5_1 < (a0.size : Int)) = false := decide_eq_false c3
    clear c3
    obtain rfl := Option.some.inj H
    go_wp2
    go_ret
    exact ⟨by first | rfl | (simp; done) | (simp [*]; done), by repeat (first | exact Drawn0.refl _ | apply Drawn0.step)⟩
   rw [if_pos c3] at H
   have c3b0 : decide (x5_1 < (a0.size : Int)) = true := decide_eq_true c3
   clear c3
   by_cases c4 : 0 ≤ x5_1
   rotate_left
   ·rw [if_neg c4] at H
    exact absurd H (by simp)
   rw [if_pos c4] at H
   have c4b0 : decide (0 ≤ x5_1) = true := decide_eq_true c4
   clear c4
   by_cases c6 : (bt a0 x5_1) = a1
   ·rw [if_pos c6] at H
    have c6b0 : ((bt a0 x5_1) == a1) = true := beq_iff_eq.mpr c6
    have c6b1 : ((bt a0 x5_1) != a1) = false := bne_eq_false_iff_eq.mpr c6
    clear c6
    obtain rfl := Option.some.inj H
    have p5 : 0 ≤ (x5_1 : Int) := of_decide_eq_true (by first | (with_reducible assumption) | assumption)
    have q5 : x5_1 < (a0.size : Int) := of_decide_eq_true (by first | (with_reducible assumption) | assumption)
    have hx5 := bt_at a0 x5_1
    replace p5 := eq_true p5
    replace q5 := eq_true q5
    go_wp2
    go_ret
    exact ⟨by first | rfl | (simp; done) | (simp [*]; done), by repeat (first | exact Drawn0.refl _ | apply Drawn0.step)⟩
   rw [if_neg c6] at H
   have c6b0 : ((bt a0 x5_1) == a1) = false := beq_eq_false_iff_ne.mpr c6
   have c6b1 : ((bt a0 x5_1) != a1) = true := bne_iff_ne.mpr c6
   have H' := Aside0.mk H
   clear H
   have p5 : 0 ≤ (x5_1 : Int) := of_decide_eq_true (by first | (with_reducible assumption) | assumption)
   have q5 : x5_1 < (a0.size : Int) := of_decide_eq_true (by first | (with_reducible assumption) | assumption)
   have hx5 := bt_at a0 x5_1
   replace p5 := eq_true p5
   replace q5 := eq_true q5
   go_wp2
   go_roundg k1
   case measure => have := HK1.out; omega
   case rel => exact ⟨(wrap64 (x5_1 + 1)), (by first | rfl | (simp; done) | (simp [*]; done)), H', ⟨by have := HK1.out; omega⟩, by repeat (first | exact Drawn0.refl _ | apply Drawn0.step)⟩
/-! ### spec_l1Draw: function 70 -/
def spec_l1Draw.f (k : Nat) (l0 : List Int) : Option (ByteArray × (List (S46))) := (spec_l17Open.f l0).bind fun bt102 => ((spec_l1Gram.f k bt102.1 bt102.2).bind fun bt105 => ((spec_l1Bent.f k bt102.1 bt105.2.2 bt105.1 bt105.2.1).bind fun bt110 => (some (bt110.1, bt110.2.1))))
theorem spec_l1Draw.mono : ∀ a0 k, LeO (spec_l1Draw.f k a0) (spec_l1Draw.f (k + 1) a0) := by
 intro a0 k
 unfold spec_l1Draw.f
 repeat' first
   | (with_reducible exact spec_l1Bent.mono _ _ _ _ _)
   | (with_reducible exact spec_l1Gram.mono _ _ _)
   | (with_reducible exact LeO.refl _)
   | (with_reducible exact LeO.none _)
   | (with_reducible refine LeO.ite ?_ ?_)
   | (with_reducible refine LeO.bind ?_ (fun _ => ?_))
   | exact spec_l1Bent.mono _ _ _ _ _
   | exact spec_l1Gram.mono _ _ _
   | exact LeO.none _
   | refine LeO.ite ?_ ?_
   | refine LeO.bind ?_ (fun _ => ?_)
set_option maxHeartbeats 8000000 in
set_option maxRecDepth 100000 in
theorem spec_l1Draw.calls (k : Nat) (A0 : Option Addr) (c0 : Nat) (l0 : List Int) (r1 : ByteArray) (r2 : List (S46)) (w : World) (hr0 : Kd.C (Kd.int .u8) w A0 l0.length l0) (hc0 : l0.length ≤ c0) (h : spec_l1Draw.f k l0 = some (r1, r2)) :
  Calls Tryd.prog 70 #[.slice A0 l0.length c0] w fun e w' => ∃ v1_ : Value, e = .returned (.agg #[.string r1, v1_]) ∧ Kd.R k46 46 w' w.heap.size (fun _ => True) v1_ r2 ∧ Below w.heap.size w w' := by
 have hu25 := Tryd.underlying25
 have HR0 := Aside0.mk hr0
 have HC0 := Aside0.mk hc0
 clear hr0 hc0
 have HB := Aside0.mk (Below.refl w.heap.size w)
 have H : ((spec_l17Open.f l0).bind fun bt102 => ((spec_l1Gram.f k bt102.1 bt102.2).bind fun bt105 => ((spec_l1Bent.f k bt102.1 bt105.2.2 bt105.1 bt105.2.1).bind fun bt110 => (some (bt110.1, bt110.2.1))))) = some (r1, r2) := h
 clear h
 replace H := Option.bind_eq_some_iff.mp H
 obtain ⟨⟨t102, t103⟩, A20, H⟩ := H
 replace H : ((spec_l1Gram.f k t102 t103).bind fun bt105 => ((spec_l1Bent.f k t102 bt105.2.2 bt105.1 bt105.2.1).bind fun bt110 => (some (bt110.1, bt110.2.1)))) = some (r1, r2) := H
 have A2 := Aside0.mk A20
 clear A20
 replace H := Option.bind_eq_some_iff.mp H
 obtain ⟨⟨t105, t106, t109⟩, A30, H⟩ := H
 replace H : ((spec_l1Bent.f k t102 t109 t105 t106).bind fun bt110 => (some (bt110.1, bt110.2.1))) = some (r1, r2) := H
 have A3 := Aside0.mk A30
 clear A30
 replace H := Option.bind_eq_some_iff.mp H
 obtain ⟨⟨t110, t111, t114⟩, A40, H⟩ := H
 replace H : (some (t110, t111)) = some (r1, r2) := H
 have A4 := Aside0.mk A40
 clear A40
 simp only [Option.some.injEq, Prod.mk.injEq] at H
 obtain ⟨rfl, rfl⟩ := H
 go_enter Tryd.func70, Tryd.ntmps70
 go_wp2_with (first | ((with_reducible refine gate_dst (N := 2) rfl ?_); refine box_event ?hg (N := 2) ?hd (cs := #[.string (⟨#[]⟩ : ByteArray), .slice none 0 0]) (t := 25) ?hr ?_; (case hd => rfl); (case hg => rfl); (case hr => first | (go_simp; done) | (go_simp; rfl)); intro gb101 hg w5 hbox hb; refine rn4 (below_step (by repeat (first | (with_reducible first | exact HB.out | apply below_alloc | apply pw_below_drewN | apply below_drew1) | exact HB.out)) hb) (hbox) ((by rw [hg]; exact (below_size (by repeat (first | (with_reducible first | exact HB.out | apply below_alloc | apply pw_below_drewN | apply below_drew1) | exact HB.out))) : w.heap.size ≤ gb101)) ((by rw [hg]; exact (below_size (by repeat (first | (with_reducible first | exact HB.out | apply below_alloc | apply pw_below_drewN | apply below_drew1) | exact HB.out))) : w.heap.size ≤ gb101)) ?_; clear HB; intro HB BK101 GW101 GE101; clear hb hbox hg) | ((with_reducible refine gate_callee (f := 82) rfl ?_); refine goesL_ (some 5) rfl rfl Tryd.func82 (by kernel_rfl) rfl #[.slice A0 l0.length c0] rfl (by (try simp only [List.map_toArray, List.map_cons, List.map_nil]); first | done | rfl | (simp only [List.length_drop, List.length_take]; rfl)) ?_; (with_reducible refine (spec_l17Open.calls _ _ l0 t102 t103 w _ ?side1 ?side2 ?side3 A2.out).mono ?_); (case side1 => repeat (first | (with_reducible first | exact HB.out | apply below_alloc | apply pw_below_drewN | apply below_drew1 | refine below_set ?_ GE101.out) | exact HB.out)); (case side2 => exact HR0.out); (case side3 => exact HC0.out); rintro e w6 ⟨g104, rfl, hi, hb, hb2⟩; refine ⟨_, rfl, ?_⟩; refine rn5 (blk_below (g := gb101) (o := .cells #[.string (⟨#[]⟩ : ByteArray), .slice none 0 0] 25 (0, 0)) (by (with_reducible repeat (first | refine blk_drewN ?_ _ | refine blk_drew ?_ | refine blk_alloc ?_ _)); exact BK101.out) hb2) (hb) (hi) (IsS132.ne_blk hi (blk_below (g := gb101) (o := .cells #[.string (⟨#[]⟩ : ByteArray), .slice none 0 0] 25 (0, 0)) (by (with_reducible repeat (first | refine blk_drewN ?_ _ | refine blk_drew ?_ | refine blk_alloc ?_ _)); exact BK101.out) hb2) (by decide)) (Ne.symm (IsS132.ne_blk hi (blk_below (g := gb101) (o := .cells #[.string (⟨#[]⟩ : ByteArray), .slice none 0 0] 25 (0, 0)) (by (with_reducible repeat (first | refine blk_drewN ?_ _ | refine blk_drew ?_ | refine blk_alloc ?_ _)); exact BK101.out) hb2) (by decide))) ?_; clear BK101 HB; intro BK101 HB HI104 NB104_101 NB101_104; (try clear hb); (try clear hb2); (try clear hk); (try clear hi)) | ((with_reducible refine gate_callee (f := 100) rfl ?_); refine goesL_ (some 8) rfl rfl Tryd.func100 (by kernel_rfl) rfl #[.pointer (some ⟨g104, 0, none⟩)] rfl (by (try simp only [List.map_toArray, List.map_cons, List.map_nil]); first | done | rfl | (simp only [List.length_drop, List.length_take]; rfl)) ?_; (with_reducible refine (spec_l1Gram.calls k g104 t102 t103 t105 t106 t109 w _ ?side1 ?side2 A3.out).mono ?_); (case side1 => repeat (first | (with_reducible first | exact HI104.out | apply IsS132.alloc | apply IsS132.drewN | apply IsS132.drew | apply IsS132.set_1 | refine IsS132.far ?_ NB104_101.out _) | exact HI104.out)); (case side2 => repeat (first | (with_reducible first | exact HB.out | apply below_alloc | apply pw_below_drewN | apply below_drew1 | refine below_set ?_ (IsS132.ge HI104.out) | refine below_set ?_ GE101.out) | exact HB.out)); rintro e w7 ⟨v107, rfl, ho0, hi, hb, hk⟩; refine ⟨_, rfl, ?_⟩; refine rn4 (KeepBut.blk hk (g' := gb101) (o := .cells #[.string (⟨#[]⟩ : ByteArray), .slice none 0 0] 25 (0, 0)) (by (with_reducible repeat (first | refine blk_drewN ?_ _ | refine blk_drew ?_ | refine blk_alloc ?_ _)); exact BK101.out) NB101_104.out (by simp)) (Kd.R_lower ho0 (below_size (by repeat (first | (with_reducible first | exact HB.out | apply below_alloc | apply pw_below_drewN | apply below_drew1 | refine below_set ?_ (IsS132.ge HI104.out) | refine below_set ?_ GE101.out) | exact HB.out)))) (hb) (hi) ?_; clear BK101 HB HI104; intro BK101 HO108 HB HI104; (try clear hb); (try clear hb2); (try clear hk); (try clear hi); (try clear ho0); obtain ⟨Ao8, co8, eo8⟩ := Kd.R_slice HO108.out; subst eo8) | ((with_reducible refine gate_callee (f := 99) rfl ?_); refine goesL_ (some 9) rfl rfl Tryd.func99 (by kernel_rfl) rfl #[.pointer (some ⟨g104, 0, none⟩), .agg #[.string t105, .slice Ao8 t106.length co8]] rfl (by (try simp only [List.map_toArray, List.map_cons, List.map_nil]); first | done | rfl | (simp only [List.length_drop, List.length_take]; rfl)) ?_; (with_reducible refine (spec_l1Bent.calls k g104 t102 t109 t105 _ _ t106 t110 t111 t114 w _ ?side1 ?side2 ?side3 ?side4 A4.out).mono ?_); (case side1 => repeat (first | (with_reducible first | exact HI104.out | apply IsS132.alloc | apply IsS132.drewN | apply IsS132.drew | apply IsS132.set_1 | refine IsS132.far ?_ NB104_101.out _) | exact HI104.out)); (case side2 => repeat (first | (with_reducible first | exact HB.out | apply below_alloc | apply pw_below_drewN | apply below_drew1 | refine below_set ?_ (IsS132.ge HI104.out) | refine below_set ?_ GE101.out) | exact HB.out)); (case side3 => exact Kd.C_foot_own (IsS132.apart (show IsS132 w _ g104 t102 t109 from by repeat (first | (with_reducible first | exact HI104.out | apply IsS132.alloc | apply IsS132.drewN | apply IsS132.drew | apply IsS132.set_1 | refine IsS132.far ?_ NB104_101.out _) | exact HI104.out)) (by (with_reducible repeat (first | apply Kd.R_alloc | apply Kd.R_drewN | apply Kd.R_drew)); exact HO108.out) (by decide)) (fun _ h_ => h_.2)); (case side4 => exact (Kd.R_reads' HO108.out).2.1); rintro e w9 ⟨v112, rfl, ho0, hi, hb, hk⟩; refine ⟨_, rfl, ?_⟩; refine rn5 (KeepBut.blk hk (g' := gb101) (o := .cells #[.string (⟨#[]⟩ : ByteArray), .slice none 0 0] 25 (0, 0)) (by (with_reducible repeat (first | refine blk_drewN ?_ _ | refine blk_drew ?_ | refine blk_alloc ?_ _)); exact BK101.out) NB101_104.out (by simp)) (Kd.R_mono (Kd.R_told (Kd.R_oldK (IsS132.apart (show IsS132 w _ g104 t102 t109 from by repeat (first | (with_reducible first | exact HI104.out | apply IsS132.alloc | apply IsS132.drewN | apply IsS132.drew | apply IsS132.set_1 | refine IsS132.far ?_ NB104_101.out _) | exact HI104.out)) (by (with_reducible repeat (first | apply Kd.R_alloc | apply Kd.R_drewN | apply Kd.R_drew)); exact HO108.out) (by decide)) hk) (Kd.R_base ho0)) (fun _ h_ => h_.1)) (Kd.R_lower (Kd.R_new' ho0 (Kd.R_lt (by (with_reducible repeat (first | apply Kd.R_alloc | apply Kd.R_drewN | apply Kd.R_drew)); exact HO108.out))) (below_size (by repeat (first | (with_reducible first | exact HB.out | apply below_alloc | apply pw_below_drewN | apply below_drew1 | refine below_set ?_ (IsS132.ge HI104.out) | refine below_set ?_ GE101.out) | exact HB.out)))) (hb) (hi) ?_; clear BK101 HO108 HB HI104; intro BK101 HO108 HO113 HB HI104; (try clear hb); (try clear hb2); (try clear hk); (try clear hi); (try clear ho0); have hnb10 := NB101_104.out; have hnc10 := NB104_101.out; have hcz11_0 : w9.cell? ⟨gb101, 0, none⟩ = some (.string (⟨#[]⟩ : ByteArray)) := (blk_cell BK101.out 0).trans rfl; have hcz11_1 : w9.cell? ⟨gb101, 1, none⟩ = some (.slice none 0 0) := (blk_cell BK101.out 1).trans rfl; have hfz11_0 := blk_frozen BK101.out 0; have hfz11_1 := blk_frozen BK101.out 1; obtain ⟨Ao12, co12, eo12⟩ := Kd.R_slice HO113.out; subst eo12))
 refine bodyPost_ret (results_cell_row rfl _ _ gb101 25 #[.string t110, .slice Ao12 t111.length co12] (0, 0) _ rfl (by (with_reducible repeat (first | refine blk_drewN ?_ _ | refine blk_drew ?_ | refine blk_alloc ?_ _)); refine blk_put (cs := #[.string t110, .slice none 0 0]) ?_ 1 _ rfl; (with_reducible repeat (first | refine blk_drewN ?_ _ | refine blk_drew ?_ | refine blk_alloc ?_ _)); refine blk_put (cs := #[.string (⟨#[]⟩ : ByteArray), .slice none 0 0]) ?_ 0 _ rfl; (with_reducible repeat (first | refine blk_drewN ?_ _ | refine blk_drew ?_ | refine blk_alloc ?_ _)); exact BK101.out) Tryd.underlying25 rfl (by kernel_rfl)) rfl ?_
 exact ⟨_, by first | rfl | (simp [errW_none, errW_some] <;> rfl) | (simp [*, errW_none, errW_some] <;> rfl), by (with_reducible repeat (first | apply Kd.R_alloc | apply Kd.R_drewN | apply Kd.R_drew)); exact Kd.R_mono (Kd.R_far (p := ⟨gb101, 1, none⟩) (Kd.R_far (p := ⟨gb101, 0, none⟩) (Kd.R_types HO113.out BK101.out (by decide)) (fun _ hk => hk.2) (.string t110)) (fun _ hk => hk.2) (.slice Ao12 t111.length co12)) (fun _ hk => trivial), by repeat (first | (with_reducible first | exact HB.out | apply below_alloc | apply pw_below_drewN | apply below_drew1 | refine below_set ?_ (IsS132.ge HI104.out) | refine below_set ?_ GE101.out) | exact HB.out)⟩
end Go.Proofs.YtiibnkibckklgaaDoor.P
namespace Go.Proofs.YtiibnkibckklgaaDoor.P
set_option linter.unusedVariables false
set_option linter.unusedSimpArgs false
open Go.RowKit Go.Proofs.YtiibnkibckklgaaDoorW.PrintWords
theorem spec_l1Draw.tot (code : List Int) (h : ∀ x ∈ code, (Lit.int .u8 x).wf = true) : Tot (fun k => spec_l1Draw.f k code) (fun r => r.1.size ≤ 5 ∧ Meek r.2) := by
 obtain ⟨s, e, hs⟩ := spec_l17Open.tot code h
 unfold spec_l1Draw.f
 rw [e]
 simp only [Option.bind_some]
 refine Tot.bind (spec_l1Gram.tot hs (by omega) (by omega)) fun g hg => ?_
 exact Tot.bind (spec_l1Bent.tot hs (by omega) (by omega) g.1 (by have := hg.1.1; simp only at this; rw [this]; decide) g.2.1 hg.1.meek hg.1.2.1) fun b hb => Tot.ret ⟨hb.1, hb.2.1⟩
theorem Meek.tiny {s : ByteArray} {l : List RuleS} (hs : s.size ≤ 5) (h : Meek l) : TinyG s l := ⟨by omega, by have := h.1; omega, fun x hx => by have := h.2 x hx; omega⟩
theorem spec_GramBigs.tot (s : ByteArray) (l : List RuleS) (h : TinyG s l) : Tot (fun k => spec_GramBigs.f k s l) (fun r => r = if gramOkB s l = true then setB isBigB (everyB s l) else ⟨#[]⟩) := by
 unfold spec_GramBigs.f
 refine Tot.bind (spec_GramOk.tot s l h.small) ?_
 rintro _ rfl
 refine Tot.ite (fun e => ?_) (fun e => Tot.ret (by rw [if_neg e]))
 refine Tot.bind (spec_l1Signs.tot s l h true) ?_
 rintro _ rfl
 refine Tot.ret ?_
 rw [if_pos e]
 congr 1
 funext c
 simp
theorem wpHas.tot (s : ByteArray) (c : UInt8) (hs : s.size ≤ 1000000000000) (h : c ∈ s.data.toList) : Tot (fun k => laws_wpHas.f k s (c.toNat : Int)) (fun r => r = true) := by
 have key : ∀ d i : Nat, i + d = s.size → c ∈ s.data.toList.drop i → Tot (fun k => laws_wpHas.l0 k s (c.toNat : Int) (i : Int)) (fun r => r = true) := by
  intro d
  induction d with
  | zero =>
   intro i hi hc
   rw [List.drop_eq_nil_of_le (by rw [← size_toList]; omega)] at hc
   cases hc
  | succ d ih =>
   intro i hi hc
   have hil : i < s.data.toList.length := by rw [← size_toList]; omega
   have hg := bt_get s i (by omega)
   refine Tot.step (fun k => by rw [laws_wpHas.l0]) (Tot.pos (by omega) (Tot.pos (by omega) (Tot.ite (fun _ => Tot.ret rfl) (fun hne => ?_))))
   rw [w64 (by omega) (by omega)]
   refine ih (i + 1) (by omega) ?_
   rw [List.drop_eq_getElem_cons hil] at hc
   rcases List.mem_cons.1 hc with e | e
   ·exact absurd (by rw [hg, e]) hne
   exact e
 exact key s.size 0 (by omega) (by simpa using h)
theorem spec_GramSmalls.tot (s : ByteArray) (l : List RuleS) (h : TinyG s l) : Tot (fun k => spec_GramSmalls.f k s l) (fun r => r = if gramOkB s l = true then setB (fun c => isBigB c == false) (everyB s l) else ⟨#[]⟩) := by
 unfold spec_GramSmalls.f
 refine Tot.bind (spec_GramOk.tot s l h.small) ?_
 rintro _ rfl
 refine Tot.ite (fun e => ?_) (fun e => Tot.ret (by rw [if_neg e]))
 refine Tot.bind (spec_l1Signs.tot s l h false) ?_
 rintro _ rfl
 refine Tot.ret ?_
 rw [if_pos e]
theorem mem_everyB (s : ByteArray) (l : List RuleS) (c : UInt8) : c ∈ (everyB s l).data.toList ↔ c ∈ s.data.toList ∨ ∃ x ∈ l, c ∈ x.f0.data.toList ∨ c ∈ x.f1.data.toList := by
 unfold everyB
 induction l generalizing s with
 | nil => simp
 | cons a l ih =>
  rw [List.foldl_cons, ih]
  simp only [ByteArray.data_append, Array.toList_append, List.mem_append, or_assoc]
  have e : (∃ x, x ∈ a :: l ∧ (c ∈ x.f0.data.toList ∨ c ∈ x.f1.data.toList)) ↔ (c ∈ a.f0.data.toList ∨ c ∈ a.f1.data.toList) ∨ ∃ x, x ∈ l ∧ (c ∈ x.f0.data.toList ∨ c ∈ x.f1.data.toList) := by
   constructor
   ·rintro ⟨x, hx, h⟩
    rcases List.mem_cons.1 hx with rfl | hx
    ·exact Or.inl h
    exact Or.inr ⟨x, hx, h⟩
   rintro (h | ⟨x, hx, h⟩)
   ·exact ⟨a, List.mem_cons_self, h⟩
   exact ⟨x, List.mem_cons_of_mem _ hx, h⟩
  rw [e, or_assoc]
theorem mem_setB (p : UInt8 → Bool) (s : ByteArray) (c : UInt8) : c ∈ (setB p s).data.toList ↔ p c = true ∧ c ∈ s.data.toList := by
 unfold setB
 rw [mem_ascB, Bool.and_eq_true, List.contains_iff_mem]
theorem every_sign {s : ByteArray} {l : List RuleS} (hg : GoodG s l) {c : UInt8} (h : c ∈ (everyB s l).data.toList) : (isBigB c || isSmallB c) = true := by
 rw [← isSignB_eq]
 rcases (mem_everyB s l c).1 h with h | ⟨x, hx, h | h⟩
 ·obtain ⟨d, e, hd⟩ := hg.start
  rw [e, List.mem_singleton] at h
  subst h
  rw [isSignB_eq, hd]; rfl
 ·obtain ⟨⟨d, e, hd⟩, _⟩ := hg.rule x hx
  rw [e, List.mem_singleton] at h
  subst h
  rw [isSignB_eq, hd]; rfl
 exact List.all_eq_true.1 (hg.rule x hx).2.2 c h
theorem smalls_are {s : ByteArray} {l : List RuleS} (hg : GoodG s l) : setB (fun c => isBigB c == false) (everyB s l) = setB isSmallB (everyB s l) := by
 refine asc_ext (ascB_asc _) (ascB_asc _) fun e => ?_
 rw [mem_setB, mem_setB]
 constructor
 ·rintro ⟨h1, h2⟩
  refine ⟨?_, h2⟩
  have := every_sign hg h2
  have h1 : isBigB e = false := by simpa using h1
  rw [h1] at this
  simpa using this
 rintro ⟨h1, h2⟩
 exact ⟨by rw [small_not_big h1]; rfl, h2⟩
def smallsL (s : ByteArray) (l : List RuleS) : List UInt8 := (setB isSmallB (everyB s l)).data.toList
theorem smallsL_of (s : ByteArray) (l : List RuleS) : ofL (smallsL s l) = setB isSmallB (everyB s l) := ofL_of _
theorem asc_nodup {L : List UInt8} (h : L.Pairwise (· < ·)) : L.Nodup := h.imp fun {a b} hab e => by subst e; exact absurd hab (UInt8.lt_irrefl _)
theorem smallsL_nodup (s : ByteArray) (l : List RuleS) : (smallsL s l).Nodup := asc_nodup (ascB_asc _)
theorem smallsL_four (s : ByteArray) (l : List RuleS) : (smallsL s l).length ≤ 4 := by
 have : (smallsL s l).length ≤ ([97, 98, 99, 100] : List UInt8).length := by
  refine List.Nodup.length_le_of_subset (smallsL_nodup s l) fun c hc => ?_
  have := ((mem_setB isSmallB (everyB s l) c).1 hc).1
  unfold isSmallB at this
  rw [List.contains_iff_mem] at this
  exact this
 exact this
theorem iterL_get {α : Type} (nx : α → α) : ∀ (n : Nat) (a : α) (i : Nat), i < n → (iterL nx a n)[i]? = some (iter nx a i)
 | 0, _, _, h => absurd h (Nat.not_lt_zero _)
 | n + 1, a, 0, _ => rfl
 | n + 1, a, i + 1, h => by
  show (iterL nx (nx a) n)[i]? = some (iter nx (nx a) i)
  exact iterL_get nx n (nx a) i (by omega)
/-! ### the words up to a length -/
open Classical in
noncomputable def allW (s : ByteArray) (l : List RuleS) (n : Nat) : List (List UInt8) := ((upTo (smallsL s l) n).filter fun w => comesB s l (ofL w)).take 60
noncomputable def accW (s : ByteArray) (l : List RuleS) (U : List (List UInt8)) (i : Nat) : List (List UInt8) := ((U.take i).filter fun w => comesB s l (ofL w)).take 60
theorem accW_full {s : ByteArray} {l : List RuleS} {U : List (List UInt8)} {i : Nat} (h : (accW s l U i).length < 60) : accW s l U i = (U.take i).filter fun w => comesB s l (ofL w) := by
 unfold accW at h ⊢
 rw [List.length_take] at h
 exact List.take_of_length_le (by omega)
theorem accW_stop {s : ByteArray} {l : List RuleS} {U : List (List UInt8)} {i j : Nat} (hij : i ≤ j) (h : ¬ (accW s l U i).length < 60) : accW s l U j = accW s l U i := by
 unfold accW at h ⊢
 rw [List.length_take] at h
 have e : U.take j = U.take i ++ (U.drop i).take (j - i) := by
  rw [← List.take_add, show i + (j - i) = j by omega]
 rw [e, List.filter_append, List.take_append_of_le_length (by omega)]
theorem accW_succ {s : ByteArray} {l : List RuleS} {U : List (List UInt8)} {i : Nat} {w : List UInt8} (hw : U[i]? = some w) (h : (accW s l U i).length < 60) : accW s l U (i + 1) = accW s l U i ++ (if comesB s l (ofL w) = true then [w] else []) := by
 have hf := accW_full h
 rw [hf]
 rw [hf] at h
 obtain ⟨hi, ew⟩ := List.getElem?_eq_some_iff.1 hw
 unfold accW
 rw [List.take_succ_eq_append_getElem hi, List.filter_append, ew]
 have e2 : [w].filter (fun w => comesB s l (ofL w)) = if comesB s l (ofL w) = true then [w] else [] := by
  by_cases hc : comesB s l (ofL w) = true
  ·simp [hc]
  simp [hc]
 rw [e2]
 refine List.take_of_length_le ?_
 rw [List.length_append]
 split <;> simp <;> omega
theorem accW_small (s : ByteArray) (l : List RuleS) (U : List (List UInt8)) (i : Nat) : (accW s l U i).length ≤ 60 := by unfold accW; rw [List.length_take]; omega
theorem impl_isMost.is (n : Int) : impl_isMost.f n = some (decide (0 ≤ n ∧ n ≤ 4)) := by
 unfold impl_isMost.f
 by_cases h : n ≥ 0
 ·rw [if_pos h]; congr 1; rw [decide_eq_decide]; omega
 rw [if_neg h]; congr 1; symm; rw [decide_eq_false_iff_not]; omega
theorem spec_l4Length.is (n : Int) : spec_l4Length.f n = some (decide (0 ≤ n ∧ n ≤ 4)) := by
 unfold spec_l4Length.f
 by_cases h : n ≥ 0
 ·rw [if_pos h]; congr 1; rw [decide_eq_decide]; omega
 rw [if_neg h]; congr 1; symm; rw [decide_eq_false_iff_not]; omega
noncomputable def allWordsL (s : ByteArray) (l : List RuleS) (n : Int) : List ByteArray := if gramOkB s l = true ∧ 0 ≤ n ∧ n ≤ 4 then ofLs (allW s l n.toNat) else []
theorem impl_AllWords.tot (s : ByteArray) (l : List RuleS) (ht : TinyG s l) (n : Int) : Tot (fun k => impl_AllWords.f k s l n) (fun r => r = allWordsL s l n) := by
 unfold impl_AllWords.f
 refine Tot.bind (impl_GramOk.tot s l ht.small) ?_
 rintro _ rfl
 rw [impl_isMost.is]
 simp only [Option.bind_some]
 have no : ∀ (h : ¬ (gramOkB s l = true ∧ 0 ≤ n ∧ n ≤ 4)), Tot (fun k => impl_AllWords.j0 k n true s l) (fun r => r = allWordsL s l n) := fun h => by
  refine Tot.step (fun k => by rw [impl_AllWords.j0]) (Tot.pos rfl (Tot.ret ?_))
  unfold allWordsL
  rw [if_neg h]
 refine Tot.ite (fun hg => ?_) (fun hg => no (fun h => hg h.1))
 by_cases hn : 0 ≤ n ∧ n ≤ 4
 case neg => rw [decide_eq_false hn]; exact no (fun h => hn h.2)
 rw [decide_eq_true hn]
 obtain ⟨m, rfl⟩ := Int.eq_ofNat_of_zero_le hn.1
 have hsm : impl_GramSmalls.f s l = some (ofL (smallsL s l)) := by unfold impl_GramSmalls.f; rw [if_pos ht, if_pos hg, smallsL_of]
 refine Tot.step (fun k => by rw [impl_AllWords.j0]) (Tot.neg (by simp) ?_)
 rw [hsm]
 simp only [Option.bind_some]
 have h4 := smallsL_four s l
 have hU := upTo_small (smallsL s l) h4 m (by omega)
 refine Tot.bind (impl_wordsUpTo.tot (smallsL s l) h4 m (by omega)) ?_
 rintro _ rfl
 have hlen : (ofLs (upTo (smallsL s l) m)).length = (upTo (smallsL s l) m).length := List.length_map _
 have hres : allWordsL s l (m : Int) = ofLs (accW s l (upTo (smallsL s l) m) (upTo (smallsL s l) m).length) := by
  unfold allWordsL accW allW
  rw [if_pos ⟨hg, hn⟩, List.take_length]; rfl
 rw [hres]
 have hsz : ∀ w ∈ upTo (smallsL s l) m, w.length ≤ 4 := fun w hw => by have := ((mem_upTo _ _ _).1 hw).1; omega
 generalize upTo (smallsL s l) m = U at hU hlen hsz
 have run : ∀ (d i : Nat), i + d = U.length → Tot (fun k => impl_AllWords.l0 k (ofLs (accW s l U i)) (ofLs U) ((ofLs U).length : Int) (i : Int) s l) (fun r => r = ofLs (accW s l U U.length)) := by
  intro d
  induction d with
  | zero =>
   intro i hi
   refine Tot.step (fun k => by rw [impl_AllWords.l0]) (Tot.neg (by omega) (Tot.ret ?_))
   rw [show i = U.length by omega]
  | succ d ih =>
   intro i hi
   have hil : i < U.length := by omega
   have hw : U[i]? = some U[i] := List.getElem?_eq_getElem hil
   have hrd : rdOf ByteArray.empty (ofLs U) (i : Int) = ofL U[i] := by
    unfold rdOf ofLs
    rw [List.getD_eq_getElem?_getD, show ((i : Int)).toNat = i by omega, List.getElem?_map, hw]; rfl
   have hl := hsz _ (List.getElem_mem hil)
   have hal : (ofLs (accW s l U i)).length = (accW s l U i).length := List.length_map _
   have hs := accW_small s l U i
   refine Tot.step (fun k => by rw [impl_AllWords.l0]) (Tot.pos (by omega) (Tot.pos (by omega) (Tot.pos (by omega) ?_)))
   rw [hrd, w64 (by omega) (by omega), impl_isDerived.is hg (by rw [ofL_size]; omega)]
   simp only [Option.bind_some]
   refine Tot.ite (fun hlt => ?_) (fun hge => ?_)
   ·have hacc := accW_succ hw (show (accW s l U i).length < 60 by omega)
    refine Tot.ite (fun hc => Tot.pos (by omega) ?_) (fun hc => ?_)
    ·rw [if_pos hc] at hacc
     have := ih (i + 1) (by omega)
     rw [hacc] at this
     have e : ofLs (accW s l U i ++ [U[i]]) = ofLs (accW s l U i) ++ [ofL U[i]] := List.map_append
     rw [e] at this
     exact this
    rw [if_neg hc, List.append_nil] at hacc
    have := ih (i + 1) (by omega)
    rw [hacc] at this
    exact this
   have hacc := accW_stop (s := s) (l := l) (U := U) (show i ≤ i + 1 by omega) (by omega)
   have := ih (i + 1) (by omega)
   rw [hacc] at this
   exact this
 have := run U.length 0 (by omega)
 simpa [accW, ofLs] using this
theorem spec_AllWords.tot (s : ByteArray) (l : List RuleS) (ht : TinyG s l) (n : Int) : Tot (fun k => spec_AllWords.f k s l n) (fun r => r = allWordsL s l n) := by
 unfold spec_AllWords.f
 refine Tot.bind (spec_GramOk.tot s l ht.small) ?_
 rintro _ rfl
 rw [spec_l4Length.is]
 simp only [Option.bind_some]
 have no : ∀ (h : ¬ (gramOkB s l = true ∧ 0 ≤ n ∧ n ≤ 4)), [] = allWordsL s l n := fun h => by unfold allWordsL; rw [if_neg h]
 refine Tot.ite (fun hg => ?_) (fun hg => Tot.ret (no fun h => hg h.1))
 by_cases hn : 0 ≤ n ∧ n ≤ 4
 case neg => rw [decide_eq_false hn]; exact Tot.neg (by simp) (Tot.ret (no fun h => hn h.2))
 rw [decide_eq_true hn]
 refine Tot.pos rfl ?_
 obtain ⟨m, rfl⟩ := Int.eq_ofNat_of_zero_le hn.1
 have hG := gramOkB_good hg
 have h4 := smallsL_four s l
 have hnd := smallsL_nodup s l
 have hU := upTo_small (smallsL s l) h4 m (by omega)
 have hres : allWordsL s l (m : Int) = ofLs (accW s l (upTo (smallsL s l) m) (upTo (smallsL s l) m).length) := by
  unfold allWordsL accW allW
  rw [if_pos ⟨hg, hn⟩, List.take_length]; rfl
 have hsig := spec_l1Signs.tot s l ht false
 rw [smalls_are hG, ← smallsL_of] at hsig
 have main : Tot (fun k => spec_l4Words.f k s l (m : Int)) (fun r => r = allWordsL s l (m : Int)) := by
  unfold spec_l4Words.f
  refine Tot.bind hsig ?_
  rintro _ rfl
  rw [hres]
  generalize smallsL s l = S at h4 hnd hU
  by_cases hS : S = []
  ·-- no sign: the empty word alone
   subst hS
   have hU1 : upTo [] m = [[]] := upTo_empty m
   rw [hU1]
   have hacc := accW_succ (s := s) (l := l) (U := [[]]) (i := 0) (w := []) rfl (by simp [accW])
   have h0 : accW s l [[]] 0 = [] := by simp [accW]
   rw [h0, List.nil_append] at hacc
   refine Tot.step (fun k => by rw [spec_l4Words.l0]) (Tot.pos (by show ((0 : Nat) : Int) ≤ _; omega) (Tot.step (fun k => by rw [spec_l4Words.j1]) (Tot.pos (by rfl) ?_)))
   rw [spec_l4Is.is hg (show (⟨#[]⟩ : ByteArray).size ≤ 1000 by decide)]
   simp only [Option.bind_some]
   have hfin : ofLs (accW s l [[]] ([[]] : List (List UInt8)).length) = if comesB s l ⟨#[]⟩ = true then [⟨#[]⟩] else [] := by
    show ofLs (accW s l [[]] (0 + 1)) = _
    rw [hacc]
    have : ofL [] = (⟨#[]⟩ : ByteArray) := rfl
    rw [this]
    split <;> rfl
   rw [hfin]
   refine Tot.ite (fun hc => Tot.pos (by decide) (Tot.pos (by rw [bytes_toList]; rfl) (Tot.ret ?_))) (fun hc => Tot.pos (by rw [bytes_toList]; rfl) (Tot.ret ?_))
   ·rw [if_pos hc]; rfl
   rw [if_neg hc]
  have hit := upTo_iter hnd hS m
  have hnil : ∀ (t : ByteArray), t = ofL S → ¬ t.toList = ([] : List UInt8) := by
   rintro t rfl h
   rw [bytes_toList] at h
   exact hS h
  generalize hNe : upToN S m = N at hit
  have hN : (upTo S m).length = N := by rw [hit.1, iterL_length]
  have hget : ∀ i, i < N → (upTo S m)[i]? = some (iter (nextW S) [] i) := fun i hi => by rw [hit.1]; exact iterL_get _ _ _ _ hi
  have hmem : ∀ i, i < N → (iter (nextW S) [] i).length ≤ m ∧ ∀ c ∈ iter (nextW S) [] i, c ∈ S := fun i hi => (mem_upTo S m _).1 (List.mem_of_getElem? (hget i hi))
  have hend := hit.2
  have hS1 : 1 ≤ S.length := by cases S with | nil => exact absurd rfl hS | cons c S => simp
  rw [hN]
  have hUl := hN
  generalize upTo S m = U at hget hUl hU
  have run : ∀ (d i : Nat), i + d = N → Tot (fun k => spec_l4Words.l0 k (m : Int) (ofLs (accW s l U i)) (ofL S) (ofL (iter (nextW S) [] i)) s l) (fun r => r = ofLs (accW s l U N)) := by
   intro d
   induction d with
   | zero =>
    intro i hi
    rw [show i = N by omega, hend]
    refine Tot.step (fun k => by rw [spec_l4Words.l0]) (Tot.neg (by rw [ofL_size, List.length_replicate]; omega) (Tot.step (fun k => by rw [spec_l4Words.j1]) (Tot.neg (by simp) (Tot.ret rfl))))
   | succ d ih =>
    intro i hi
    have hw := hget i (by omega)
    have hm := hmem i (by omega)
    have hal : (ofLs (accW s l U i)).length = (accW s l U i).length := List.length_map _
    have hstep : iter (nextW S) [] (i + 1) = nextW S (iter (nextW S) [] i) := by
     rw [iter_add]; rfl
    have hih := ih (i + 1) (by omega)
    rw [hstep] at hih
    generalize iter (nextW S) [] i = w at hw hm hih
    refine Tot.step (fun k => by rw [spec_l4Words.l0]) (Tot.pos (by rw [ofL_size]; omega) (Tot.step (fun k => by rw [spec_l4Words.j1]) ?_))
    refine Tot.ite (fun hlt => ?_) (fun hge => Tot.ret ?_)
    ·have hlt : (accW s l U i).length < 60 := by simp at hlt; omega
     have hacc := accW_succ hw hlt
     rw [spec_l4Is.is hg (by rw [ofL_size]; omega)]
     simp only [Option.bind_some]
     refine Tot.ite (fun hc => Tot.pos (by omega) ?_) (fun hc => ?_)
     ·rw [if_pos hc] at hacc
      refine Tot.neg (hnil _ rfl) (Tot.bind (spec_l4Next.tot S hnd hS (by omega) w (by omega) hm.2) ?_)
      rintro _ rfl
      rw [hacc] at hih
      have e : ofLs (accW s l U i ++ [w]) = ofLs (accW s l U i) ++ [ofL w] := List.map_append
      rw [e] at hih
      exact hih
     rw [if_neg hc, List.append_nil] at hacc
     refine Tot.neg (hnil _ rfl) (Tot.bind (spec_l4Next.tot S hnd hS (by omega) w (by omega) hm.2) ?_)
     rintro _ rfl
     rw [hacc] at hih
     exact hih
    have hge : ¬ (accW s l U i).length < 60 := by simp at hge; omega
    rw [accW_stop (show i ≤ N by omega) hge]
  have h0 := run N 0 (by omega)
  have e0 : accW s l U 0 = [] := by simp [accW]
  rw [e0] at h0
  exact h0
 refine Tot.bind main ?_
 rintro _ rfl
 exact Tot.ret rfl
theorem spec_DrawAllWords.tot (code : List Int) (h : ∀ x ∈ code, (Lit.int .u8 x).wf = true) : Tot (fun k => spec_DrawAllWords.f k code) (fun r => TinyG r.1 r.2.1 ∧ -1 ≤ r.2.2 ∧ r.2.2 ≤ 5) := by
 obtain ⟨s, e, hs⟩ := spec_l17Open.tot code h
 unfold spec_DrawAllWords.f
 rw [e]
 simp only [Option.bind_some]
 refine Tot.bind (spec_l1Gram.tot hs (by omega) (by omega)) fun g hg => ?_
 refine Tot.bind (spec_l1Bent.tot hs (by omega) (by omega) g.1 (by have := hg.1.1; simp only at this; rw [this]; decide) g.2.1 hg.1.meek hg.1.2.1) fun b hb => ?_
 refine Tot.bind (spec_l17Rd_num.tot hs (by omega) (by omega) _ (by decide)) fun n hn => Tot.ret ⟨Meek.tiny hb.1 hb.2.1, ?_⟩
 have := hn.1
 simp only [List.mem_cons, List.not_mem_nil, or_false] at this
 simp only
 omega
theorem rdOf_at (L : List ByteArray) (i : Nat) (h : i < L.length) : rdOf ByteArray.empty L (i : Int) = L[i] := by
 unfold rdOf
 rw [List.getD_eq_getElem?_getD, show ((i : Int)).toNat = i by omega, List.getElem?_eq_getElem h]; rfl
theorem allW_prefix (s : ByteArray) (l : List RuleS) (n : Nat) : allW s l n <+: allW s l (n + 1) := by
 unfold allW
 rw [upTo, List.filter_append]
 generalize (upTo (smallsL s l) n).filter (fun w => comesB s l (ofL w)) = A
 generalize (words (smallsL s l) (n + 1)).filter (fun w => comesB s l (ofL w)) = B
 by_cases h : A.length ≤ 60
 ·rw [List.take_of_length_le h, List.take_append]
  exact ⟨(B.take (60 - A.length)), by rw [List.take_of_length_le h]⟩
 rw [List.take_append_of_le_length (by omega)]
 exact List.prefix_refl _
theorem FnAllLonger : laws_FnAllLonger.Pure := by
 intro code _ _ hwf
 obtain ⟨k, r, h, rfl⟩ : ∃ k r, laws_FnAllLonger.f k code = some r ∧ r = true := by
  refine Tot.get (P := fun r => r = true) ?_
  unfold laws_FnAllLonger.f
  refine Tot.ite (fun _ => Tot.ret rfl) (fun _ => Tot.bind (spec_DrawAllWords.tot code hwf) ?_)
  rintro ⟨s, l, n⟩ ⟨ht, hn1, hn2⟩
  have hn1 : -1 ≤ n := hn1
  have hn2 : n ≤ 5 := hn2
  have ht : TinyG s l := ht
  show Tot (fun k => (impl_AllWords.f k s l n).bind fun t107 => ((impl_AllWords.f k s l (wrap64 (n + 1))).bind fun t110 => ((spec_AllWords.f k s l n).bind fun t113 => _))) _
  refine Tot.bind (impl_AllWords.tot s l ht n) ?_
  rintro _ rfl
  rw [w64 (by omega) (by omega)]
  refine Tot.bind (impl_AllWords.tot s l ht (n + 1)) ?_
  rintro _ rfl
  refine Tot.bind (spec_AllWords.tot s l ht n) ?_
  rintro _ rfl
  have out : Tot (fun k => laws_FnAllLonger.j0 k n (allWordsL s l n) (allWordsL s l (n + 1)) true s l) (fun r => r = true) := by
   refine Tot.step (fun k => by rw [laws_FnAllLonger.j0]) (Tot.pos rfl (Tot.bind (spec_AllWords.tot s l ht n) ?_))
   rintro _ rfl
   exact Tot.ret (by simp)
  refine Tot.pos rfl (Tot.ite (fun _ => out) (fun h0 => Tot.ite (fun _ => out) (fun h3 => Tot.bind (spec_GramOk.tot s l ht.small) ?_)))
  rintro _ rfl
  by_cases hg : gramOkB s l = true
  case neg => rw [Bool.eq_false_iff.2 hg]; exact out
  rw [hg]
  have h0 : ¬ n < 0 := h0
  have h3 : ¬ n > 3 := h3
  obtain ⟨m, rfl⟩ := Int.eq_ofNat_of_zero_le (show 0 ≤ n by omega)
  have e1 : allWordsL s l (m : Int) = ofLs (allW s l m) := by unfold allWordsL; rw [if_pos ⟨hg, by omega, by omega⟩]; rfl
  have e2 : allWordsL s l ((m : Int) + 1) = ofLs (allW s l (m + 1)) := by unfold allWordsL; rw [if_pos ⟨hg, by omega, by omega⟩]; rfl
  obtain ⟨C, hC⟩ := allW_prefix s l m
  have e3 : ofLs (allW s l (m + 1)) = ofLs (allW s l m) ++ ofLs C := by rw [← hC]; exact List.map_append
  rw [e1, e2, e3]
  have hA : (ofLs (allW s l m)).length ≤ 60 := by unfold ofLs allW; rw [List.length_map, List.length_take]; omega
  generalize ofLs (allW s l m) = A at hA
  generalize ofLs C = B
  refine Tot.step (fun k => by rw [laws_FnAllLonger.j0]) (Tot.neg (by simp) (Tot.neg (by rw [List.length_append]; omega) ?_))
  have key : ∀ d i : Nat, i + d = A.length → Tot (fun k => laws_FnAllLonger.l0 k A (A ++ B) (i : Int)) (fun r => r = true) := by
   intro d
   induction d with
   | zero => intro i hi; exact Tot.step (h := fun _ => some true) (fun k => by rw [laws_FnAllLonger.l0, if_neg (by omega)]) (Tot.ret rfl)
   | succ d ih =>
    intro i hi
    refine Tot.step (fun k => by rw [laws_FnAllLonger.l0]) (Tot.pos (by omega) (Tot.pos (by omega) (Tot.pos (by rw [List.length_append]; omega) ?_)))
    rw [rdOf_at A i (by omega), rdOf_at (A ++ B) i (by rw [List.length_append]; omega), List.getElem_append_left (by omega), w64 (by omega) (by omega)]
    exact Tot.pos rfl (ih (i + 1) (by omega))
  exact key A.length 0 (by omega)
 exact ⟨k, h⟩
end Go.Proofs.YtiibnkibckklgaaDoor.P
