-- Joined texts of a claim (wip/tools/bundle2.py).
import Derived.Test.YtiibnkibckklgaaDoorJAllLonger1
import Derived.Test.YtiibnkibckklgaaDoorProg
namespace Go.Proofs.YtiibnkibckklgaaDoor.P
open Go.RowKit Go.Proofs.YtiibnkibckklgaaDoorW.PrintWords Go.Proofs.YtiibnkibckklgaaDoorW.PrintLast Go.Proofs.YtiibnkibckklgaaDoorW.PrintMore
attribute [local go_sem] max2_int min2_int max_two min_two max_three min_three max_four min_four
set_option linter.unusedVariables false
set_option linter.unusedSimpArgs false
def errW : Option Int → Value
 | none => .nilIface
 | some c => .iface 0 (.int .i64 c)
theorem errW_none : errW none = .nilIface := rfl
theorem errW_some (c : Int) : errW (some c) = .iface 0 (.int .i64 c) := rfl
theorem info3 : (Tryd.prog.info? 3).map (fun i => (i.zero, i.size, i.bytes)) = some (some (.int .i64 0), 1, 8) := by kernel_rfl
theorem info5 : (Tryd.prog.info? 5).map (fun i => (i.zero, i.size, i.bytes)) = some (some (.int .u8 0), 1, 1) := by kernel_rfl
theorem info9 : (Tryd.prog.info? 9).map (fun i => (i.zero, i.size, i.bytes)) = some (some (.string ⟨#[]⟩), 1, 16) := by kernel_rfl
theorem info46 : (Tryd.prog.info? 46).map (fun i => (i.zero, i.size, i.bytes)) = some (some (.agg #[(.string ⟨#[]⟩), (.string ⟨#[]⟩)]), 2, 32) := by kernel_rfl
/-! #### struct type 46 -/
structure S46 where
 f0 : ByteArray
 f1 : ByteArray
def z46 : S46 := ⟨(⟨#[]⟩ : ByteArray), (⟨#[]⟩ : ByteArray)⟩
def k46 : Kd S46 := Kd.iso (Kd.pair Kd.string Kd.string) (fun x : S46 => (x.f0, x.f1))
theorem k46_open {w : World} {x : S46} {cs : List Value} (h : k46.K w x cs) : cs = [.string x.f0, .string x.f1] := by
 obtain ⟨_, _, rfl, rfl, rfl⟩ := h
 exact rfl
theorem k46_openM {w : World} {base : Nat} {ok : Nat → Prop} {x : S46} {cs : List Value} (h : k46.M w base ok x cs) : cs = [.string x.f0, .string x.f1] := by
 obtain ⟨_, _, rfl, rfl, rfl⟩ := h
 exact rfl
theorem k46_mkM (w : World) (base : Nat) (ok : Nat → Prop) (x : S46)  : k46.M w base ok x [.string x.f0, .string x.f1] := ⟨[.string x.f0], [.string x.f1], rfl, rfl, rfl⟩
def rd_T46 (xs : List S46) (i : Int) : S46 := xs.getD i.toNat z46
theorem at_T46 {w : World} {A : Option Addr} {n : Nat} {xs : List S46} (h : Kd.C k46 w A n xs) (i : Int) (h0 : 0 ≤ i) (h1 : i < n) : ∃ ad , A = some ad ∧ w.cell? (ad.add (i.toNat * 2)) = some (.string (rd_T46 xs i).f0) ∧ w.cell? ⟨(ad.add (i.toNat * 2)).block, (ad.add (i.toNat * 2)).off + 1, none⟩ = some (.string (rd_T46 xs i).f1) := by
 obtain ⟨ad, c, e, _, hK, hc0⟩ := Kd.C_get h z46 i h0 h1
 have hc : ∀ j u, c[j]? = some u → w.cell? (ad.add (i.toNat * 2 + j)) = some u := hc0
 obtain rfl := k46_open hK
 exact ⟨ad, e, hc 0 _ rfl, by rw [← add_field _ _ 1 (by omega)]; exact hc 1 _ rfl⟩
/-! #### struct type 28, nested in itself -/
structure S28 where
 f0 : ByteArray
 f1 : Int
 f2 : (List S28)
/-! #### struct type 25 -/
structure S25 where
 f0 : ByteArray
 f1 : (List S46)
def z25 : S25 := ⟨(⟨#[]⟩ : ByteArray), ([] : List S46)⟩
/-! #### struct type 76 -/
structure S76 where
 f0 : Int
 f1 : Int
def rd_L11 (xs : List (List Bool)) (i : Int) : (List Bool) := xs.getD i.toNat ([] : List Bool)
theorem at_L11 {w : World} {A : Option Addr} {n : Nat} {xs : List (List Bool)} (h : Kd.C (Kd.slice 4 Kd.bool) w A n xs) (i : Int) (h0 : 0 ≤ i) (h1 : i < n) : ∃ ad A0 c0, A = some ad ∧ w.cell? (ad.add i.toNat) = some (.slice A0 (rd_L11 xs i).length c0) ∧ (rd_L11 xs i).length ≤ c0 ∧ Kd.bool.C w A0 (rd_L11 xs i).length (rd_L11 xs i) := by
 obtain ⟨ad, c, e, _, hK, hc0⟩ := Kd.C_get h ([] : List Bool) i h0 h1
 have hc : ∀ j u, c[j]? = some u → w.cell? (ad.add (i.toNat * 1 + j)) = some u := hc0
 obtain ⟨A0, c0, rfl, l0, g0⟩ := hK
 exact ⟨ad, A0, c0, e, by have hq := hc 0 _ rfl; rwa [Nat.mul_one, Nat.add_zero] at hq, l0, g0⟩
def rd_L12 (xs : List (List (List Bool))) (i : Int) : (List (List Bool)) := xs.getD i.toNat ([] : List (List Bool))
theorem at_L12 {w : World} {A : Option Addr} {n : Nat} {xs : List (List (List Bool))} (h : Kd.C (Kd.slice 139 (Kd.slice 4 Kd.bool)) w A n xs) (i : Int) (h0 : 0 ≤ i) (h1 : i < n) : ∃ ad A0 c0, A = some ad ∧ w.cell? (ad.add i.toNat) = some (.slice A0 (rd_L12 xs i).length c0) ∧ (rd_L12 xs i).length ≤ c0 ∧ (Kd.slice 4 Kd.bool).C w A0 (rd_L12 xs i).length (rd_L12 xs i) := by
 obtain ⟨ad, c, e, _, hK, hc0⟩ := Kd.C_get h ([] : List (List Bool)) i h0 h1
 have hc : ∀ j u, c[j]? = some u → w.cell? (ad.add (i.toNat * 1 + j)) = some u := hc0
 obtain ⟨A0, c0, rfl, l0, g0⟩ := hK
 exact ⟨ad, A0, c0, e, by have hq := hc 0 _ rfl; rwa [Nat.mul_one, Nat.add_zero] at hq, l0, g0⟩
/-! #### struct type 138 -/
structure S138 where
 f0 : ByteArray
 f1 : ByteArray
def z138 : S138 := ⟨(⟨#[]⟩ : ByteArray), (⟨#[]⟩ : ByteArray)⟩
/-! #### struct type 67 -/
structure S67 where
 f0 : Int
 f1 : Int
 f2 : ByteArray
end Go.Proofs.YtiibnkibckklgaaDoor.P
namespace Go.Proofs.YtiibnkibckklgaaDoor.P
open Go.RowKit Go.Proofs.YtiibnkibckklgaaDoorW.PrintWords Go.Proofs.YtiibnkibckklgaaDoorW.PrintLast Go.Proofs.YtiibnkibckklgaaDoorW.PrintMore
set_option linter.unusedVariables false
set_option linter.unusedSimpArgs false
section
variable {P : Program} {ops : Array Oper} {Q : Exit → Act → World → Prop} {md : Region.Mode} {S : World → Prop} {ds : List Nat} {T : Bool × List (List Nat × List Nat)} {B : List Nat} {oi : Oper} {v : Value} {fuel : Nat} {l l' : Array Bool} {a a' : Act} {w : World}
theorem pz (i t : Nat) (hT : Aside0 (rtab md ops = T)) (h : wpAnyLast P md ops Q S ds fuel l' a' w) (hi : ops[i]? = some oi := by rfl) (hN : oi.dst = some t := by rfl)
    (hl : l.setIfInBounds i true = l' := by simp only [List.setIfInBounds_toArray, List.set_cons_zero, List.set_cons_succ]; rfl) (hc : anyT T l.toList l'.toList i = true := by kernel_rfl)
    (hQ : ∀ c a w, Q (.panic c) (a.put oi.dst v) w → Q (.panic c) a w := by exact fun _ _ _ h => h)
    (hy : Yields P ops oi v a := by refine Or.inl ⟨by rfl, ?_⟩; intro w'; go_simp; with_reducible rfl)
    (ha : a.put (some t) v = a' := by simp only [Act.put, List.setIfInBounds_toArray, List.set_cons_zero, List.set_cons_succ, i64_w, i32_w]; rfl) : wpAnyLast P md ops Q S ds (fuel + 1) l a w :=
  pure_ l' hi hN (any_of hT.out hc) hQ hy ha h
theorem pk (i t : Nat) (h : wpAnyLast P md ops Q S ds fuel l' a' w) (hi : ops[i]? = some oi := by rfl) (hN : oi.dst = some t := by rfl)
    (hl : l.setIfInBounds i true = l' := by simp only [List.setIfInBounds_toArray, List.set_cons_zero, List.set_cons_succ]; rfl) (hc : anyB md ops l l' i = true := by kernel_rfl)
    (hQ : ∀ c a w, Q (.panic c) (a.put oi.dst v) w → Q (.panic c) a w := by exact fun _ _ _ h => h)
    (hy : Yields P ops oi v a := by refine Or.inl ⟨by rfl, ?_⟩; intro w'; go_simp; with_reducible rfl)
    (ha : a.put (some t) v = a' := by simp only [Act.put, List.setIfInBounds_toArray, List.set_cons_zero, List.set_cons_succ, i64_w, i32_w]; rfl) : wpAnyLast P md ops Q S ds (fuel + 1) l a w :=
  pure_ l' hi hN hc hQ hy ha h
theorem puz (i t : Nat) (hT : Aside0 (rtab md ops = T)) (h : wpAnyLast P md ops Q S ds fuel l' a' w) (hi : ops[i]? = some oi := by rfl) (hN : oi.dst = some t := by rfl)
    (hl : l.setIfInBounds i true = l' := by simp only [List.setIfInBounds_toArray, List.set_cons_zero, List.set_cons_succ]; rfl) (hc : anyT T l.toList l'.toList i = true := by kernel_rfl)
    (hQ : ∀ c a w, Q (.panic c) (a.put oi.dst undef) w → Q (.panic c) a w := by exact fun _ _ _ h => h)
    (hy : Yields P ops oi undef a := by exact Or.inr ⟨by rfl, rfl⟩)
    (ha : a.put (some t) undef = a' := by simp only [Act.put, List.setIfInBounds_toArray, List.set_cons_zero, List.set_cons_succ, i64_w, i32_w]; rfl) : wpAnyLast P md ops Q S ds (fuel + 1) l a w :=
  pure_ l' hi hN (any_of hT.out hc) hQ hy ha h
theorem puk (i t : Nat) (h : wpAnyLast P md ops Q S ds fuel l' a' w) (hi : ops[i]? = some oi := by rfl) (hN : oi.dst = some t := by rfl)
    (hl : l.setIfInBounds i true = l' := by simp only [List.setIfInBounds_toArray, List.set_cons_zero, List.set_cons_succ]; rfl) (hc : anyB md ops l l' i = true := by kernel_rfl)
    (hQ : ∀ c a w, Q (.panic c) (a.put oi.dst undef) w → Q (.panic c) a w := by exact fun _ _ _ h => h)
    (hy : Yields P ops oi undef a := by exact Or.inr ⟨by rfl, rfl⟩)
    (ha : a.put (some t) undef = a' := by simp only [Act.put, List.setIfInBounds_toArray, List.set_cons_zero, List.set_cons_succ, i64_w, i32_w]; rfl) : wpAnyLast P md ops Q S ds (fuel + 1) l a w :=
  pure_ l' hi hN hc hQ hy ha h
theorem tz (i t : Nat) (hT : Aside0 (rtab md ops = T)) (hB : Aside0 (waitsOk T.2 B = true)) (hS : S w) (h : wpAnyLast P md ops Q S ds fuel l' a' w) (hi : ops[i]? = some oi := by rfl) (hN : oi.dst = some t := by rfl)
    (hl : l.setIfInBounds i true = l' := by simp only [List.setIfInBounds_toArray, List.set_cons_zero, List.set_cons_succ]; rfl) (hc : takeW T B ds l.toList l'.toList i = true := by kernel_rfl)
    (hQ : ∀ c a w, Q (.panic c) (a.put oi.dst v) w → Q (.panic c) a w := by exact fun _ _ _ h => h)
    (hy : YieldsIf P ops S oi v a := by refine Or.inl ⟨by rfl, ?_⟩; intro w' hs; repeat (have sh := And.left hs; replace hs := And.right hs); go_simp; with_reducible rfl)
    (ha : a.put (some t) v = a' := by simp only [Act.put, List.setIfInBounds_toArray, List.set_cons_zero, List.set_cons_succ, i64_w, i32_w]; rfl) : wpAnyLast P md ops Q S ds (fuel + 1) l a w :=
  take_ l' hi hN (take_ofW hT.out hB.out hc) hQ hy hS ha h
theorem tk (i t : Nat) (hS : S w) (h : wpAnyLast P md ops Q S ds fuel l' a' w) (hi : ops[i]? = some oi := by rfl) (hN : oi.dst = some t := by rfl)
    (hl : l.setIfInBounds i true = l' := by simp only [List.setIfInBounds_toArray, List.set_cons_zero, List.set_cons_succ]; rfl) (hc : takeB md ops ds l l' i = true := by kernel_rfl)
    (hQ : ∀ c a w, Q (.panic c) (a.put oi.dst v) w → Q (.panic c) a w := by exact fun _ _ _ h => h)
    (hy : YieldsIf P ops S oi v a := by refine Or.inl ⟨by rfl, ?_⟩; intro w' hs; repeat (have sh := And.left hs; replace hs := And.right hs); go_simp; with_reducible rfl)
    (ha : a.put (some t) v = a' := by simp only [Act.put, List.setIfInBounds_toArray, List.set_cons_zero, List.set_cons_succ, i64_w, i32_w]; rfl) : wpAnyLast P md ops Q S ds (fuel + 1) l a w :=
  take_ l' hi hN hc hQ hy hS ha h
theorem oz (i : Nat) (N : Option Tmp) (hT : Aside0 (rtab md ops = T)) (h : ∀ K : Act → World → Prop, Shut (∀ a' w', S w' → (S w' → wpAnyLast P md ops Q S ds fuel l' a' w') → K a' w') → if Region.wanted oi (yielded ops a.tmps) = true then Oper.wp P oi a w K Q else K (a.put N undef) w)
    (hi : ops[i]? = some oi := by rfl) (hN : oi.dst = N := by rfl)
    (hl : l.setIfInBounds i true = l' := by simp only [List.setIfInBounds_toArray, List.set_cons_zero, List.set_cons_succ]; rfl) (hc : (readyT T.2 l.toList == [i] && l.toList.set i true == l'.toList) = true := by kernel_rfl) (hd : i ∉ ds := by decide) : wpAnyLast P md ops Q S ds (fuel + 1) l a w :=
  one_ l' hi hN (one_of hT.out hc) hd h
theorem ok_ (i : Nat) (N : Option Tmp) (h : ∀ K : Act → World → Prop, Shut (∀ a' w', S w' → (S w' → wpAnyLast P md ops Q S ds fuel l' a' w') → K a' w') → if Region.wanted oi (yielded ops a.tmps) = true then Oper.wp P oi a w K Q else K (a.put N undef) w)
    (hi : ops[i]? = some oi := by rfl) (hN : oi.dst = N := by rfl)
    (hl : l.setIfInBounds i true = l' := by simp only [List.setIfInBounds_toArray, List.set_cons_zero, List.set_cons_succ]; rfl) (hc : readyB md ops l l' i = true := by kernel_rfl) (hd : i ∉ ds := by decide) : wpAnyLast P md ops Q S ds (fuel + 1) l a w :=
  one_ l' hi hN hc hd h
theorem twz {oj : Oper} {li lj : Array Bool} (i j : Nat) (Ni Nj : Option Tmp) (hT : Aside0 (rtab md ops = T)) (h1 : ∀ K : Act → World → Prop, Shut (∀ a' w', S w' → (S w' → wpAnyLast P md ops Q S ds fuel li a' w') → K a' w') → if Region.wanted oi (yielded ops a.tmps) = true then Oper.wp P oi a w K Q else K (a.put Ni undef) w) (h2 : ∀ K : Act → World → Prop, Shut (∀ a' w', S w' → (S w' → wpAnyLast P md ops Q S ds fuel lj a' w') → K a' w') → if Region.wanted oj (yielded ops a.tmps) = true then Oper.wp P oj a w K Q else K (a.put Nj undef) w)
    (hi : ops[i]? = some oi := by rfl) (hj : ops[j]? = some oj := by rfl) (hNi : oi.dst = Ni := by rfl) (hNj : oj.dst = Nj := by rfl)
    (hl : l.setIfInBounds i true = li := by simp only [List.setIfInBounds_toArray, List.set_cons_zero, List.set_cons_succ]; rfl) (hm : l.setIfInBounds j true = lj := by simp only [List.setIfInBounds_toArray, List.set_cons_zero, List.set_cons_succ]; rfl) (hc : (readyT T.2 l.toList == [i, j] && l.toList.set i true == li.toList && l.toList.set j true == lj.toList) = true := by kernel_rfl) (hdi : i ∉ ds := by decide) (hdj : j ∉ ds := by decide) : wpAnyLast P md ops Q S ds (fuel + 1) l a w :=
  two_ li lj hi hj hNi hNj (two_of hT.out hc) hdi hdj h1 h2
theorem dz {n : Nat} (hT : Aside0 (rtab md ops = T)) (h : Q .normal a w) (hc : (readyT T.2 l.toList == []) = true := by kernel_rfl) : wpAnyLast P md ops Q S ds n l a w := done_ (done_of hT.out hc) h
end
theorem rn1 {A0 G : Prop} (a0 : A0) (h : Aside0 A0 → G) : G := h ⟨a0⟩
theorem rn2 {A0 A1 G : Prop} (a0 : A0) (a1 : A1) (h : Aside0 A0 → Aside0 A1 → G) : G := h ⟨a0⟩ ⟨a1⟩
theorem rn3 {A0 A1 A2 G : Prop} (a0 : A0) (a1 : A1) (a2 : A2) (h : Aside0 A0 → Aside0 A1 → Aside0 A2 → G) : G := h ⟨a0⟩ ⟨a1⟩ ⟨a2⟩
theorem rn4 {A0 A1 A2 A3 G : Prop} (a0 : A0) (a1 : A1) (a2 : A2) (a3 : A3) (h : Aside0 A0 → Aside0 A1 → Aside0 A2 → Aside0 A3 → G) : G := h ⟨a0⟩ ⟨a1⟩ ⟨a2⟩ ⟨a3⟩
theorem rn5 {A0 A1 A2 A3 A4 G : Prop} (a0 : A0) (a1 : A1) (a2 : A2) (a3 : A3) (a4 : A4) (h : Aside0 A0 → Aside0 A1 → Aside0 A2 → Aside0 A3 → Aside0 A4 → G) : G := h ⟨a0⟩ ⟨a1⟩ ⟨a2⟩ ⟨a3⟩ ⟨a4⟩
theorem rn6 {A0 A1 A2 A3 A4 A5 G : Prop} (a0 : A0) (a1 : A1) (a2 : A2) (a3 : A3) (a4 : A4) (a5 : A5) (h : Aside0 A0 → Aside0 A1 → Aside0 A2 → Aside0 A3 → Aside0 A4 → Aside0 A5 → G) : G := h ⟨a0⟩ ⟨a1⟩ ⟨a2⟩ ⟨a3⟩ ⟨a4⟩ ⟨a5⟩
theorem rn7 {A0 A1 A2 A3 A4 A5 A6 G : Prop} (a0 : A0) (a1 : A1) (a2 : A2) (a3 : A3) (a4 : A4) (a5 : A5) (a6 : A6) (h : Aside0 A0 → Aside0 A1 → Aside0 A2 → Aside0 A3 → Aside0 A4 → Aside0 A5 → Aside0 A6 → G) : G := h ⟨a0⟩ ⟨a1⟩ ⟨a2⟩ ⟨a3⟩ ⟨a4⟩ ⟨a5⟩ ⟨a6⟩
theorem rn8 {A0 A1 A2 A3 A4 A5 A6 A7 G : Prop} (a0 : A0) (a1 : A1) (a2 : A2) (a3 : A3) (a4 : A4) (a5 : A5) (a6 : A6) (a7 : A7) (h : Aside0 A0 → Aside0 A1 → Aside0 A2 → Aside0 A3 → Aside0 A4 → Aside0 A5 → Aside0 A6 → Aside0 A7 → G) : G := h ⟨a0⟩ ⟨a1⟩ ⟨a2⟩ ⟨a3⟩ ⟨a4⟩ ⟨a5⟩ ⟨a6⟩ ⟨a7⟩
theorem rn9 {A0 A1 A2 A3 A4 A5 A6 A7 A8 G : Prop} (a0 : A0) (a1 : A1) (a2 : A2) (a3 : A3) (a4 : A4) (a5 : A5) (a6 : A6) (a7 : A7) (a8 : A8) (h : Aside0 A0 → Aside0 A1 → Aside0 A2 → Aside0 A3 → Aside0 A4 → Aside0 A5 → Aside0 A6 → Aside0 A7 → Aside0 A8 → G) : G := h ⟨a0⟩ ⟨a1⟩ ⟨a2⟩ ⟨a3⟩ ⟨a4⟩ ⟨a5⟩ ⟨a6⟩ ⟨a7⟩ ⟨a8⟩
theorem rn11 {A0 A1 A2 A3 A4 A5 A6 A7 A8 A9 A10 G : Prop} (a0 : A0) (a1 : A1) (a2 : A2) (a3 : A3) (a4 : A4) (a5 : A5) (a6 : A6) (a7 : A7) (a8 : A8) (a9 : A9) (a10 : A10) (h : Aside0 A0 → Aside0 A1 → Aside0 A2 → Aside0 A3 → Aside0 A4 → Aside0 A5 → Aside0 A6 → Aside0 A7 → Aside0 A8 → Aside0 A9 → Aside0 A10 → G) : G := h ⟨a0⟩ ⟨a1⟩ ⟨a2⟩ ⟨a3⟩ ⟨a4⟩ ⟨a5⟩ ⟨a6⟩ ⟨a7⟩ ⟨a8⟩ ⟨a9⟩ ⟨a10⟩
theorem rn12 {A0 A1 A2 A3 A4 A5 A6 A7 A8 A9 A10 A11 G : Prop} (a0 : A0) (a1 : A1) (a2 : A2) (a3 : A3) (a4 : A4) (a5 : A5) (a6 : A6) (a7 : A7) (a8 : A8) (a9 : A9) (a10 : A10) (a11 : A11) (h : Aside0 A0 → Aside0 A1 → Aside0 A2 → Aside0 A3 → Aside0 A4 → Aside0 A5 → Aside0 A6 → Aside0 A7 → Aside0 A8 → Aside0 A9 → Aside0 A10 → Aside0 A11 → G) : G := h ⟨a0⟩ ⟨a1⟩ ⟨a2⟩ ⟨a3⟩ ⟨a4⟩ ⟨a5⟩ ⟨a6⟩ ⟨a7⟩ ⟨a8⟩ ⟨a9⟩ ⟨a10⟩ ⟨a11⟩
theorem rn14 {A0 A1 A2 A3 A4 A5 A6 A7 A8 A9 A10 A11 A12 A13 G : Prop} (a0 : A0) (a1 : A1) (a2 : A2) (a3 : A3) (a4 : A4) (a5 : A5) (a6 : A6) (a7 : A7) (a8 : A8) (a9 : A9) (a10 : A10) (a11 : A11) (a12 : A12) (a13 : A13) (h : Aside0 A0 → Aside0 A1 → Aside0 A2 → Aside0 A3 → Aside0 A4 → Aside0 A5 → Aside0 A6 → Aside0 A7 → Aside0 A8 → Aside0 A9 → Aside0 A10 → Aside0 A11 → Aside0 A12 → Aside0 A13 → G) : G := h ⟨a0⟩ ⟨a1⟩ ⟨a2⟩ ⟨a3⟩ ⟨a4⟩ ⟨a5⟩ ⟨a6⟩ ⟨a7⟩ ⟨a8⟩ ⟨a9⟩ ⟨a10⟩ ⟨a11⟩ ⟨a12⟩ ⟨a13⟩
theorem rn15 {A0 A1 A2 A3 A4 A5 A6 A7 A8 A9 A10 A11 A12 A13 A14 G : Prop} (a0 : A0) (a1 : A1) (a2 : A2) (a3 : A3) (a4 : A4) (a5 : A5) (a6 : A6) (a7 : A7) (a8 : A8) (a9 : A9) (a10 : A10) (a11 : A11) (a12 : A12) (a13 : A13) (a14 : A14) (h : Aside0 A0 → Aside0 A1 → Aside0 A2 → Aside0 A3 → Aside0 A4 → Aside0 A5 → Aside0 A6 → Aside0 A7 → Aside0 A8 → Aside0 A9 → Aside0 A10 → Aside0 A11 → Aside0 A12 → Aside0 A13 → Aside0 A14 → G) : G := h ⟨a0⟩ ⟨a1⟩ ⟨a2⟩ ⟨a3⟩ ⟨a4⟩ ⟨a5⟩ ⟨a6⟩ ⟨a7⟩ ⟨a8⟩ ⟨a9⟩ ⟨a10⟩ ⟨a11⟩ ⟨a12⟩ ⟨a13⟩ ⟨a14⟩
theorem rn17 {A0 A1 A2 A3 A4 A5 A6 A7 A8 A9 A10 A11 A12 A13 A14 A15 A16 G : Prop} (a0 : A0) (a1 : A1) (a2 : A2) (a3 : A3) (a4 : A4) (a5 : A5) (a6 : A6) (a7 : A7) (a8 : A8) (a9 : A9) (a10 : A10) (a11 : A11) (a12 : A12) (a13 : A13) (a14 : A14) (a15 : A15) (a16 : A16) (h : Aside0 A0 → Aside0 A1 → Aside0 A2 → Aside0 A3 → Aside0 A4 → Aside0 A5 → Aside0 A6 → Aside0 A7 → Aside0 A8 → Aside0 A9 → Aside0 A10 → Aside0 A11 → Aside0 A12 → Aside0 A13 → Aside0 A14 → Aside0 A15 → Aside0 A16 → G) : G := h ⟨a0⟩ ⟨a1⟩ ⟨a2⟩ ⟨a3⟩ ⟨a4⟩ ⟨a5⟩ ⟨a6⟩ ⟨a7⟩ ⟨a8⟩ ⟨a9⟩ ⟨a10⟩ ⟨a11⟩ ⟨a12⟩ ⟨a13⟩ ⟨a14⟩ ⟨a15⟩ ⟨a16⟩
end Go.Proofs.YtiibnkibckklgaaDoor.P
namespace Go.Proofs.YtiibnkibckklgaaDoor.P
open Go.RowKit Go.Proofs.YtiibnkibckklgaaDoorW.PrintWords Go.Proofs.YtiibnkibckklgaaDoorW.PrintLast Go.Proofs.YtiibnkibckklgaaDoorW.PrintMore
attribute [local go_sem] max2_int min2_int max_two min_two max_three min_three max_four min_four
set_option linter.unusedVariables false
set_option linter.unusedSimpArgs false
theorem eqA46 (d : Nat) (w : World) (x0 y0 : ByteArray) (x1 y1 : ByteArray) :
  (Op.equalIn (d + 2) 46 (.agg #[.string x0, .string x1]) (.agg #[.string y0, .string y1])).run Tryd.prog w = .ok (x0.toList == y0.toList && (x1.toList == y1.toList)) w := by
 refine eqA_of Tryd.underlying46 (by kernel_rfl) ?_
 refine eqf_cons (by rfl) (by go_simp; rfl) (by go_simp; rfl) (by go_simp) ?_
 exact eqf_last (by rfl) (by go_simp; rfl) (by go_simp; rfl) (by go_simp)
end Go.Proofs.YtiibnkibckklgaaDoor.P
namespace Go.Proofs.YtiibnkibckklgaaDoor.P
open Go.RowKit Go.Proofs.YtiibnkibckklgaaDoorW.PrintWords Go.Proofs.YtiibnkibckklgaaDoorW.PrintLast Go.Proofs.YtiibnkibckklgaaDoorW.PrintMore
attribute [local go_sem] max2_int min2_int max_two min_two max_three min_three max_four min_four
set_option linter.unusedVariables false
set_option linter.unusedSimpArgs false
attribute [local go_sem high] eqA46
/-! ### spec_l1Place: function 76 -/
def spec_l1Place.l0 : Nat → List (S46) → Int → ByteArray → ByteArray → Option (Int)
 | 0, _, _, _, _ => none
 | k + 1, x0, x5, x102000, x102001 => if x5 < (x0.length : Int) then (if 0 ≤ x5 then (if ((((rd_T46 x0 x5).f0).toList) == x102000.toList && ((((rd_T46 x0 x5).f1).toList) == x102001.toList)) = true then (some x5) else (spec_l1Place.l0 k x0 (wrap64 (x5 + 1)) x102000 x102001)) else (none)) else (some (-1))
def spec_l1Place.f (k : Nat) (l0 : List (S46)) (a1_0 : ByteArray) (a1_1 : ByteArray) : Option (Int) := spec_l1Place.l0 k l0 0 a1_0 a1_1
theorem spec_l1Place.mono_l : ∀ k, (∀ y0 y1 y2 y3, LeO (spec_l1Place.l0 k y0 y1 y2 y3) (spec_l1Place.l0 (k + 1) y0 y1 y2 y3))
 | 0 => fun _ _ _ _ r h => by simp [spec_l1Place.l0] at h
 | k + 1 => by
  have ih0 := spec_l1Place.mono_l k
  intro y0 y1 y2 y3
  unfold spec_l1Place.l0
  repeat' first
  | (with_reducible exact ih0 _ _ _ _)
  | (with_reducible exact LeO.refl _)
  | (with_reducible exact LeO.none _)
  | (with_reducible refine LeO.ite ?_ ?_)
  | (with_reducible refine LeO.bind ?_ (fun _ => ?_))
  | exact ih0 _ _ _ _
  | exact LeO.none _
  | refine LeO.ite ?_ ?_
  | refine LeO.bind ?_ (fun _ => ?_)
theorem spec_l1Place.mono : ∀ a0 a1 a2 k, LeO (spec_l1Place.f k a0 a1 a2) (spec_l1Place.f (k + 1) a0 a1 a2) := by
 intro a0 a1 a2 k
 have ih0 := spec_l1Place.mono_l k
 unfold spec_l1Place.f
 repeat' first
   | (with_reducible exact ih0 _ _ _ _)
   | (with_reducible exact LeO.refl _)
   | (with_reducible exact LeO.none _)
   | (with_reducible refine LeO.ite ?_ ?_)
   | (with_reducible refine LeO.bind ?_ (fun _ => ?_))
   | exact ih0 _ _ _ _
   | exact LeO.none _
   | refine LeO.ite ?_ ?_
   | refine LeO.bind ?_ (fun _ => ?_)
set_option maxHeartbeats 8000000 in
set_option maxRecDepth 100000 in
theorem spec_l1Place.calls (k : Nat) (A0 : Option Addr) (c0 : Nat) (l0 : List (S46)) (a1_0 : ByteArray) (a1_1 : ByteArray) (r : Int) (w : World) (hr0 : Kd.C k46 w A0 l0.length l0) (hc0 : l0.length ≤ c0) (h : spec_l1Place.f k l0 a1_0 a1_1 = some r) :
  Calls Tryd.prog 76 #[.slice A0 l0.length c0, .agg #[.string a1_0, .string a1_1]] w fun e w' => e = .returned (.int .i64 r) ∧ Below w.heap.size w w' := by
 have hu46 := Tryd.underlying46
 have HR0 := Aside0.mk hr0
 have HC0 := Aside0.mk hc0
 clear hr0 hc0
 have HB := Aside0.mk (Below.refl w.heap.size w)
 have H : (spec_l1Place.l0 k l0 0 a1_0 a1_1) = some r := h
 clear h
 have H' := Aside0.mk H
 clear H
 go_enter Tryd.func76, Tryd.ntmps76
 go_wp2_with (first | ((with_reducible refine gate_dst (N := 3) rfl ?_); refine box_event ?hg (N := 3) ?hd (cs := #[.string a1_0, .string a1_1]) (t := 46) ?hr ?_; (case hd => rfl); (case hg => rfl); (case hr => first | (go_simp; done) | (go_simp; rfl)); intro gb101 hg w3 hbox hb; refine rn4 (below_step (by repeat (first | (with_reducible first | exact HB.out | apply below_alloc | apply pw_below_drewN | apply below_drew1) | exact HB.out)) hb) (hbox) ((by rw [hg]; exact (below_size (by repeat (first | (with_reducible first | exact HB.out | apply below_alloc | apply pw_below_drewN | apply below_drew1) | exact HB.out))) : w.heap.size ≤ gb101)) ((by rw [hg]; exact (below_size (by repeat (first | (with_reducible first | exact HB.out | apply below_alloc | apply pw_below_drewN | apply below_drew1) | exact HB.out))) : w.heap.size ≤ gb101)) ?_; clear HB; intro HB BK101 GW101 GE101; clear hb hbox hg))
 repeat (go_quiet (first | ((with_reducible refine gate_dst (N := 3) rfl ?_); refine box_event ?hg (N := 3) ?hd (cs := #[.string a1_0, .string a1_1]) (t := 46) ?hr ?_; (case hd => rfl); (case hg => rfl); (case hr => first | (go_simp; done) | (go_simp; rfl)); intro gb101 hg w3 hbox hb; refine rn4 (below_step (by repeat (first | (with_reducible first | exact HB.out | apply below_alloc | apply pw_below_drewN | apply below_drew1) | exact HB.out)) hb) (hbox) ((by rw [hg]; exact (below_size (by repeat (first | (with_reducible first | exact HB.out | apply below_alloc | apply pw_below_drewN | apply below_drew1) | exact HB.out))) : w.heap.size ≤ gb101)) ((by rw [hg]; exact (below_size (by repeat (first | (with_reducible first | exact HB.out | apply below_alloc | apply pw_below_drewN | apply below_drew1) | exact HB.out))) : w.heap.size ≤ gb101)) ?_; clear HB; intro HB BK101 GW101 GE101; clear hb hbox hg)); try go_wp2_with (first | ((with_reducible refine gate_dst (N := 3) rfl ?_); refine box_event ?hg (N := 3) ?hd (cs := #[.string a1_0, .string a1_1]) (t := 46) ?hr ?_; (case hd => rfl); (case hg => rfl); (case hr => first | (go_simp; done) | (go_simp; rfl)); intro gb101 hg w3 hbox hb; refine rn4 (below_step (by repeat (first | (with_reducible first | exact HB.out | apply below_alloc | apply pw_below_drewN | apply below_drew1) | exact HB.out)) hb) (hbox) ((by rw [hg]; exact (below_size (by repeat (first | (with_reducible first | exact HB.out | apply below_alloc | apply pw_below_drewN | apply below_drew1) | exact HB.out))) : w.heap.size ≤ gb101)) ((by rw [hg]; exact (below_size (by repeat (first | (with_reducible first | exact HB.out | apply below_alloc | apply pw_below_drewN | apply below_drew1) | exact HB.out))) : w.heap.size ≤ gb101)) ?_; clear HB; intro HB BK101 GW101 GE101; clear hb hbox hg)))
 go_loopg [5] k (fun kq v5 w' => ∃ (x5_1 : Int), v5 = .int .i64 x5_1 ∧ Aside0 (spec_l1Place.l0 kq l0 x5_1 a1_0 a1_1 = some r) ∧ Aside0 (kq ≤ k) ∧ Aside0 (w'.heap[gb101]? = some (.cells #[.string a1_0, .string a1_1] 46 (0, 0))) ∧ Aside0 (Below w.heap.size w w'))
 case atStart => exact ⟨(0), (by first | rfl | (simp; done) | (simp [*]; done)), H', ⟨Nat.le_refl _⟩, ⟨by (with_reducible repeat (first | refine blk_drewN ?_ _ | refine blk_drew ?_ | refine blk_alloc ?_ _)); exact BK101.out⟩, ⟨by repeat (first | (with_reducible first | exact HB.out | apply below_alloc | apply pw_below_drewN | apply below_drew1 | refine below_set ?_ GE101.out) | exact HB.out)⟩⟩
 case round =>
  clear H'
  try clear p2
  obtain ⟨x5_1, rfl, HA, HK1, BK101, HB⟩ := hrel
  cases gk with
  | zero => exact absurd HA.out (by simp [spec_l1Place.l0])
  | succ k1 =>
   have H := HA.out
   clear HA
   simp only [spec_l1Place.l0] at H
   by_cases c4 : x5_1 < (l0.length : Int)
   rotate_left
   ·rw [if_neg c4] at H
    have c4b0 : decide (x5_1 < (l0.length : Int)) = false := decide_eq_false c4
    clear c4
    obtain rfl := Option.some.inj H
    go_wp2
    repeat (go_quiet (fail); try go_wp2)
    go_ret
    exact ⟨by first | rfl | (simp [errW_none, errW_some] <;> rfl) | (simp [*, errW_none, errW_some] <;> rfl), by repeat (first | (with_reducible first | exact HB.out | apply below_alloc | apply pw_below_drewN | apply below_drew1 | refine below_set ?_ GE101.out) | exact HB.out)⟩
   rw [if_pos c4] at H
   have c4b0 : decide (x5_1 < (l0.length : Int)) = true := decide_eq_true c4
   clear c4
   by_cases c5 : 0 ≤ x5_1
   rotate_left
   ·rw [if_neg c5] at H
    exact absurd H (by simp)
   rw [if_pos c5] at H
   have c5b0 : decide (0 ≤ x5_1) = true := decide_eq_true c5
   clear c5
   by_cases c6 : ((((rd_T46 l0 x5_1).f0).toList) == a1_0.toList && ((((rd_T46 l0 x5_1).f1).toList) == a1_1.toList)) = true
   ·rw [if_pos c6] at H
    have c6b0 : ((((rd_T46 l0 x5_1).f0).toList) == a1_0.toList && ((((rd_T46 l0 x5_1).f1).toList) == a1_1.toList)) = true := c6
    (try (have c6b1 : decide ((((rd_T46 l0 x5_1).f0).toList) = a1_0.toList && ((((rd_T46 l0 x5_1).f1).toList) == a1_1.toList)) = true := by simpa using c6))
    (try (have c6b2 : ((((rd_T46 l0 x5_1).f0).toList) == a1_0.toList && ((((rd_T46 l0 x5_1).f1).toList) == a1_1.toList)) = true := by simpa using c6))
    clear c6
    obtain rfl := Option.some.inj H
    have p102 : 0 ≤ (x5_1 : Int) := of_decide_eq_true (by first | (with_reducible assumption) | assumption)
    have q102 : x5_1 < (l0.length : Int) := of_decide_eq_true (by first | (with_reducible assumption) | assumption)
    obtain ⟨ad102, e102, hx102_0, hx102_1⟩ := at_T46 HR0.out x5_1 p102 q102
    cases e102
    replace hx102_0 := (HB.out.cell (World.block_lt_of_cell? w _ hx102_0)).trans hx102_0
    replace hx102_1 := (HB.out.cell (World.block_lt_of_cell? w _ hx102_1)).trans hx102_1
    replace p102 := eq_true p102
    replace q102 := eq_true q102
    have hcz7_0 : wr.cell? ⟨gb101, 0, none⟩ = some (.string a1_0) := (blk_cell BK101.out 0).trans rfl
    have hcz7_1 : wr.cell? ⟨gb101, 1, none⟩ = some (.string a1_1) := (blk_cell BK101.out 1).trans rfl
    have hfz7_0 := blk_frozen BK101.out 0
    have hfz7_1 := blk_frozen BK101.out 1
    go_wp2
    repeat (go_quiet (fail); try go_wp2)
    go_ret
    exact ⟨by first | rfl | (simp [errW_none, errW_some] <;> rfl) | (simp [*, errW_none, errW_some] <;> rfl), by repeat (first | (with_reducible first | exact HB.out | apply below_alloc | apply pw_below_drewN | apply below_drew1 | refine below_set ?_ GE101.out) | exact HB.out)⟩
   rw [if_neg c6] at H
   have c6b0 : ((((rd_T46 l0 x5_1).f0).toList) == a1_0.toList && ((((rd_T46 l0 x5_1).f1).toList) == a1_1.toList)) = false := by simpa using c6
   (try (have c6b1 : decide ((((rd_T46 l0 x5_1).f0).toList) = a1_0.toList && ((((rd_T46 l0 x5_1).f1).toList) == a1_1.toList)) = false := by simpa using c6))
   (try (have c6b2 : ((((rd_T46 l0 x5_1).f0).toList) == a1_0.toList && ((((rd_T46 l0 x5_1).f1).toList) == a1_1.toList)) = false := by simpa using c6))
   (try (have c6b3 : ¬ ((((rd_T46 l0 x5_1).f0).toList) = a1_0.toList && ((((rd_T46 l0 x5_1).f1).toList) == a1_1.toList)) := by simpa using c6))
   clear c6
   have H' := Aside0.mk H
   clear H
   have p102 : 0 ≤ (x5_1 : Int) := of_decide_eq_true (by first | (with_reducible assumption) | assumption)
   have q102 : x5_1 < (l0.length : Int) := of_decide_eq_true (by first | (with_reducible assumption) | assumption)
   obtain ⟨ad102, e102, hx102_0, hx102_1⟩ := at_T46 HR0.out x5_1 p102 q102
   cases e102
   replace hx102_0 := (HB.out.cell (World.block_lt_of_cell? w _ hx102_0)).trans hx102_0
   replace hx102_1 := (HB.out.cell (World.block_lt_of_cell? w _ hx102_1)).trans hx102_1
   replace p102 := eq_true p102
   replace q102 := eq_true q102
   have hcz8_0 : wr.cell? ⟨gb101, 0, none⟩ = some (.string a1_0) := (blk_cell BK101.out 0).trans rfl
   have hcz8_1 : wr.cell? ⟨gb101, 1, none⟩ = some (.string a1_1) := (blk_cell BK101.out 1).trans rfl
   have hfz8_0 := blk_frozen BK101.out 0
   have hfz8_1 := blk_frozen BK101.out 1
   go_wp2
   repeat (go_quiet (fail); try go_wp2)
   go_roundg k1
   case measure => have := HK1.out; omega
   case rel => exact ⟨(wrap64 (x5_1 + 1)), (by first | rfl | (simp; done) | (simp [*]; done)), H', ⟨by have := HK1.out; omega⟩, ⟨by (with_reducible repeat (first | refine blk_drewN ?_ _ | refine blk_drew ?_ | refine blk_alloc ?_ _)); exact BK101.out⟩, ⟨by repeat (first | (with_reducible first | exact HB.out | apply below_alloc | apply pw_below_drewN | apply below_drew1 | refine below_set ?_ GE101.out) | exact HB.out)⟩⟩
end Go.Proofs.YtiibnkibckklgaaDoor.P
namespace Go.Proofs.YtiibnkibckklgaaDoor.P
open Go.RowKit Go.Proofs.YtiibnkibckklgaaDoorW.PrintWords Go.Proofs.YtiibnkibckklgaaDoorW.PrintLast Go.Proofs.YtiibnkibckklgaaDoorW.PrintMore
attribute [local go_sem] max2_int min2_int max_two min_two max_three min_three max_four min_four
set_option linter.unusedVariables false
set_option linter.unusedSimpArgs false
/-! ### spec_l1Big: function 120 -/
def spec_l1Big.f (a0 : Int) : Option (Bool) := if a0 ≥ 65 then (some (decide (a0 ≤ 69))) else (some false)
set_option maxHeartbeats 8000000 in
set_option maxRecDepth 100000 in
theorem spec_l1Big.calls (a0 : Int) (r : Bool) (w : World) (h : spec_l1Big.f a0 = some r) :
  Calls Tryd.prog 120 #[.int .u8 a0] w fun e w' => e = .returned (.bool r) ∧ Drawn0 w w' := by
 have H : (if a0 ≥ 65 then (some (decide (a0 ≤ 69))) else (some false)) = some r := h
 clear h
 by_cases c2 : a0 ≥ 65
 ·rw [if_pos c2] at H
  have c2b0 : decide (65 ≤ a0) = true := decide_eq_true c2
  clear c2
  obtain rfl := Option.some.inj H
  go_enter Tryd.func120, Tryd.ntmps120
  go_wp2
  go_ret
  exact ⟨by first | rfl | (simp; done) | (simp [*]; done), by repeat (first | exact Drawn0.refl _ | apply Drawn0.step)⟩
 rw [if_neg c2] at H
 have c2b0 : decide (65 ≤ a0) = false := decide_eq_false c2
 clear c2
 obtain rfl := Option.some.inj H
 go_enter Tryd.func120, Tryd.ntmps120
 go_wp2
 go_ret
 exact ⟨by first | rfl | (simp; done) | (simp [*]; done), by repeat (first | exact Drawn0.refl _ | apply Drawn0.step)⟩
/-! ### spec_SignBig: function 74 -/
def spec_SignBig.f (a0 : ByteArray) : Option (Bool) := if (a0.size : Int) = 1 then (if 0 < (a0.size : Int) then ((spec_l1Big.f (bt a0 0)).bind fun t101 => (some t101)) else (none)) else (some false)
set_option maxHeartbeats 8000000 in
set_option maxRecDepth 100000 in
theorem spec_SignBig.calls (a0 : ByteArray) (r : Bool) (w : World) (h : spec_SignBig.f a0 = some r) :
  Calls Tryd.prog 74 #[.string a0] w fun e w' => e = .returned (.bool r) ∧ Drawn0 w w' := by
 have H : (if (a0.size : Int) = 1 then (if 0 < (a0.size : Int) then ((spec_l1Big.f (bt a0 0)).bind fun t101 => (some t101)) else (none)) else (some false)) = some r := h
 clear h
 by_cases c2 : (a0.size : Int) = 1
 rotate_left
 ·rw [if_neg c2] at H
  have c2b0 : ((a0.size : Int) == 1) = false := beq_eq_false_iff_ne.mpr c2
  have c2b1 : ((a0.size : Int) != 1) = true := bne_iff_ne.mpr c2
  obtain rfl := Option.some.inj H
  go_enter Tryd.func74, Tryd.ntmps74
  go_wp2
  go_ret
  exact ⟨by first | rfl | (simp; done) | (simp [*]; done), by repeat (first | exact Drawn0.refl _ | apply Drawn0.step)⟩
 rw [if_pos c2] at H
 have c2b0 : ((a0.size : Int) == 1) = true := beq_iff_eq.mpr c2
 have c2b1 : ((a0.size : Int) != 1) = false := bne_eq_false_iff_eq.mpr c2
 clear c2
 by_cases c3 : 0 < (a0.size : Int)
 rotate_left
 ·rw [if_neg c3] at H
  exact absurd H (by simp)
 rw [if_pos c3] at H
 have c3b0 : decide (0 < (a0.size : Int)) = true := decide_eq_true c3
 have c3b1 : decide (0 < a0.size) = true := decide_eq_true (by omega)
 clear c3
 replace H := Option.bind_eq_some_iff.mp H
 obtain ⟨t101, A50, H⟩ := H
 replace H : (some t101) = some r := H
 have A5 := Aside0.mk A50
 clear A50
 obtain rfl := Option.some.inj H
 have p4 : 0 ≤ (0 : Int) := (by omega)
 have q4 : 0 < a0.size := (by have : (0 : Int) < (a0.size : Int) := of_decide_eq_true (by first | (with_reducible assumption) | assumption); omega)
 have hx4 : ∀ h : 0 < a0.size, ((a0[0]'h).toNat : Int) = bt a0 0 := bt_at a0 0
 clear p4
 have qi4 : (0 < (a0.size : Int)) = True := eq_true (of_decide_eq_true (by first | (with_reducible assumption) | assumption))
 replace q4 := eq_true q4
 go_enter Tryd.func74, Tryd.ntmps74
 go_wp2_with (first | (go_at_call 120; (with_reducible refine (spec_l1Big.calls (bt a0 0) t101 _ A5.out).mono ?_); rintro e w' ⟨rfl, ⟨nd, rfl⟩⟩))
 go_ret
 exact ⟨by first | rfl | (simp; done) | (simp [*]; done), by repeat (first | exact Drawn0.refl _ | apply Drawn0.step)⟩
/-! ### spec_l1Small: function 108 -/
def spec_l1Small.f (a0 : Int) : Option (Bool) := if a0 ≥ 97 then (some (decide (a0 ≤ 100))) else (some false)
set_option maxHeartbeats 8000000 in
set_option maxRecDepth 100000 in
theorem spec_l1Small.calls (a0 : Int) (r : Bool) (w : World) (h : spec_l1Small.f a0 = some r) :
  Calls Tryd.prog 108 #[.int .u8 a0] w fun e w' => e = .returned (.bool r) ∧ Drawn0 w w' := by
 have H : (if a0 ≥ 97 then (some (decide (a0 ≤ 100))) else (some false)) = some r := h
 clear h
 by_cases c2 : a0 ≥ 97
 ·rw [if_pos c2] at H
  have c2b0 : decide (97 ≤ a0) = true := decide_eq_true c2
  clear c2
  obtain rfl := Option.some.inj H
  go_enter Tryd.func108, Tryd.ntmps108
  go_wp2
  go_ret
  exact ⟨by first | rfl | (simp; done) | (simp [*]; done), by repeat (first | exact Drawn0.refl _ | apply Drawn0.step)⟩
 rw [if_neg c2] at H
 have c2b0 : decide (97 ≤ a0) = false := decide_eq_false c2
 clear c2
 obtain rfl := Option.some.inj H
 go_enter Tryd.func108, Tryd.ntmps108
 go_wp2
 go_ret
 exact ⟨by first | rfl | (simp; done) | (simp [*]; done), by repeat (first | exact Drawn0.refl _ | apply Drawn0.step)⟩
/-! ### spec_l1Right: function 75 -/
def spec_l1Right.l0 : Nat → ByteArray → Int → Int → Option (Bool)
 | 0, _, _, _ => none
 | k + 1, x0, x1, x5 => if x5 < (x0.size : Int) then (if 0 ≤ x5 then ((spec_l1Big.f (bt x0 x5)).bind fun t101 => (if t101 = true then (spec_l1Right.l0 k x0 x1 (wrap64 (x5 + 1))) else ((spec_l1Small.f (bt x0 x5)).bind fun t102 => (if t102 = true then (spec_l1Right.l0 k x0 x1 (wrap64 (x5 + 1))) else (some false))))) else (none)) else (some (decide ((x0.size : Int) ≤ x1)))
def spec_l1Right.f (k : Nat) (a0 : ByteArray) (a1 : Int) : Option (Bool) := spec_l1Right.l0 k a0 a1 0
theorem spec_l1Right.mono_l : ∀ k, (∀ y0 y1 y2, LeO (spec_l1Right.l0 k y0 y1 y2) (spec_l1Right.l0 (k + 1) y0 y1 y2))
 | 0 => fun _ _ _ r h => by simp [spec_l1Right.l0] at h
 | k + 1 => by
  have ih0 := spec_l1Right.mono_l k
  intro y0 y1 y2
  unfold spec_l1Right.l0
  repeat' first
  | (with_reducible exact ih0 _ _ _)
  | (with_reducible exact LeO.refl _)
  | (with_reducible exact LeO.none _)
  | (with_reducible refine LeO.ite ?_ ?_)
  | (with_reducible refine LeO.bind ?_ (fun _ => ?_))
  | exact ih0 _ _ _
  | exact LeO.none _
  | refine LeO.ite ?_ ?_
  | refine LeO.bind ?_ (fun _ => ?_)
theorem spec_l1Right.mono : ∀ a0 a1 k, LeO (spec_l1Right.f k a0 a1) (spec_l1Right.f (k + 1) a0 a1) := by
 intro a0 a1 k
 have ih0 := spec_l1Right.mono_l k
 unfold spec_l1Right.f
 repeat' first
   | (with_reducible exact ih0 _ _ _)
   | (with_reducible exact LeO.refl _)
   | (with_reducible exact LeO.none _)
   | (with_reducible refine LeO.ite ?_ ?_)
   | (with_reducible refine LeO.bind ?_ (fun _ => ?_))
   | exact ih0 _ _ _
   | exact LeO.none _
   | refine LeO.ite ?_ ?_
   | refine LeO.bind ?_ (fun _ => ?_)
set_option maxHeartbeats 8000000 in
set_option maxRecDepth 100000 in
theorem spec_l1Right.calls (k : Nat) (a0 : ByteArray) (a1 : Int) (r : Bool) (w : World) (h : spec_l1Right.f k a0 a1 = some r) :
  Calls Tryd.prog 75 #[.string a0, .int .i64 a1] w fun e w' => e = .returned (.bool r) ∧ Drawn0 w w' := by
 have H : (spec_l1Right.l0 k a0 a1 0) = some r := h
 clear h
 have H' := Aside0.mk H
 clear H
 go_enter Tryd.func75, Tryd.ntmps75
 go_wp2
 go_loopg [5] k (fun kq v5 w' => ∃ (x5_1 : Int), v5 = .int .i64 x5_1 ∧ Aside0 (spec_l1Right.l0 kq a0 a1 x5_1 = some r) ∧ Aside0 (kq ≤ k) ∧ Drawn0 w w')
 case atStart => exact ⟨(0), (by first | rfl | (simp; done) | (simp [*]; done)), H', ⟨Nat.le_refl _⟩, by repeat (first | exact Drawn0.refl _ | apply Drawn0.step)⟩
 case round =>
  clear H'
  try clear p2
  obtain ⟨x5_1, rfl, HA, HK1, ⟨m1, rfl⟩⟩ := hrel
  cases gk with
  | zero => exact absurd HA.out (by simp [spec_l1Right.l0])
  | succ k1 =>
   have H := HA.out
   clear HA
   simp only [spec_l1Right.l0] at H
   by_cases c3 : x5_1 < (a0.size : Int)
   rotate_left
   ·rw [if_neg c3] at H
    have c3b0 : decide (x5_1 < (a0.size : Int)) = false := decide_eq_false c3
    clear c3
    obtain rfl := Option.some.inj H
    go_wp2
    go_ret
    exact ⟨by first | rfl | (simp; done) | (simp [*]; done), by repeat (first | exact Drawn0.refl _ | apply Drawn0.step)⟩
   rw [if_pos c3] at H
   have c3b0 : decide (x5_1 < (a0.size : Int)) = true := decide_eq_true c3
   clear c3
   by_cases c4 : 0 ≤ x5_1
   rotate_left
   ·rw [if_neg c4] at H
    exact absurd H (by simp)
   rw [if_pos c4] at H
   have c4b0 : decide (0 ≤ x5_1) = true := decide_eq_true c4
   clear c4
   replace H := Option.bind_eq_some_iff.mp H
   obtain ⟨t101, A60, H⟩ := H
   replace H : (if t101 = true then (spec_l1Right.l0 k1 a0 a1 (wrap64 (x5_1 + 1))) else ((spec_l1Small.f (bt a0 x5_1)).bind fun t102 => (if t102 = true then (spec_l1Right.l0 k1 a0 a1 (wrap64 (x5_1 + 1))) else (some false)))) = some r := H
   have A6 := Aside0.mk A60
   clear A60
   by_cases c7 : t101 = true
   ·subst c7
    have H1 : (spec_l1Right.l0 k1 a0 a1 (wrap64 (x5_1 + 1))) = some r := by rw [if_pos rfl] at H; exact H
    clear H
    have H := H1
    clear H1
    have H' := Aside0.mk H
    clear H
    have p5 : 0 ≤ (x5_1 : Int) := of_decide_eq_true (by first | (with_reducible assumption) | assumption)
    have q5 : x5_1 < (a0.size : Int) := of_decide_eq_true (by first | (with_reducible assumption) | assumption)
    have hx5 := bt_at a0 x5_1
    replace p5 := eq_true p5
    replace q5 := eq_true q5
    go_wp2_with (first | ((with_reducible refine gate_callee (f := 120) rfl ?_); refine goesL_ (some 15) rfl rfl Tryd.func120 (by kernel_rfl) rfl #[.int .u8 (bt a0 x5_1)] rfl (by (try simp only [List.map_toArray, List.map_cons, List.map_nil]); first | done | rfl | (simp only [List.length_drop, List.length_take]; rfl)) ?_; (with_reducible refine (spec_l1Big.calls (bt a0 x5_1) true _ A6.out).mono ?_); rintro e w' ⟨rfl, ⟨nd, rfl⟩⟩; refine ⟨_, rfl, ?_⟩))
    go_roundg k1
    case measure => have := HK1.out; omega
    case rel => exact ⟨(wrap64 (x5_1 + 1)), (by first | rfl | (simp; done) | (simp [*]; done)), H', ⟨by have := HK1.out; omega⟩, by repeat (first | exact Drawn0.refl _ | apply Drawn0.step)⟩
   replace c7 := Bool.eq_false_iff.mpr c7
   subst c7
   have H1 : ((spec_l1Small.f (bt a0 x5_1)).bind fun t102 => (if t102 = true then (spec_l1Right.l0 k1 a0 a1 (wrap64 (x5_1 + 1))) else (some false))) = some r := by rw [if_neg (show ¬ (false = true) by decide)] at H; exact H
   clear H
   have H := H1
   clear H1
   replace H := Option.bind_eq_some_iff.mp H
   obtain ⟨t102, A90, H⟩ := H
   replace H : (if t102 = true then (spec_l1Right.l0 k1 a0 a1 (wrap64 (x5_1 + 1))) else (some false)) = some r := H
   have A9 := Aside0.mk A90
   clear A90
   by_cases c10 : t102 = true
   ·subst c10
    have H1 : (spec_l1Right.l0 k1 a0 a1 (wrap64 (x5_1 + 1))) = some r := by rw [if_pos rfl] at H; exact H
    clear H
    have H := H1
    clear H1
    have H' := Aside0.mk H
    clear H
    have p5 : 0 ≤ (x5_1 : Int) := of_decide_eq_true (by first | (with_reducible assumption) | assumption)
    have q5 : x5_1 < (a0.size : Int) := of_decide_eq_true (by first | (with_reducible assumption) | assumption)
    have hx5 := bt_at a0 x5_1
    replace p5 := eq_true p5
    replace q5 := eq_true q5
    go_wp2_with (first | ((with_reducible refine gate_callee (f := 120) rfl ?_); refine goesL_ (some 15) rfl rfl Tryd.func120 (by kernel_rfl) rfl #[.int .u8 (bt a0 x5_1)] rfl (by (try simp only [List.map_toArray, List.map_cons, List.map_nil]); first | done | rfl | (simp only [List.length_drop, List.length_take]; rfl)) ?_; (with_reducible refine (spec_l1Big.calls (bt a0 x5_1) false _ A6.out).mono ?_); rintro e w' ⟨rfl, ⟨nd, rfl⟩⟩; refine ⟨_, rfl, ?_⟩; have p8 : 0 ≤ (x5_1 : Int) := of_decide_eq_true (by first | (with_reducible assumption) | assumption); have q8 : x5_1 < (a0.size : Int) := of_decide_eq_true (by first | (with_reducible assumption) | assumption); have hx8 := bt_at a0 x5_1; replace p8 := eq_true p8; replace q8 := eq_true q8) | (go_at_call 108; (with_reducible refine (spec_l1Small.calls (bt a0 x5_1) true _ A9.out).mono ?_); rintro e w' ⟨rfl, ⟨nd, rfl⟩⟩))
    go_roundg k1
    case measure => have := HK1.out; omega
    case rel => exact ⟨(wrap64 (x5_1 + 1)), (by first | rfl | (simp; done) | (simp [*]; done)), H', ⟨by have := HK1.out; omega⟩, by repeat (first | exact Drawn0.refl _ | apply Drawn0.step)⟩
   replace c10 := Bool.eq_false_iff.mpr c10
   subst c10
   have H1 : (some false) = some r := by rw [if_neg (show ¬ (false = true) by decide)] at H; exact H
   clear H
   have H := H1
   clear H1
   obtain rfl := Option.some.inj H
   have p5 : 0 ≤ (x5_1 : Int) := of_decide_eq_true (by first | (with_reducible assumption) | assumption)
   have q5 : x5_1 < (a0.size : Int) := of_decide_eq_true (by first | (with_reducible assumption) | assumption)
   have hx5 := bt_at a0 x5_1
   replace p5 := eq_true p5
   replace q5 := eq_true q5
   go_wp2_with (first | ((with_reducible refine gate_callee (f := 120) rfl ?_); refine goesL_ (some 15) rfl rfl Tryd.func120 (by kernel_rfl) rfl #[.int .u8 (bt a0 x5_1)] rfl (by (try simp only [List.map_toArray, List.map_cons, List.map_nil]); first | done | rfl | (simp only [List.length_drop, List.length_take]; rfl)) ?_; (with_reducible refine (spec_l1Big.calls (bt a0 x5_1) false _ A6.out).mono ?_); rintro e w' ⟨rfl, ⟨nd, rfl⟩⟩; refine ⟨_, rfl, ?_⟩; have p8 : 0 ≤ (x5_1 : Int) := of_decide_eq_true (by first | (with_reducible assumption) | assumption); have q8 : x5_1 < (a0.size : Int) := of_decide_eq_true (by first | (with_reducible assumption) | assumption); have hx8 := bt_at a0 x5_1; replace p8 := eq_true p8; replace q8 := eq_true q8) | (go_at_call 108; (with_reducible refine (spec_l1Small.calls (bt a0 x5_1) false _ A9.out).mono ?_); rintro e w' ⟨rfl, ⟨nd, rfl⟩⟩))
   go_ret
   exact ⟨by first | rfl | (simp; done) | (simp [*]; done), by repeat (first | exact Drawn0.refl _ | apply Drawn0.step)⟩
theorem q30_1 {p : Prop} (h : p := by (try simp only [List.map_toArray, List.map_cons, List.map_nil]); first | done | rfl | (simp only [List.length_drop, List.length_take]; rfl)) : p := h
theorem q30_2 {p : Prop} (h : p := by first | (with_reducible assumption) | assumption) : p := h
theorem q30_3 {p : Prop} (h : p := by repeat (first | (with_reducible first | exact HB.out | apply below_alloc | apply pw_below_drewN | apply below_drew1 | refine below_set ?_ GE101.out) | exact HB.out)) : p := h
theorem q30_4 {p : Prop} (h : p := by repeat (first | exact (Kd.C_below HR110.out q30_3) | (with_reducible refine Kd.C_alloc ?_ _) | (with_reducible refine Kd.C_drewN ?_ _) | (with_reducible refine Kd.C_drew ?_))) : p := h
theorem q30_5 {p : Prop} (h : p := by first | rfl | (simp; done) | (simp [*]; done)) : p := h
theorem q30_6 {p : Prop} (h : p := by (with_reducible repeat (first | refine blk_drewN ?_ _ | refine blk_drew ?_ | refine blk_alloc ?_ _)); exact BK101.out) : p := h
/-! ### spec_GramOk: function 27 -/
mutual
def spec_GramOk.j0 : Nat → Bool → ByteArray → List (S46) → Option (Bool)
 | 0, _, _, _ => none
 | k + 1, x13, x102000, x102001 => if x13 = true then (some false) else (spec_GramOk.l0 k 0 x102000 x102001)
def spec_GramOk.l0 : Nat → Int → ByteArray → List (S46) → Option (Bool)
 | 0, _, _, _ => none
 | k + 1, x3, x102000, x102001 => if x3 < (x102001.length : Int) then (if 0 ≤ x3 then ((spec_SignBig.f ((rd_T46 x102001 x3).f0)).bind fun t104 => (if t104 = true then ((spec_l1Right.f k ((rd_T46 x102001 x3).f1) 4).bind fun t106 => (if t106 = true then (if x3 ≤ (x102001.length : Int) then ((spec_l1Place.f k (x102001.take (x3 : Int).toNat) ((rd_T46 x102001 x3).f0) ((rd_T46 x102001 x3).f1)).bind fun t112 => (if t112 ≥ 0 then (some false) else (spec_GramOk.l0 k (wrap64 (x3 + 1)) x102000 x102001))) else (none)) else (some false))) else (some false))) else (none)) else (some true)
end
def spec_GramOk.f (k : Nat) (a0_0 : ByteArray) (l0_1 : List (S46)) : Option (Bool) := (spec_SignBig.f a0_0).bind fun t102 => (if t102 = true then (spec_GramOk.j0 k (decide ((l0_1.length : Int) > 8)) a0_0 l0_1) else (spec_GramOk.j0 k true a0_0 l0_1))
theorem spec_GramOk.mono_l : ∀ k, (∀ y0 y1 y2, LeO (spec_GramOk.j0 k y0 y1 y2) (spec_GramOk.j0 (k + 1) y0 y1 y2)) ∧ (∀ y0 y1 y2, LeO (spec_GramOk.l0 k y0 y1 y2) (spec_GramOk.l0 (k + 1) y0 y1 y2))
 | 0 => ⟨fun _ _ _ r h => by simp [spec_GramOk.j0] at h, fun _ _ _ r h => by simp [spec_GramOk.l0] at h⟩
 | k + 1 => by
  obtain ⟨ih0, ih1⟩ := spec_GramOk.mono_l k
  refine ⟨?_, ?_⟩
  ·intro y0 y1 y2
   unfold spec_GramOk.j0
   repeat' first
   | (with_reducible exact ih0 _ _ _)
   | (with_reducible exact ih1 _ _ _)
   | (with_reducible exact spec_l1Place.mono _ _ _ _)
   | (with_reducible exact spec_l1Right.mono _ _ _)
   | (with_reducible exact LeO.refl _)
   | (with_reducible exact LeO.none _)
   | (with_reducible refine LeO.ite ?_ ?_)
   | (with_reducible refine LeO.bind ?_ (fun _ => ?_))
   | exact ih0 _ _ _
   | exact ih1 _ _ _
   | exact spec_l1Place.mono _ _ _ _
   | exact spec_l1Right.mono _ _ _
   | exact LeO.none _
   | refine LeO.ite ?_ ?_
   | refine LeO.bind ?_ (fun _ => ?_)
  intro y0 y1 y2
  unfold spec_GramOk.l0
  repeat' first
  | (with_reducible exact ih0 _ _ _)
  | (with_reducible exact ih1 _ _ _)
  | (with_reducible exact spec_l1Place.mono _ _ _ _)
  | (with_reducible exact spec_l1Right.mono _ _ _)
  | (with_reducible exact LeO.refl _)
  | (with_reducible exact LeO.none _)
  | (with_reducible refine LeO.ite ?_ ?_)
  | (with_reducible refine LeO.bind ?_ (fun _ => ?_))
  | exact ih0 _ _ _
  | exact ih1 _ _ _
  | exact spec_l1Place.mono _ _ _ _
  | exact spec_l1Right.mono _ _ _
  | exact LeO.none _
  | refine LeO.ite ?_ ?_
  | refine LeO.bind ?_ (fun _ => ?_)
theorem spec_GramOk.mono : ∀ a0 a1 k, LeO (spec_GramOk.f k a0 a1) (spec_GramOk.f (k + 1) a0 a1) := by
 intro a0 a1 k
 obtain ⟨ih0, ih1⟩ := spec_GramOk.mono_l k
 unfold spec_GramOk.f
 repeat' first
   | (with_reducible exact ih0 _ _ _)
   | (with_reducible exact ih1 _ _ _)
   | (with_reducible exact spec_l1Place.mono _ _ _ _)
   | (with_reducible exact spec_l1Right.mono _ _ _)
   | (with_reducible exact LeO.refl _)
   | (with_reducible exact LeO.none _)
   | (with_reducible refine LeO.ite ?_ ?_)
   | (with_reducible refine LeO.bind ?_ (fun _ => ?_))
   | exact ih0 _ _ _
   | exact ih1 _ _ _
   | exact spec_l1Place.mono _ _ _ _
   | exact spec_l1Right.mono _ _ _
   | exact LeO.none _
   | refine LeO.ite ?_ ?_
   | refine LeO.bind ?_ (fun _ => ?_)
def spec_GramOk.T6 : Bool × List (List Nat × List Nat) := (true, [([], []), ([0], [0]), ([], []), ([1, 2], [1, 2]), ([3], [3]), ([4], [4]), ([5], [5]), ([6], [6]), ([7, 6], [7]), ([8], [8]), ([9, 8], [8, 9]), ([8], [8]), ([10, 11, 8], [8, 10, 11]), ([12, 8], [8, 12]), ([13, 8], [8, 13]), ([14, 8, 8], [8, 14]), ([15, 8], [8, 15]), ([8, 16], [8, 16]), ([17, 15], [17]), ([18], [18]), ([19, 18], [18, 19]), ([18], [18]), ([20, 21, 18], [18, 20, 21]), ([18], [18]), ([23, 18], [18, 23]), ([18], [18]), ([24, 25, 18], [18, 24, 25]), ([26, 18], [18, 26]), ([22, 27, 18, 18], [18, 22, 27]), ([28, 18], [18, 28]), ([18, 29], [18, 29])])
def spec_GramOk.B6 : List Nat := [0, 1, 0, 7, 15, 31, 63, 127, 255, 511, 1023, 511, 4095, 8191, 16383, 32767, 65535, 131071, 262143, 524287, 1048575, 524287, 4194303, 524287, 8912895, 524287, 59244543, 126353407, 268435455, 536870911, 1073741823]
theorem spec_GramOk.tab6 : rtab .any (opsOf Tryd.f27 6) = spec_GramOk.T6 := by kernel_rfl
theorem spec_GramOk.bits6 : waitsOk spec_GramOk.T6.2 spec_GramOk.B6 = true := by kernel_rfl
set_option maxHeartbeats 8000000 in
set_option maxRecDepth 100000 in
theorem spec_GramOk.calls (k : Nat) (a0_0 : ByteArray) (A0_1 : Option Addr) (c0_1 : Nat) (l0_1 : List (S46)) (r : Bool) (w : World) (hr0_1 : Kd.C k46 w A0_1 l0_1.length l0_1) (hc0_1 : l0_1.length ≤ c0_1) (h : spec_GramOk.f k a0_0 l0_1 = some r) :
  Calls Tryd.prog 27 #[.agg #[.string a0_0, .slice A0_1 l0_1.length c0_1]] w fun e w' => e = .returned (.bool r) ∧ Below w.heap.size w w' := by
 have hu25 := Tryd.underlying25
 have hu46 := Tryd.underlying46
 have HR0_1 := Aside0.mk hr0_1
 have HC0_1 := Aside0.mk hc0_1
 clear hr0_1 hc0_1
 have HB := Aside0.mk (Below.refl w.heap.size w)
 have H : ((spec_SignBig.f a0_0).bind fun t102 => (if t102 = true then (spec_GramOk.j0 k (decide ((l0_1.length : Int) > 8)) a0_0 l0_1) else (spec_GramOk.j0 k true a0_0 l0_1))) = some r := h
 clear h
 have HC2 := Aside0.mk H
 clear H
 go_enter Tryd.func27, Tryd.ntmps27
 go_upto_region 1 with (first | ((with_reducible refine gate_dst (N := 1) rfl ?_); (try (refine gate_guard (by rfl) ?_; dsimp only)); refine box_event ?hg (N := 1) ?hd (cs := #[.string a0_0, .slice A0_1 l0_1.length c0_1]) (t := 25) ?hr ?_; (case hd => rfl); (case hg => rfl); (case hr => first | (go_simp; done) | (go_simp; rfl)); intro gb101 hg w3 hbox hb; refine rn4 (below_step q30_3 hb) (hbox) ((by rw [hg]; exact (below_size q30_3) : w.heap.size ≤ gb101)) ((by rw [hg]; exact (below_size q30_3) : w.heap.size ≤ gb101)) ?_; clear HB; intro HB BK101 GW101 GE101; clear hb hbox hg))
 (try simp only [Act.put, List.setIfInBounds_toArray, List.set_cons_zero, List.set_cons_succ])
 go_cut [13] (fun v13 wc => ∃ (kq : Nat) (x13_1 : Bool), v13 = .bool x13_1 ∧ Aside0 (spec_GramOk.j0 kq x13_1 a0_0 l0_1 = some r) ∧ Aside0 (kq ≤ k) ∧ Aside0 (wc.heap[gb101]? = some (.cells #[.string a0_0, (.slice A0_1 l0_1.length c0_1)] 25 (0, 0))) ∧ Aside0 (Below w.heap.size w wc))
 case first =>
  have H := HC2.out
  clear HC2
  replace H := Option.bind_eq_some_iff.mp H
  obtain ⟨t102, A40, H⟩ := H
  replace H : (if t102 = true then (spec_GramOk.j0 k (decide ((l0_1.length : Int) > 8)) a0_0 l0_1) else (spec_GramOk.j0 k true a0_0 l0_1)) = some r := H
  have A4 := Aside0.mk A40
  clear A40
  by_cases c5 : t102 = true
  ·subst c5
   have H1 : (spec_GramOk.j0 k (decide ((l0_1.length : Int) > 8)) a0_0 l0_1) = some r := by rw [if_pos rfl] at H; exact H
   clear H
   have H := H1
   clear H1
   have H' := Aside0.mk H
   clear H
   have hcz6_0 : w3.cell? ⟨gb101, 0, none⟩ = some (.string a0_0) := (blk_cell BK101.out 0).trans rfl
   have hcz6_1 : w3.cell? ⟨gb101, 1, none⟩ = some (.slice A0_1 l0_1.length c0_1) := (blk_cell BK101.out 1).trans rfl
   have hfz6_0 := blk_frozen BK101.out 0
   have hfz6_1 := blk_frozen BK101.out 1
   go_wp2_with (first | ((with_reducible refine gate_callee (f := 74) rfl ?_); refine goesL_ (some 6) rfl rfl Tryd.func74 (by kernel_rfl) rfl #[.string a0_0] rfl q30_1 ?_; (with_reducible refine (spec_SignBig.calls a0_0 true _ A4.out).mono ?_); rintro e w' ⟨rfl, ⟨nd, rfl⟩⟩; refine ⟨_, rfl, ?_⟩))
   go_meet
   case rel => exact ⟨_, (decide ((l0_1.length : Int) > 8)), q30_5, H', ⟨by first | omega | exact Nat.le_refl _⟩, ⟨by (with_reducible repeat (first | refine blk_drewN ?_ _ | refine blk_drew ?_ | refine blk_alloc ?_ _)); exact BK101.out⟩, ⟨by repeat (first | (with_reducible first | exact HB.out | apply below_alloc | apply pw_below_drewN | apply below_drew1 | refine below_set ?_ GE101.out) | exact HB.out)⟩⟩
  replace c5 := Bool.eq_false_iff.mpr c5
  subst c5
  have H1 : (spec_GramOk.j0 k true a0_0 l0_1) = some r := by rw [if_neg (show ¬ (false = true) by decide)] at H; exact H
  clear H
  have H := H1
  clear H1
  have H' := Aside0.mk H
  clear H
  have hcz7_0 : w3.cell? ⟨gb101, 0, none⟩ = some (.string a0_0) := (blk_cell BK101.out 0).trans rfl
  have hcz7_1 : w3.cell? ⟨gb101, 1, none⟩ = some (.slice A0_1 l0_1.length c0_1) := (blk_cell BK101.out 1).trans rfl
  have hfz7_0 := blk_frozen BK101.out 0
  have hfz7_1 := blk_frozen BK101.out 1
  go_wp2_with (first | ((with_reducible refine gate_callee (f := 74) rfl ?_); refine goesL_ (some 6) rfl rfl Tryd.func74 (by kernel_rfl) rfl #[.string a0_0] rfl q30_1 ?_; (with_reducible refine (spec_SignBig.calls a0_0 false _ A4.out).mono ?_); rintro e w' ⟨rfl, ⟨nd, rfl⟩⟩; refine ⟨_, rfl, ?_⟩))
  go_meet
  case rel => exact ⟨_, (true), q30_5, H', ⟨by first | omega | exact Nat.le_refl _⟩, ⟨by (with_reducible repeat (first | refine blk_drewN ?_ _ | refine blk_drew ?_ | refine blk_alloc ?_ _)); exact BK101.out⟩, ⟨by repeat (first | (with_reducible first | exact HB.out | apply below_alloc | apply pw_below_drewN | apply below_drew1 | refine below_set ?_ GE101.out) | exact HB.out)⟩⟩
 case rest =>
  clear HC2
  try clear c2
  try clear p2
  try clear c5
  try clear c7
  try clear hcz6_0
  try clear hcz6_1
  try clear hcz7_0
  try clear hcz7_1
  try clear hfz6_0
  try clear hfz6_1
  try clear hfz7_0
  try clear hfz7_1
  obtain ⟨kq, x13_1, rfl, HA, HJ1, BK101, HB⟩ := hcut
  cases kq with
  | zero => exact absurd HA.out (by simp [spec_GramOk.j0])
  | succ kj1 =>
   have H := HA.out
   clear HA
   simp only [spec_GramOk.j0] at H
   by_cases c8 : x13_1 = true
   ·subst c8
    have H1 : (some false) = some r := by rw [if_pos rfl] at H; exact H
    clear H
    have H := H1
    clear H1
    obtain rfl := Option.some.inj H
    go_wp2
    go_ret
    exact ⟨by first | rfl | (simp [errW_none, errW_some] <;> rfl) | (simp [*, errW_none, errW_some] <;> rfl), by repeat (first | (with_reducible first | exact HB.out | apply below_alloc | apply pw_below_drewN | apply below_drew1 | refine below_set ?_ GE101.out) | exact HB.out)⟩
   replace c8 := Bool.eq_false_iff.mpr c8
   subst c8
   have H1 : (spec_GramOk.l0 kj1 0 a0_0 l0_1) = some r := by rw [if_neg (show ¬ (false = true) by decide)] at H; exact H
   clear H
   have H := H1
   clear H1
   have H' := Aside0.mk H
   clear H
   go_wp2
   go_loopg [3] kj1 (fun kq v3 w' => ∃ (x3_2 : Int), v3 = .int .i64 x3_2 ∧ Aside0 (spec_GramOk.l0 kq x3_2 a0_0 l0_1 = some r) ∧ Aside0 (kq ≤ kj1) ∧ Aside0 (w'.heap[gb101]? = some (.cells #[.string a0_0, (.slice A0_1 l0_1.length c0_1)] 25 (0, 0))) ∧ Aside0 (Below w.heap.size w w'))
   case atStart => exact ⟨(0), q30_5, H', ⟨Nat.le_refl _⟩, ⟨by (with_reducible repeat (first | refine blk_drewN ?_ _ | refine blk_drew ?_ | refine blk_alloc ?_ _)); exact BK101.out⟩, ⟨by repeat (first | (with_reducible first | exact HB.out | apply below_alloc | apply pw_below_drewN | apply below_drew1 | refine below_set ?_ GE101.out) | exact HB.out)⟩⟩
   case round =>
    clear H'
    try clear c2
    try clear p2
    try clear c5
    try clear c7
    try clear c8
    try clear hcz6_0
    try clear hcz6_1
    try clear hcz7_0
    try clear hcz7_1
    try clear hfz6_0
    try clear hfz6_1
    try clear hfz7_0
    try clear hfz7_1
    try clear p2
    obtain ⟨x3_2, rfl, HA, HK2, BK101, HB⟩ := hrel
    cases gk with
    | zero => exact absurd HA.out (by simp [spec_GramOk.l0])
    | succ k2 =>
     have H := HA.out
     clear HA
     simp only [spec_GramOk.l0] at H
     by_cases c9 : x3_2 < (l0_1.length : Int)
     rotate_left
     ·rw [if_neg c9] at H
      have c9b0 : decide (x3_2 < (l0_1.length : Int)) = false := decide_eq_false c9
      clear c9
      obtain rfl := Option.some.inj H
      have hcz31_0 : wr.cell? ⟨gb101, 0, none⟩ = some (.string a0_0) := (blk_cell BK101.out 0).trans rfl
      have hcz31_1 : wr.cell? ⟨gb101, 1, none⟩ = some (.slice A0_1 l0_1.length c0_1) := (blk_cell BK101.out 1).trans rfl
      have hfz31_0 := blk_frozen BK101.out 0
      have hfz31_1 := blk_frozen BK101.out 1
      go_wp2
      go_ret
      exact ⟨by first | rfl | (simp [errW_none, errW_some] <;> rfl) | (simp [*, errW_none, errW_some] <;> rfl), by repeat (first | (with_reducible first | exact HB.out | apply below_alloc | apply pw_below_drewN | apply below_drew1 | refine below_set ?_ GE101.out) | exact HB.out)⟩
     rw [if_pos c9] at H
     have c9b0 : decide (x3_2 < (l0_1.length : Int)) = true := decide_eq_true c9
     clear c9
     by_cases c10 : 0 ≤ x3_2
     rotate_left
     ·rw [if_neg c10] at H
      exact absurd H (by simp)
     rw [if_pos c10] at H
     have c10b0 : decide (0 ≤ x3_2) = true := decide_eq_true c10
     clear c10
     replace H := Option.bind_eq_some_iff.mp H
     obtain ⟨t104, A110, H⟩ := H
     replace H : (if t104 = true then ((spec_l1Right.f k2 ((rd_T46 l0_1 x3_2).f1) 4).bind fun t106 => (if t106 = true then (if x3_2 ≤ (l0_1.length : Int) then ((spec_l1Place.f k2 (l0_1.take (x3_2 : Int).toNat) ((rd_T46 l0_1 x3_2).f0) ((rd_T46 l0_1 x3_2).f1)).bind fun t112 => (if t112 ≥ 0 then (some false) else (spec_GramOk.l0 k2 (wrap64 (x3_2 + 1)) a0_0 l0_1))) else (none)) else (some false))) else (some false)) = some r := H
     have A11 := Aside0.mk A110
     clear A110
     by_cases c12 : t104 = true
     rotate_left
     ·replace c12 := Bool.eq_false_iff.mpr c12
      subst c12
      have H1 : (some false) = some r := by rw [if_neg (show ¬ (false = true) by decide)] at H; exact H
      clear H
      have H := H1
      clear H1
      obtain rfl := Option.some.inj H
      have hcz29_0 : wr.cell? ⟨gb101, 0, none⟩ = some (.string a0_0) := (blk_cell BK101.out 0).trans rfl
      have hcz29_1 : wr.cell? ⟨gb101, 1, none⟩ = some (.slice A0_1 l0_1.length c0_1) := (blk_cell BK101.out 1).trans rfl
      have hfz29_0 := blk_frozen BK101.out 0
      have hfz29_1 := blk_frozen BK101.out 1
      try go_wp2
      refine rn2 (blk_drew BK101.out) (below_drew1 HB.out) ?_
      clear BK101 HB
      intro BK101 HB
      have p103 : 0 ≤ (x3_2 : Int) := of_decide_eq_true q30_2
      have q103 : x3_2 < (l0_1.length : Int) := of_decide_eq_true q30_2
      obtain ⟨ad103, e103, hx103_0, hx103_1⟩ := at_T46 HR0_1.out x3_2 p103 q103
      have hw103_1 := hx103_1
      have hw103_0 := hx103_0
      cases e103
      replace hx103_0 := (HB.out.cell (World.block_lt_of_cell? w _ hx103_0)).trans hx103_0
      replace hx103_1 := (HB.out.cell (World.block_lt_of_cell? w _ hx103_1)).trans hx103_1
      replace p103 := eq_true p103
      replace q103 := eq_true q103
      refine start_ (n := 31) (S := fun w' => w'.cell? ⟨gb101, 0, none⟩ = some (.string a0_0) ∧ w'.cell? ⟨gb101, 1, none⟩ = some (.slice (some ad103) l0_1.length c0_1) ∧ w'.cell? (ad103.add ((x3_2).toNat * 2)) = some (.string ((rd_T46 l0_1 x3_2).f0)) ∧ w'.cell? ⟨(ad103.add ((x3_2).toNat * 2)).block, (ad103.add ((x3_2).toNat * 2)).off + 1, none⟩ = some (.string ((rd_T46 l0_1 x3_2).f1))) (ds := []) #[false, false, false, false, false, false, false, false, false, false, false, false, false, false, false, false, false, false, false, false, false, false, false, false, false, false, false, false, false, false, false] (by kernel_rfl) rfl rfl ⟨(blk_cell BK101.out 0).trans rfl, (blk_cell BK101.out 1).trans rfl, ((HB.out.cell (World.block_lt_of_cell? w _ hw103_0)).trans hw103_0), ((HB.out.cell (World.block_lt_of_cell? w _ hw103_1)).trans hw103_1)⟩ (fun hHeld => ?_); refine with_tabW spec_GramOk.tab6 spec_GramOk.bits6 (fun HT_ HW_ => ?_)
      generalize wr.drew = w30 at BK101 HB hx103_0 hx103_1 hHeld ⊢
      refine pz 0 21 HT_ ?_
      refine pz 2 23 HT_ ?_
      refine tz 1 22 HT_ HW_ hHeld ?_
      refine pz 3 24 HT_ ?_
      refine pz 4 25 HT_ ?_
      refine tz 5 26 HT_ HW_ hHeld ?_
      refine oz 6 (some 27) HT_ (fun K hK => ?_)
      refine goes_ Tryd.func74 (by kernel_rfl) rfl #[.string ((rd_T46 l0_1 x3_2).f0)] (by rfl) rfl rfl q30_1 ?_
      with_reducible refine (spec_SignBig.calls ((rd_T46 l0_1 x3_2).f0) false _ A11.out).mono ?_
      rintro e w' ⟨rfl, ⟨nd, rfl⟩⟩
      refine ⟨_, rfl, ?_⟩
      refine hK.out _ _ ⟨(blk_cell BK101.out 0).trans rfl, (blk_cell BK101.out 1).trans rfl, ((HB.out.cell (World.block_lt_of_cell? w _ hw103_0)).trans hw103_0), ((HB.out.cell (World.block_lt_of_cell? w _ hw103_1)).trans hw103_1)⟩ (fun hHeld => ?_)
      clear hK K
      refine norm_ (a' := ?_) ?_ ?_
      rotate_left
      ·show Act.put _ (some 27) _ = _
       simp only [Act.put, List.setIfInBounds_toArray, List.set_cons_zero, List.set_cons_succ, i64_w, i32_w]
       rfl
      refine pz 7 28 HT_ ?_
      refine pz 8 29 HT_ ?_
      refine puz 9 30 HT_ ?_
      refine puz 10 31 HT_ ?_
      refine puz 11 32 HT_ ?_
      refine puz 12 33 HT_ ?_
      refine puz 13 34 HT_ ?_
      refine puz 14 35 HT_ ?_
      refine puz 15 36 HT_ ?_
      refine puz 16 37 HT_ ?_
      refine pz 17 38 HT_ ?_
      refine pz 18 39 HT_ ?_
      refine puz 19 40 HT_ ?_
      refine puz 20 41 HT_ ?_
      refine puz 21 42 HT_ ?_
      refine puz 22 43 HT_ ?_
      refine puz 23 44 HT_ ?_
      refine puz 24 45 HT_ ?_
      refine puz 25 46 HT_ ?_
      refine puz 26 47 HT_ ?_
      refine puz 27 48 HT_ ?_
      refine puz 28 49 HT_ ?_
      refine puz 29 50 HT_ ?_
      refine pz 30 51 HT_ ?_
      refine dz HT_ ?_
      try go_wp2
      go_ret
      exact ⟨by first | rfl | (simp [errW_none, errW_some] <;> rfl) | (simp [*, errW_none, errW_some] <;> rfl), by repeat (first | (with_reducible first | exact HB.out | apply below_alloc | apply pw_below_drewN | apply below_drew1 | refine below_set ?_ GE101.out) | exact HB.out)⟩
     subst c12
     have H1 : ((spec_l1Right.f k2 ((rd_T46 l0_1 x3_2).f1) 4).bind fun t106 => (if t106 = true then (if x3_2 ≤ (l0_1.length : Int) then ((spec_l1Place.f k2 (l0_1.take (x3_2 : Int).toNat) ((rd_T46 l0_1 x3_2).f0) ((rd_T46 l0_1 x3_2).f1)).bind fun t112 => (if t112 ≥ 0 then (some false) else (spec_GramOk.l0 k2 (wrap64 (x3_2 + 1)) a0_0 l0_1))) else (none)) else (some false))) = some r := by rw [if_pos rfl] at H; exact H
     clear H
     have H := H1
     clear H1
     replace H := Option.bind_eq_some_iff.mp H
     obtain ⟨t106, A130, H⟩ := H
     replace H : (if t106 = true then (if x3_2 ≤ (l0_1.length : Int) then ((spec_l1Place.f k2 (l0_1.take (x3_2 : Int).toNat) ((rd_T46 l0_1 x3_2).f0) ((rd_T46 l0_1 x3_2).f1)).bind fun t112 => (if t112 ≥ 0 then (some false) else (spec_GramOk.l0 k2 (wrap64 (x3_2 + 1)) a0_0 l0_1))) else (none)) else (some false)) = some r := H
     have A13 := Aside0.mk A130
     clear A130
     by_cases c14 : t106 = true
     rotate_left
     ·replace c14 := Bool.eq_false_iff.mpr c14
      subst c14
      have H1 : (some false) = some r := by rw [if_neg (show ¬ (false = true) by decide)] at H; exact H
      clear H
      have H := H1
      clear H1
      obtain rfl := Option.some.inj H
      have hcz27_0 : wr.cell? ⟨gb101, 0, none⟩ = some (.string a0_0) := (blk_cell BK101.out 0).trans rfl
      have hcz27_1 : wr.cell? ⟨gb101, 1, none⟩ = some (.slice A0_1 l0_1.length c0_1) := (blk_cell BK101.out 1).trans rfl
      have hfz27_0 := blk_frozen BK101.out 0
      have hfz27_1 := blk_frozen BK101.out 1
      try go_wp2
      refine rn2 (blk_drew BK101.out) (below_drew1 HB.out) ?_
      clear BK101 HB
      intro BK101 HB
      have p103 : 0 ≤ (x3_2 : Int) := of_decide_eq_true q30_2
      have q103 : x3_2 < (l0_1.length : Int) := of_decide_eq_true q30_2
      obtain ⟨ad103, e103, hx103_0, hx103_1⟩ := at_T46 HR0_1.out x3_2 p103 q103
      have hw103_1 := hx103_1
      have hw103_0 := hx103_0
      cases e103
      replace hx103_0 := (HB.out.cell (World.block_lt_of_cell? w _ hx103_0)).trans hx103_0
      replace hx103_1 := (HB.out.cell (World.block_lt_of_cell? w _ hx103_1)).trans hx103_1
      replace p103 := eq_true p103
      replace q103 := eq_true q103
      have p105 : 0 ≤ (x3_2 : Int) := of_decide_eq_true q30_2
      have q105 : x3_2 < (l0_1.length : Int) := of_decide_eq_true q30_2
      obtain ⟨ad105, e105, hx105_0, hx105_1⟩ := at_T46 HR0_1.out x3_2 p105 q105
      have hw105_1 := hx105_1
      have hw105_0 := hx105_0
      obtain rfl : ad103 = ad105 := (by injection e105)
      replace hx105_0 := (HB.out.cell (World.block_lt_of_cell? w _ hx105_0)).trans hx105_0
      replace hx105_1 := (HB.out.cell (World.block_lt_of_cell? w _ hx105_1)).trans hx105_1
      replace p105 := eq_true p105
      replace q105 := eq_true q105
      refine start_ (n := 31) (S := fun w' => w'.cell? ⟨gb101, 0, none⟩ = some (.string a0_0) ∧ w'.cell? ⟨gb101, 1, none⟩ = some (.slice (some ad103) l0_1.length c0_1) ∧ w'.cell? (ad103.add ((x3_2).toNat * 2)) = some (.string ((rd_T46 l0_1 x3_2).f0)) ∧ w'.cell? ⟨(ad103.add ((x3_2).toNat * 2)).block, (ad103.add ((x3_2).toNat * 2)).off + 1, none⟩ = some (.string ((rd_T46 l0_1 x3_2).f1)) ∧ w'.cell? (ad103.add ((x3_2).toNat * 2)) = some (.string ((rd_T46 l0_1 x3_2).f0)) ∧ w'.cell? ⟨(ad103.add ((x3_2).toNat * 2)).block, (ad103.add ((x3_2).toNat * 2)).off + 1, none⟩ = some (.string ((rd_T46 l0_1 x3_2).f1))) (ds := []) #[false, false, false, false, false, false, false, false, false, false, false, false, false, false, false, false, false, false, false, false, false, false, false, false, false, false, false, false, false, false, false] (by kernel_rfl) rfl rfl ⟨(blk_cell BK101.out 0).trans rfl, (blk_cell BK101.out 1).trans rfl, ((HB.out.cell (World.block_lt_of_cell? w _ hw103_0)).trans hw103_0), ((HB.out.cell (World.block_lt_of_cell? w _ hw103_1)).trans hw103_1), ((HB.out.cell (World.block_lt_of_cell? w _ hw105_0)).trans hw105_0), ((HB.out.cell (World.block_lt_of_cell? w _ hw105_1)).trans hw105_1)⟩ (fun hHeld => ?_); refine with_tabW spec_GramOk.tab6 spec_GramOk.bits6 (fun HT_ HW_ => ?_)
      generalize wr.drew = w28 at BK101 HB hx103_0 hx103_1 hx105_0 hx105_1 hHeld ⊢
      refine pz 0 21 HT_ ?_
      refine pz 2 23 HT_ ?_
      refine tz 1 22 HT_ HW_ hHeld ?_
      refine pz 3 24 HT_ ?_
      refine pz 4 25 HT_ ?_
      refine tz 5 26 HT_ HW_ hHeld ?_
      refine oz 6 (some 27) HT_ (fun K hK => ?_)
      refine goes_ Tryd.func74 (by kernel_rfl) rfl #[.string ((rd_T46 l0_1 x3_2).f0)] (by rfl) rfl rfl q30_1 ?_
      with_reducible refine (spec_SignBig.calls ((rd_T46 l0_1 x3_2).f0) true _ A11.out).mono ?_
      rintro e w' ⟨rfl, ⟨nd, rfl⟩⟩
      refine ⟨_, rfl, ?_⟩
      refine hK.out _ _ ⟨(blk_cell BK101.out 0).trans rfl, (blk_cell BK101.out 1).trans rfl, ((HB.out.cell (World.block_lt_of_cell? w _ hw103_0)).trans hw103_0), ((HB.out.cell (World.block_lt_of_cell? w _ hw103_1)).trans hw103_1), ((HB.out.cell (World.block_lt_of_cell? w _ hw105_0)).trans hw105_0), ((HB.out.cell (World.block_lt_of_cell? w _ hw105_1)).trans hw105_1)⟩ (fun hHeld => ?_)
      clear hK K
      refine norm_ (a' := ?_) ?_ ?_
      rotate_left
      ·show Act.put _ (some 27) _ = _
       simp only [Act.put, List.setIfInBounds_toArray, List.set_cons_zero, List.set_cons_succ, i64_w, i32_w]
       rfl
      refine pz 7 28 HT_ ?_
      refine pz 8 29 HT_ ?_
      refine pz 9 30 HT_ ?_
      refine pz 11 32 HT_ ?_
      refine tz 10 31 HT_ HW_ hHeld ?_
      refine pz 12 33 HT_ ?_
      refine pz 13 34 HT_ ?_
      refine tz 14 35 HT_ HW_ hHeld ?_
      refine oz 15 (some 36) HT_ (fun K hK => ?_)
      refine goes_ Tryd.func75 (by kernel_rfl) rfl #[.string ((rd_T46 l0_1 x3_2).f1), .int .i64 4] (by rfl) rfl rfl q30_1 ?_
      with_reducible refine (spec_l1Right.calls k2 ((rd_T46 l0_1 x3_2).f1) 4 false _ A13.out).mono ?_
      rintro e w' ⟨rfl, ⟨nd, rfl⟩⟩
      refine ⟨_, rfl, ?_⟩
      refine hK.out _ _ ⟨(blk_cell BK101.out 0).trans rfl, (blk_cell BK101.out 1).trans rfl, ((HB.out.cell (World.block_lt_of_cell? w _ hw103_0)).trans hw103_0), ((HB.out.cell (World.block_lt_of_cell? w _ hw103_1)).trans hw103_1), ((HB.out.cell (World.block_lt_of_cell? w _ hw105_0)).trans hw105_0), ((HB.out.cell (World.block_lt_of_cell? w _ hw105_1)).trans hw105_1)⟩ (fun hHeld => ?_)
      clear hK K
      refine norm_ (a' := ?_) ?_ ?_
      rotate_left
      ·show Act.put _ (some 36) _ = _
       simp only [Act.put, List.setIfInBounds_toArray, List.set_cons_zero, List.set_cons_succ, i64_w, i32_w]
       rfl
      refine pz 16 37 HT_ ?_
      refine pz 17 38 HT_ ?_
      refine pz 18 39 HT_ ?_
      refine puz 19 40 HT_ ?_
      refine puz 20 41 HT_ ?_
      refine puz 21 42 HT_ ?_
      refine puz 22 43 HT_ ?_
      refine puz 23 44 HT_ ?_
      refine puz 24 45 HT_ ?_
      refine puz 25 46 HT_ ?_
      refine puz 26 47 HT_ ?_
      refine puz 27 48 HT_ ?_
      refine puz 28 49 HT_ ?_
      refine puz 29 50 HT_ ?_
      refine pz 30 51 HT_ ?_
      refine dz HT_ ?_
      try go_wp2
      go_ret
      exact ⟨by first | rfl | (simp [errW_none, errW_some] <;> rfl) | (simp [*, errW_none, errW_some] <;> rfl), by repeat (first | (with_reducible first | exact HB.out | apply below_alloc | apply pw_below_drewN | apply below_drew1 | refine below_set ?_ GE101.out) | exact HB.out)⟩
     subst c14
     have H1 : (if x3_2 ≤ (l0_1.length : Int) then ((spec_l1Place.f k2 (l0_1.take (x3_2 : Int).toNat) ((rd_T46 l0_1 x3_2).f0) ((rd_T46 l0_1 x3_2).f1)).bind fun t112 => (if t112 ≥ 0 then (some false) else (spec_GramOk.l0 k2 (wrap64 (x3_2 + 1)) a0_0 l0_1))) else (none)) = some r := by rw [if_pos rfl] at H; exact H
     clear H
     have H := H1
     clear H1
     have c15b0 := eq_true (of_decide_eq_true q30_2 : 0 ≤ x3_2)
     by_cases c16 : x3_2 ≤ (l0_1.length : Int)
     rotate_left
     ·rw [if_neg c16] at H
      exact absurd H (by simp)
     rw [if_pos c16] at H
     have c16b0 := eq_true c16
     have c16b1 : decide (x3_2 ≤ (l0_1.length : Int)) = true := decide_eq_true c16
     clear c16
     obtain ⟨y107, hy107⟩ : ∃ y_ : List (S46), y_ = (l0_1.take (x3_2 : Int).toNat) := ⟨_, rfl⟩
     replace H : ((spec_l1Place.f k2 y107 ((rd_T46 l0_1 x3_2).f0) ((rd_T46 l0_1 x3_2).f1)).bind fun t112 => (if t112 ≥ 0 then (some false) else (spec_GramOk.l0 k2 (wrap64 (x3_2 + 1)) a0_0 l0_1))) = some r := by first | (rw [hy107]; with_reducible exact H) | (have H2_ := (Option.bind_some _ _).symm.trans H; rw [hy107]; with_reducible exact H2_) | (have H2_ := (Option.bind_some _ _).symm.trans H; with_reducible exact H2_) | with_reducible exact H | (rw [hy107]; exact H) | exact H
     have Ny107 := Aside0.mk hy107
     clear hy107
     replace H := Option.bind_eq_some_iff.mp H
     obtain ⟨t112, A170, H⟩ := H
     replace H : (if t112 ≥ 0 then (some false) else (spec_GramOk.l0 k2 (wrap64 (x3_2 + 1)) a0_0 l0_1)) = some r := H
     have A17 := Aside0.mk A170
     clear A170
     by_cases c18 : t112 ≥ 0
     ·rw [if_pos c18] at H
      have c18b0 : decide (0 ≤ t112) = true := decide_eq_true c18
      clear c18
      obtain rfl := Option.some.inj H
      have hcz19_0 : wr.cell? ⟨gb101, 0, none⟩ = some (.string a0_0) := (blk_cell BK101.out 0).trans rfl
      have hcz19_1 : wr.cell? ⟨gb101, 1, none⟩ = some (.slice A0_1 l0_1.length c0_1) := (blk_cell BK101.out 1).trans rfl
      have hfz19_0 := blk_frozen BK101.out 0
      have hfz19_1 := blk_frozen BK101.out 1
      try go_wp2
      refine rn2 (blk_drew BK101.out) (below_drew1 HB.out) ?_
      clear BK101 HB
      intro BK101 HB
      have p103 : 0 ≤ (x3_2 : Int) := of_decide_eq_true q30_2
      have q103 : x3_2 < (l0_1.length : Int) := of_decide_eq_true q30_2
      obtain ⟨ad103, e103, hx103_0, hx103_1⟩ := at_T46 HR0_1.out x3_2 p103 q103
      have hw103_1 := hx103_1
      have hw103_0 := hx103_0
      cases e103
      replace hx103_0 := (HB.out.cell (World.block_lt_of_cell? w _ hx103_0)).trans hx103_0
      replace hx103_1 := (HB.out.cell (World.block_lt_of_cell? w _ hx103_1)).trans hx103_1
      replace p103 := eq_true p103
      replace q103 := eq_true q103
      have p105 : 0 ≤ (x3_2 : Int) := of_decide_eq_true q30_2
      have q105 : x3_2 < (l0_1.length : Int) := of_decide_eq_true q30_2
      obtain ⟨ad105, e105, hx105_0, hx105_1⟩ := at_T46 HR0_1.out x3_2 p105 q105
      have hw105_1 := hx105_1
      have hw105_0 := hx105_0
      obtain rfl : ad103 = ad105 := (by injection e105)
      replace hx105_0 := (HB.out.cell (World.block_lt_of_cell? w _ hx105_0)).trans hx105_0
      replace hx105_1 := (HB.out.cell (World.block_lt_of_cell? w _ hx105_1)).trans hx105_1
      replace p105 := eq_true p105
      replace q105 := eq_true q105
      have p111 : 0 ≤ (x3_2 : Int) := of_decide_eq_true q30_2
      have q111 : x3_2 < (l0_1.length : Int) := of_decide_eq_true q30_2
      obtain ⟨ad111, e111, hx111_0, hx111_1⟩ := at_T46 HR0_1.out x3_2 p111 q111
      have hw111_1 := hx111_1
      have hw111_0 := hx111_0
      obtain rfl : ad103 = ad111 := (by injection e111)
      replace hx111_0 := (HB.out.cell (World.block_lt_of_cell? w _ hx111_0)).trans hx111_0
      replace hx111_1 := (HB.out.cell (World.block_lt_of_cell? w _ hx111_1)).trans hx111_1
      replace p111 := eq_true p111
      replace q111 := eq_true q111
      refine start_ (n := 31) (S := fun w' => w'.cell? ⟨gb101, 0, none⟩ = some (.string a0_0) ∧ w'.cell? ⟨gb101, 1, none⟩ = some (.slice (some ad103) l0_1.length c0_1) ∧ w'.cell? (ad103.add ((x3_2).toNat * 2)) = some (.string ((rd_T46 l0_1 x3_2).f0)) ∧ w'.cell? ⟨(ad103.add ((x3_2).toNat * 2)).block, (ad103.add ((x3_2).toNat * 2)).off + 1, none⟩ = some (.string ((rd_T46 l0_1 x3_2).f1)) ∧ w'.cell? (ad103.add ((x3_2).toNat * 2)) = some (.string ((rd_T46 l0_1 x3_2).f0)) ∧ w'.cell? ⟨(ad103.add ((x3_2).toNat * 2)).block, (ad103.add ((x3_2).toNat * 2)).off + 1, none⟩ = some (.string ((rd_T46 l0_1 x3_2).f1)) ∧ w'.cell? (ad103.add ((x3_2).toNat * 2)) = some (.string ((rd_T46 l0_1 x3_2).f0)) ∧ w'.cell? ⟨(ad103.add ((x3_2).toNat * 2)).block, (ad103.add ((x3_2).toNat * 2)).off + 1, none⟩ = some (.string ((rd_T46 l0_1 x3_2).f1))) (ds := []) #[false, false, false, false, false, false, false, false, false, false, false, false, false, false, false, false, false, false, false, false, false, false, false, false, false, false, false, false, false, false, false] (by kernel_rfl) rfl rfl ⟨(blk_cell BK101.out 0).trans rfl, (blk_cell BK101.out 1).trans rfl, ((HB.out.cell (World.block_lt_of_cell? w _ hw103_0)).trans hw103_0), ((HB.out.cell (World.block_lt_of_cell? w _ hw103_1)).trans hw103_1), ((HB.out.cell (World.block_lt_of_cell? w _ hw105_0)).trans hw105_0), ((HB.out.cell (World.block_lt_of_cell? w _ hw105_1)).trans hw105_1), ((HB.out.cell (World.block_lt_of_cell? w _ hw111_0)).trans hw111_0), ((HB.out.cell (World.block_lt_of_cell? w _ hw111_1)).trans hw111_1)⟩ (fun hHeld => ?_); refine with_tabW spec_GramOk.tab6 spec_GramOk.bits6 (fun HT_ HW_ => ?_)
      generalize wr.drew = w20 at BK101 HB hx103_0 hx103_1 hx105_0 hx105_1 hx111_0 hx111_1 hHeld ⊢
      refine pz 0 21 HT_ ?_
      refine pz 2 23 HT_ ?_
      refine tz 1 22 HT_ HW_ hHeld ?_
      refine pz 3 24 HT_ ?_
      refine pz 4 25 HT_ ?_
      refine tz 5 26 HT_ HW_ hHeld ?_
      refine oz 6 (some 27) HT_ (fun K hK => ?_)
      refine goes_ Tryd.func74 (by kernel_rfl) rfl #[.string ((rd_T46 l0_1 x3_2).f0)] (by rfl) rfl rfl q30_1 ?_
      with_reducible refine (spec_SignBig.calls ((rd_T46 l0_1 x3_2).f0) true _ A11.out).mono ?_
      rintro e w' ⟨rfl, ⟨nd, rfl⟩⟩
      refine ⟨_, rfl, ?_⟩
      refine hK.out _ _ ⟨(blk_cell BK101.out 0).trans rfl, (blk_cell BK101.out 1).trans rfl, ((HB.out.cell (World.block_lt_of_cell? w _ hw103_0)).trans hw103_0), ((HB.out.cell (World.block_lt_of_cell? w _ hw103_1)).trans hw103_1), ((HB.out.cell (World.block_lt_of_cell? w _ hw105_0)).trans hw105_0), ((HB.out.cell (World.block_lt_of_cell? w _ hw105_1)).trans hw105_1), ((HB.out.cell (World.block_lt_of_cell? w _ hw111_0)).trans hw111_0), ((HB.out.cell (World.block_lt_of_cell? w _ hw111_1)).trans hw111_1)⟩ (fun hHeld => ?_)
      clear hK K
      refine norm_ (a' := ?_) ?_ ?_
      rotate_left
      ·show Act.put _ (some 27) _ = _
       simp only [Act.put, List.setIfInBounds_toArray, List.set_cons_zero, List.set_cons_succ, i64_w, i32_w]
       rfl
      refine pz 7 28 HT_ ?_
      refine pz 8 29 HT_ ?_
      refine pz 9 30 HT_ ?_
      refine pz 11 32 HT_ ?_
      refine tz 10 31 HT_ HW_ hHeld ?_
      refine pz 12 33 HT_ ?_
      refine pz 13 34 HT_ ?_
      refine tz 14 35 HT_ HW_ hHeld ?_
      refine oz 15 (some 36) HT_ (fun K hK => ?_)
      refine goes_ Tryd.func75 (by kernel_rfl) rfl #[.string ((rd_T46 l0_1 x3_2).f1), .int .i64 4] (by rfl) rfl rfl q30_1 ?_
      with_reducible refine (spec_l1Right.calls k2 ((rd_T46 l0_1 x3_2).f1) 4 true _ A13.out).mono ?_
      rintro e w' ⟨rfl, ⟨nd, rfl⟩⟩
      refine ⟨_, rfl, ?_⟩
      have q21 : (x3_2 : Int) ≤ ((l0_1.length : Int) : Int) := of_decide_eq_true q30_2
      obtain ⟨i021, hi021, _, hsz21, _⟩ := info_parts info46
      have hroom21 : l0_1.length ≤ c0_1 := HC0_1.out
      have hC21 : Kd.C k46 _ (some ad103) l0_1.length l0_1 := HR0_1.out
      have hcut21 := cut_to (P := Tryd.prog) 23 46 .i64 Tryd.underlying23 hi021 (some ad103) l0_1.length c0_1 x3_2 (of_decide_eq_true q30_2) q21 hroom21
      have hr21 := Kd.C_take (m := (x3_2 : Int).toNat) hC21 (by omega)
      have hy21 : y107.length = (x3_2 : Int).toNat := (by rw [Ny107.out, List.length_take]; omega)
      rw [← Ny107.out] at hr21
      rw [← hy21] at hcut21
      have HR110 := Aside0.mk hr21
      have HC110 := Aside0.mk (show y107.length ≤ c0_1 from (by omega))
      clear hr21 hC21 hroom21 hi021 hsz21
      have KY21 := Aside0.mk hy21
      clear hy21
      replace q21 := eq_true q21
      refine hK.out _ _ ⟨(blk_cell BK101.out 0).trans rfl, (blk_cell BK101.out 1).trans rfl, ((HB.out.cell (World.block_lt_of_cell? w _ hw103_0)).trans hw103_0), ((HB.out.cell (World.block_lt_of_cell? w _ hw103_1)).trans hw103_1), ((HB.out.cell (World.block_lt_of_cell? w _ hw105_0)).trans hw105_0), ((HB.out.cell (World.block_lt_of_cell? w _ hw105_1)).trans hw105_1), ((HB.out.cell (World.block_lt_of_cell? w _ hw111_0)).trans hw111_0), ((HB.out.cell (World.block_lt_of_cell? w _ hw111_1)).trans hw111_1)⟩ (fun hHeld => ?_)
      clear hK K
      refine norm_ (a' := ?_) ?_ ?_
      rotate_left
      ·show Act.put _ (some 36) _ = _
       simp only [Act.put, List.setIfInBounds_toArray, List.set_cons_zero, List.set_cons_succ, i64_w, i32_w]
       rfl
      refine pz 16 37 HT_ ?_
      refine pz 17 38 HT_ ?_
      refine pz 18 39 HT_ ?_
      refine pz 19 40 HT_ ?_
      refine pz 21 42 HT_ ?_
      refine pz 23 44 HT_ ?_
      refine pz 25 46 HT_ ?_
      refine tz 20 41 HT_ HW_ hHeld ?_
      refine pz 22 43 HT_ ?_
      refine tz 24 45 HT_ HW_ hHeld ?_
      refine pz 26 47 HT_ ?_
      refine tz 27 48 HT_ HW_ hHeld ?_
      refine oz 28 (some 49) HT_ (fun K hK => ?_)
      refine goes_ Tryd.func76 (by kernel_rfl) rfl #[.slice (some ad103) y107.length c0_1, .agg #[.string ((rd_T46 l0_1 x3_2).f0), .string ((rd_T46 l0_1 x3_2).f1)]] (by rfl) rfl rfl q30_1 ?_
      with_reducible refine (spec_l1Place.calls k2 _ _ y107 ((rd_T46 l0_1 x3_2).f0) ((rd_T46 l0_1 x3_2).f1) t112 _ ?side1 ?side2 A17.out).mono ?_
      (case side1 => exact q30_4)
      (case side2 => exact HC110.out)
      rintro e w22 ⟨rfl, hb⟩
      refine ⟨_, rfl, ?_⟩
      refine rn2 (blk_below (g := gb101) (o := .cells #[.string a0_0, .slice (some ad103) l0_1.length c0_1] 25 (0, 0)) q30_6 hb) (below_step q30_3 hb) ?_
      clear BK101 HB
      intro BK101 HB
      (try clear hb)
      (try clear hb2)
      (try clear hk)
      (try clear hi)
      refine hK.out _ _ ⟨(blk_cell BK101.out 0).trans rfl, (blk_cell BK101.out 1).trans rfl, ((HB.out.cell (World.block_lt_of_cell? w _ hw103_0)).trans hw103_0), ((HB.out.cell (World.block_lt_of_cell? w _ hw103_1)).trans hw103_1), ((HB.out.cell (World.block_lt_of_cell? w _ hw105_0)).trans hw105_0), ((HB.out.cell (World.block_lt_of_cell? w _ hw105_1)).trans hw105_1), ((HB.out.cell (World.block_lt_of_cell? w _ hw111_0)).trans hw111_0), ((HB.out.cell (World.block_lt_of_cell? w _ hw111_1)).trans hw111_1)⟩ (fun hHeld => ?_)
      clear hK K
      refine norm_ (a' := ?_) ?_ ?_
      rotate_left
      ·show Act.put _ (some 49) _ = _
       simp only [Act.put, List.setIfInBounds_toArray, List.set_cons_zero, List.set_cons_succ, i64_w, i32_w]
       rfl
      refine pz 29 50 HT_ ?_
      refine pz 30 51 HT_ ?_
      refine dz HT_ ?_
      try go_wp2
      go_ret
      exact ⟨by first | rfl | (simp [errW_none, errW_some] <;> rfl) | (simp [*, errW_none, errW_some] <;> rfl), by repeat (first | (with_reducible first | exact HB.out | apply below_alloc | apply pw_below_drewN | apply below_drew1 | refine below_set ?_ GE101.out) | exact HB.out)⟩
     rw [if_neg c18] at H
     have c18b0 : decide (0 ≤ t112) = false := decide_eq_false c18
     clear c18
     have H' := Aside0.mk H
     clear H
     have hcz23_0 : wr.cell? ⟨gb101, 0, none⟩ = some (.string a0_0) := (blk_cell BK101.out 0).trans rfl
     have hcz23_1 : wr.cell? ⟨gb101, 1, none⟩ = some (.slice A0_1 l0_1.length c0_1) := (blk_cell BK101.out 1).trans rfl
     have hfz23_0 := blk_frozen BK101.out 0
     have hfz23_1 := blk_frozen BK101.out 1
     try go_wp2
     refine rn2 (blk_drew BK101.out) (below_drew1 HB.out) ?_
     clear BK101 HB
     intro BK101 HB
     have p103 : 0 ≤ (x3_2 : Int) := of_decide_eq_true q30_2
     have q103 : x3_2 < (l0_1.length : Int) := of_decide_eq_true q30_2
     obtain ⟨ad103, e103, hx103_0, hx103_1⟩ := at_T46 HR0_1.out x3_2 p103 q103
     have hw103_1 := hx103_1
     have hw103_0 := hx103_0
     cases e103
     replace hx103_0 := (HB.out.cell (World.block_lt_of_cell? w _ hx103_0)).trans hx103_0
     replace hx103_1 := (HB.out.cell (World.block_lt_of_cell? w _ hx103_1)).trans hx103_1
     replace p103 := eq_true p103
     replace q103 := eq_true q103
     have p105 : 0 ≤ (x3_2 : Int) := of_decide_eq_true q30_2
     have q105 : x3_2 < (l0_1.length : Int) := of_decide_eq_true q30_2
     obtain ⟨ad105, e105, hx105_0, hx105_1⟩ := at_T46 HR0_1.out x3_2 p105 q105
     have hw105_1 := hx105_1
     have hw105_0 := hx105_0
     obtain rfl : ad103 = ad105 := (by injection e105)
     replace hx105_0 := (HB.out.cell (World.block_lt_of_cell? w _ hx105_0)).trans hx105_0
     replace hx105_1 := (HB.out.cell (World.block_lt_of_cell? w _ hx105_1)).trans hx105_1
     replace p105 := eq_true p105
     replace q105 := eq_true q105
     have p111 : 0 ≤ (x3_2 : Int) := of_decide_eq_true q30_2
     have q111 : x3_2 < (l0_1.length : Int) := of_decide_eq_true q30_2
     obtain ⟨ad111, e111, hx111_0, hx111_1⟩ := at_T46 HR0_1.out x3_2 p111 q111
     have hw111_1 := hx111_1
     have hw111_0 := hx111_0
     obtain rfl : ad103 = ad111 := (by injection e111)
     replace hx111_0 := (HB.out.cell (World.block_lt_of_cell? w _ hx111_0)).trans hx111_0
     replace hx111_1 := (HB.out.cell (World.block_lt_of_cell? w _ hx111_1)).trans hx111_1
     replace p111 := eq_true p111
     replace q111 := eq_true q111
     refine start_ (n := 31) (S := fun w' => w'.cell? ⟨gb101, 0, none⟩ = some (.string a0_0) ∧ w'.cell? ⟨gb101, 1, none⟩ = some (.slice (some ad103) l0_1.length c0_1) ∧ w'.cell? (ad103.add ((x3_2).toNat * 2)) = some (.string ((rd_T46 l0_1 x3_2).f0)) ∧ w'.cell? ⟨(ad103.add ((x3_2).toNat * 2)).block, (ad103.add ((x3_2).toNat * 2)).off + 1, none⟩ = some (.string ((rd_T46 l0_1 x3_2).f1)) ∧ w'.cell? (ad103.add ((x3_2).toNat * 2)) = some (.string ((rd_T46 l0_1 x3_2).f0)) ∧ w'.cell? ⟨(ad103.add ((x3_2).toNat * 2)).block, (ad103.add ((x3_2).toNat * 2)).off + 1, none⟩ = some (.string ((rd_T46 l0_1 x3_2).f1)) ∧ w'.cell? (ad103.add ((x3_2).toNat * 2)) = some (.string ((rd_T46 l0_1 x3_2).f0)) ∧ w'.cell? ⟨(ad103.add ((x3_2).toNat * 2)).block, (ad103.add ((x3_2).toNat * 2)).off + 1, none⟩ = some (.string ((rd_T46 l0_1 x3_2).f1))) (ds := []) #[false, false, false, false, false, false, false, false, false, false, false, false, false, false, false, false, false, false, false, false, false, false, false, false, false, false, false, false, false, false, false] (by kernel_rfl) rfl rfl ⟨(blk_cell BK101.out 0).trans rfl, (blk_cell BK101.out 1).trans rfl, ((HB.out.cell (World.block_lt_of_cell? w _ hw103_0)).trans hw103_0), ((HB.out.cell (World.block_lt_of_cell? w _ hw103_1)).trans hw103_1), ((HB.out.cell (World.block_lt_of_cell? w _ hw105_0)).trans hw105_0), ((HB.out.cell (World.block_lt_of_cell? w _ hw105_1)).trans hw105_1), ((HB.out.cell (World.block_lt_of_cell? w _ hw111_0)).trans hw111_0), ((HB.out.cell (World.block_lt_of_cell? w _ hw111_1)).trans hw111_1)⟩ (fun hHeld => ?_); refine with_tabW spec_GramOk.tab6 spec_GramOk.bits6 (fun HT_ HW_ => ?_)
     generalize wr.drew = w24 at BK101 HB hx103_0 hx103_1 hx105_0 hx105_1 hx111_0 hx111_1 hHeld ⊢
     refine pz 0 21 HT_ ?_
     refine pz 2 23 HT_ ?_
     refine tz 1 22 HT_ HW_ hHeld ?_
     refine pz 3 24 HT_ ?_
     refine pz 4 25 HT_ ?_
     refine tz 5 26 HT_ HW_ hHeld ?_
     refine oz 6 (some 27) HT_ (fun K hK => ?_)
     refine goes_ Tryd.func74 (by kernel_rfl) rfl #[.string ((rd_T46 l0_1 x3_2).f0)] (by rfl) rfl rfl q30_1 ?_
     with_reducible refine (spec_SignBig.calls ((rd_T46 l0_1 x3_2).f0) true _ A11.out).mono ?_
     rintro e w' ⟨rfl, ⟨nd, rfl⟩⟩
     refine ⟨_, rfl, ?_⟩
     refine hK.out _ _ ⟨(blk_cell BK101.out 0).trans rfl, (blk_cell BK101.out 1).trans rfl, ((HB.out.cell (World.block_lt_of_cell? w _ hw103_0)).trans hw103_0), ((HB.out.cell (World.block_lt_of_cell? w _ hw103_1)).trans hw103_1), ((HB.out.cell (World.block_lt_of_cell? w _ hw105_0)).trans hw105_0), ((HB.out.cell (World.block_lt_of_cell? w _ hw105_1)).trans hw105_1), ((HB.out.cell (World.block_lt_of_cell? w _ hw111_0)).trans hw111_0), ((HB.out.cell (World.block_lt_of_cell? w _ hw111_1)).trans hw111_1)⟩ (fun hHeld => ?_)
     clear hK K
     refine norm_ (a' := ?_) ?_ ?_
     rotate_left
     ·show Act.put _ (some 27) _ = _
      simp only [Act.put, List.setIfInBounds_toArray, List.set_cons_zero, List.set_cons_succ, i64_w, i32_w]
      rfl
     refine pz 7 28 HT_ ?_
     refine pz 8 29 HT_ ?_
     refine pz 9 30 HT_ ?_
     refine pz 11 32 HT_ ?_
     refine tz 10 31 HT_ HW_ hHeld ?_
     refine pz 12 33 HT_ ?_
     refine pz 13 34 HT_ ?_
     refine tz 14 35 HT_ HW_ hHeld ?_
     refine oz 15 (some 36) HT_ (fun K hK => ?_)
     refine goes_ Tryd.func75 (by kernel_rfl) rfl #[.string ((rd_T46 l0_1 x3_2).f1), .int .i64 4] (by rfl) rfl rfl q30_1 ?_
     with_reducible refine (spec_l1Right.calls k2 ((rd_T46 l0_1 x3_2).f1) 4 true _ A13.out).mono ?_
     rintro e w' ⟨rfl, ⟨nd, rfl⟩⟩
     refine ⟨_, rfl, ?_⟩
     have q25 : (x3_2 : Int) ≤ ((l0_1.length : Int) : Int) := of_decide_eq_true q30_2
     obtain ⟨i025, hi025, _, hsz25, _⟩ := info_parts info46
     have hroom25 : l0_1.length ≤ c0_1 := HC0_1.out
     have hC25 : Kd.C k46 _ (some ad103) l0_1.length l0_1 := HR0_1.out
     have hcut25 := cut_to (P := Tryd.prog) 23 46 .i64 Tryd.underlying23 hi025 (some ad103) l0_1.length c0_1 x3_2 (of_decide_eq_true q30_2) q25 hroom25
     have hr25 := Kd.C_take (m := (x3_2 : Int).toNat) hC25 (by omega)
     have hy25 : y107.length = (x3_2 : Int).toNat := (by rw [Ny107.out, List.length_take]; omega)
     rw [← Ny107.out] at hr25
     rw [← hy25] at hcut25
     have HR110 := Aside0.mk hr25
     have HC110 := Aside0.mk (show y107.length ≤ c0_1 from (by omega))
     clear hr25 hC25 hroom25 hi025 hsz25
     have KY25 := Aside0.mk hy25
     clear hy25
     replace q25 := eq_true q25
     refine hK.out _ _ ⟨(blk_cell BK101.out 0).trans rfl, (blk_cell BK101.out 1).trans rfl, ((HB.out.cell (World.block_lt_of_cell? w _ hw103_0)).trans hw103_0), ((HB.out.cell (World.block_lt_of_cell? w _ hw103_1)).trans hw103_1), ((HB.out.cell (World.block_lt_of_cell? w _ hw105_0)).trans hw105_0), ((HB.out.cell (World.block_lt_of_cell? w _ hw105_1)).trans hw105_1), ((HB.out.cell (World.block_lt_of_cell? w _ hw111_0)).trans hw111_0), ((HB.out.cell (World.block_lt_of_cell? w _ hw111_1)).trans hw111_1)⟩ (fun hHeld => ?_)
     clear hK K
     refine norm_ (a' := ?_) ?_ ?_
     rotate_left
     ·show Act.put _ (some 36) _ = _
      simp only [Act.put, List.setIfInBounds_toArray, List.set_cons_zero, List.set_cons_succ, i64_w, i32_w]
      rfl
     refine pz 16 37 HT_ ?_
     refine pz 17 38 HT_ ?_
     refine pz 18 39 HT_ ?_
     refine pz 19 40 HT_ ?_
     refine pz 21 42 HT_ ?_
     refine pz 23 44 HT_ ?_
     refine pz 25 46 HT_ ?_
     refine tz 20 41 HT_ HW_ hHeld ?_
     refine pz 22 43 HT_ ?_
     refine tz 24 45 HT_ HW_ hHeld ?_
     refine pz 26 47 HT_ ?_
     refine tz 27 48 HT_ HW_ hHeld ?_
     refine oz 28 (some 49) HT_ (fun K hK => ?_)
     refine goes_ Tryd.func76 (by kernel_rfl) rfl #[.slice (some ad103) y107.length c0_1, .agg #[.string ((rd_T46 l0_1 x3_2).f0), .string ((rd_T46 l0_1 x3_2).f1)]] (by rfl) rfl rfl q30_1 ?_
     with_reducible refine (spec_l1Place.calls k2 _ _ y107 ((rd_T46 l0_1 x3_2).f0) ((rd_T46 l0_1 x3_2).f1) t112 _ ?side1 ?side2 A17.out).mono ?_
     (case side1 => exact q30_4)
     (case side2 => exact HC110.out)
     rintro e w26 ⟨rfl, hb⟩
     refine ⟨_, rfl, ?_⟩
     refine rn2 (blk_below (g := gb101) (o := .cells #[.string a0_0, .slice (some ad103) l0_1.length c0_1] 25 (0, 0)) q30_6 hb) (below_step q30_3 hb) ?_
     clear BK101 HB
     intro BK101 HB
     (try clear hb)
     (try clear hb2)
     (try clear hk)
     (try clear hi)
     refine hK.out _ _ ⟨(blk_cell BK101.out 0).trans rfl, (blk_cell BK101.out 1).trans rfl, ((HB.out.cell (World.block_lt_of_cell? w _ hw103_0)).trans hw103_0), ((HB.out.cell (World.block_lt_of_cell? w _ hw103_1)).trans hw103_1), ((HB.out.cell (World.block_lt_of_cell? w _ hw105_0)).trans hw105_0), ((HB.out.cell (World.block_lt_of_cell? w _ hw105_1)).trans hw105_1), ((HB.out.cell (World.block_lt_of_cell? w _ hw111_0)).trans hw111_0), ((HB.out.cell (World.block_lt_of_cell? w _ hw111_1)).trans hw111_1)⟩ (fun hHeld => ?_)
     clear hK K
     refine norm_ (a' := ?_) ?_ ?_
     rotate_left
     ·show Act.put _ (some 49) _ = _
      simp only [Act.put, List.setIfInBounds_toArray, List.set_cons_zero, List.set_cons_succ, i64_w, i32_w]
      rfl
     refine pz 29 50 HT_ ?_
     refine pz 30 51 HT_ ?_
     refine dz HT_ ?_
     try go_wp2
     go_roundg k2
     case measure => have := HJ1.out; have := HK2.out; omega
     case rel => exact ⟨(wrap64 (x3_2 + 1)), q30_5, H', ⟨by have := HJ1.out; have := HK2.out; omega⟩, ⟨by (with_reducible repeat (first | refine blk_drewN ?_ _ | refine blk_drew ?_ | refine blk_alloc ?_ _)); exact BK101.out⟩, ⟨by repeat (first | (with_reducible first | exact HB.out | apply below_alloc | apply pw_below_drewN | apply below_drew1 | refine below_set ?_ GE101.out) | exact HB.out)⟩⟩
def IsS132 (w0 W : World) (g : Nat) (f0 : List Int) (f1 : Int) : Prop := ∃ A0 c0, W.heap[g]? = some (.cells #[.slice A0 f0.length c0, .int .i64 f1] 132 (0, 0)) ∧ w0.heap.size ≤ g ∧ Kd.C (Kd.int .u8) w0 A0 f0.length f0
theorem IsS132.grown {w0 W : World} {g : Nat} {f0 : List Int} {f1 : Int} {W1 : World} {row : Option Nat} (h : IsS132 w0 W g f0 f1) (hw : W.grownBy W1 row) (hne : some g ≠ row) : IsS132 w0 W1 g f0 f1 := by
 obtain ⟨A0, c0, hb, hg, hr0⟩ := h
 exact ⟨A0, c0, blk_grown hb hw hne, hg, hr0⟩
theorem IsS132.kept {w0 W : World} {g : Nat} {f0 : List Int} {f1 : Int} {W1 : World} {S : Nat → Prop} (h : IsS132 w0 W g f0 f1) (hk : Kept W W1 S) (hne : ¬ S g) : IsS132 w0 W1 g f0 f1 := by
 obtain ⟨A0, c0, hb, hg, hr0⟩ := h
 exact ⟨A0, c0, blk_kept hb hk hne, hg, hr0⟩
theorem IsS132.below {w0 W : World} {g : Nat} {f0 : List Int} {f1 : Int} {W1 : World} (h : IsS132 w0 W g f0 f1) (hw : Below W.heap.size W W1) : IsS132 w0 W1 g f0 f1 := h.grown (grown_of_below hw none) (by simp)
theorem IsS132.alloc {w0 W : World} {g : Nat} {f0 : List Int} {f1 : Int} (h : IsS132 w0 W g f0 f1) (o : Obj) : IsS132 w0 (W.alloc o) g f0 f1 := h.below (below_alloc (Below.refl _ _) o)
theorem IsS132.drewN {w0 W : World} {g : Nat} {f0 : List Int} {f1 : Int} (h : IsS132 w0 W g f0 f1) (m : Nat) : IsS132 w0 (W.drewN m) g f0 f1 := h
theorem IsS132.drew {w0 W : World} {g : Nat} {f0 : List Int} {f1 : Int} (h : IsS132 w0 W g f0 f1) : IsS132 w0 W.drew g f0 f1 := h
theorem IsS132.at_ {w0 W : World} {g : Nat} {f0 : List Int} {f1 : Int} {w' : World} {m : Nat} (hq : W.drewN m = w') (h : IsS132 w0 W g f0 f1) : IsS132 w0 w' g f0 f1 := by subst hq; exact IsS132.drewN h m
theorem IsS132.apart {w0 W : World} {g : Nat} {f0 : List Int} {f1 : Int} {α : Type} {d : Kd α} {e : Nat} {base : Nat} {ok : Nat → Prop} {v : Value} {xs : List α} (h : IsS132 w0 W g f0 f1) (ho : d.R e W base ok v xs) (ht : ∀ q, q ∈ e :: d.E → q ≠ 132) : d.R e W base (fun k => ok k ∧ k ≠ g) v xs := by
 obtain ⟨A0, c0, hb, hg, hr0⟩ := h
 exact Kd.R_types ho hb ht
theorem IsS132.own_ne {w0 W : World} {g : Nat} {f0 : List Int} {f1 : Int} {α : Type} {d : Kd α} {e : Nat} {base : Nat} {ok : Nat → Prop} {v : Value} {xs : List α} (h : IsS132 w0 W g f0 f1) (ho : d.R e W base ok v xs) (ht : e ≠ 132) : some g ≠ v.ownBlock := by
 obtain ⟨A0, c0, hb, hg, hr0⟩ := h
 exact Kd.R_ne ho hb ht
theorem IsS132.lt {w0 W : World} {g : Nat} {f0 : List Int} {f1 : Int} (h : IsS132 w0 W g f0 f1) : g < W.heap.size := by
 obtain ⟨A0, c0, hb, hg, hr0⟩ := h
 exact blk_lt hb
theorem IsS132.ge {w0 W : World} {g : Nat} {f0 : List Int} {f1 : Int} (h : IsS132 w0 W g f0 f1) : w0.heap.size ≤ g := by
 obtain ⟨A0, c0, hb, hg, hr0⟩ := h
 exact hg
theorem IsS132.ne_blk {w0 W : World} {g : Nat} {f0 : List Int} {f1 : Int} {a : Nat} {cs : Array Value} {t : TypeId} {fr : Nat × Nat} (h : IsS132 w0 W g f0 f1) (hb2 : W.heap[a]? = some (.cells cs t fr)) (ht : t ≠ 132) : g ≠ a := by
 obtain ⟨A0, c0, hb, hg, hr0⟩ := h
 rintro rfl
 rw [hb] at hb2
 injection hb2 with hb2
 injection hb2 with _ ht2
 exact ht ht2.symm
theorem IsS132.far {w0 W : World} {g : Nat} {f0 : List Int} {f1 : Int} {p : Addr} (h : IsS132 w0 W g f0 f1) (hne : g ≠ p.block) (u : Value) : IsS132 w0 (W.setCell p u) g f0 f1 := by
 obtain ⟨A0, c0, hb, hg, hr0⟩ := h
 exact ⟨A0, c0, blk_far hb hne u, hg, hr0⟩
theorem cellS132_0 {W : World} {g : Nat} {A0 : Option Addr} {c0 : Nat} {f0 : List Int} {f1 : Int} (h : W.heap[g]? = some (.cells #[.slice A0 f0.length c0, .int .i64 f1] 132 (0, 0))) : W.cell? ⟨g, 0, none⟩ = some (.slice A0 f0.length c0) := (blk_cell h 0).trans rfl
theorem cellS132_1 {W : World} {g : Nat} {A0 : Option Addr} {c0 : Nat} {f0 : List Int} {f1 : Int} (h : W.heap[g]? = some (.cells #[.slice A0 f0.length c0, .int .i64 f1] 132 (0, 0))) : W.cell? ⟨g, 1, none⟩ = some (.int .i64 f1) := (blk_cell h 1).trans rfl
theorem IsS132.set_1 {w0 W : World} {g : Nat} {f0 : List Int} {f1 : Int} (h : IsS132 w0 W g f0 f1) (x : Int) : IsS132 w0 (W.setCell ⟨g, 1, none⟩ (.int .i64 x)) g f0 x := by
 obtain ⟨A0, c0, hb, hg, hr0⟩ := h
 exact ⟨A0, c0, by simpa using blk_set hb 1 (.int .i64 x), hg, hr0⟩
theorem IsS132.new (w0 W : World) (A0 : Option Addr) (c0 : Nat) (f0 : List Int) (f1 : Int) (hB : Below w0.heap.size w0 W) (hr0 : Kd.C (Kd.int .u8) w0 A0 f0.length f0) : IsS132 w0 (W.alloc (.cells #[.slice A0 f0.length c0, .int .i64 f1] 132)) W.heap.size f0 f1 := ⟨A0, c0, by simpa using heap_alloc_new W _, hB.size, hr0⟩
/-! ### spec_l17Open: function 82 -/
def spec_l17Open.f (l0 : List Int) : Option (List Int × Int) := if (l0.length : Int) > 2000 then (if 2000 ≤ (l0.length : Int) then (some (l0.take 2000, 0)) else (none)) else (some (l0, 0))
set_option maxHeartbeats 8000000 in
set_option maxRecDepth 100000 in
theorem spec_l17Open.calls (A0 : Option Addr) (c0 : Nat) (l0 : List Int) (r1 : List Int) (r2 : Int) (w0 w : World) (hB : Below w0.heap.size w0 w) (hr0 : Kd.C (Kd.int .u8) w0 A0 l0.length l0) (hc0 : l0.length ≤ c0) (h : spec_l17Open.f l0 = some (r1, r2)) :
  Calls Tryd.prog 82 #[.slice A0 l0.length c0] w fun e w' => ∃ g_ : Nat, e = .returned (.pointer (some ⟨g_, 0, none⟩)) ∧ IsS132 w0 w' g_ r1 r2 ∧ Below w0.heap.size w0 w' ∧ Below w.heap.size w w' := by
 have hu132 := Tryd.underlying132
 have HR0 := Aside0.mk hr0
 have HC0 := Aside0.mk hc0
 clear hr0 hc0
 have HBW := Aside0.mk (Below.refl w.heap.size w)
 have HW0 := Aside0.mk hB.size
 have HB := Aside0.mk hB
 clear hB
 have H : (if (l0.length : Int) > 2000 then (if 2000 ≤ (l0.length : Int) then (some (l0.take 2000, 0)) else (none)) else (some (l0, 0))) = some (r1, r2) := h
 clear h
 by_cases c2 : (l0.length : Int) > 2000
 ·rw [if_pos c2] at H
  have c2b0 : decide (2000 < (l0.length : Int)) = true := decide_eq_true c2
  have c2b1 : decide (2000 < l0.length) = true := decide_eq_true (by omega)
  clear c2
  by_cases c3 : 2000 ≤ (l0.length : Int)
  ·rw [if_pos c3] at H
   have c3b0 := eq_true c3
   have c3b1 : decide (2000 ≤ (l0.length : Int)) = true := decide_eq_true c3
   clear c3
   simp only [Option.some.injEq, Prod.mk.injEq] at H
   obtain ⟨rfl, rfl⟩ := H
   obtain ⟨i04, hi04, _, hsz4, _⟩ := info_parts info5
   obtain ⟨hcut4, hA4, hC4⟩ := print_take_of (P := Tryd.prog) (Value.int .u8) 0 22 5 .i64 Tryd.underlying22 hi04 hsz4 A0 c0 l0 2000 (by omega) (of_decide_eq_true (by first | (with_reducible assumption) | assumption)) HC0.out
   have HR101 := Aside0.mk (Kd.C_of_reads (h1 := fun _ => rfl) (hA4 _ (Kd.reads_of_C HR0.out)))
   have HC101 := Aside0.mk hC4
   clear hA4 hC4 hi04 hsz4
   go_enter Tryd.func82, Tryd.ntmps82
   go_wp2_with (first | ((with_reducible refine gate_dst (N := 10) rfl ?_); refine box_event ?hg (N := 10) ?hd (cs := #[.slice A0 (l0.take 2000).length c0, .int .i64 0]) (t := 132) ?hr ?_; (case hd => rfl); (case hg => rfl); (case hr => first | (go_simp; done) | (go_simp; rfl)); intro gb102 hg w5 hbox hb; refine rn5 (below_step HBW.out hb) (below_step (by repeat (first | (with_reducible first | exact HB.out | apply below_alloc | apply pw_below_drewN | apply below_drew1) | exact HB.out)) hb) (hbox) ((by rw [hg]; exact (below_size (by repeat (first | (with_reducible first | exact HBW.out | apply below_alloc | apply pw_below_drewN | apply below_drew1) | exact HBW.out))) : w.heap.size ≤ gb102)) ((Nat.le_trans HW0.out (by rw [hg]; exact (below_size (by repeat (first | (with_reducible first | exact HBW.out | apply below_alloc | apply pw_below_drewN | apply below_drew1) | exact HBW.out))) : w.heap.size ≤ gb102) : w0.heap.size ≤ gb102)) ?_; clear HBW HB; intro HBW HB BK102 GW102 GE102; clear hb hbox hg))
   go_ret
   exact ⟨_, rfl, (show IsS132 w0 _ gb102 (l0.take 2000) 0 from ⟨_, _, by (with_reducible repeat (first | refine blk_drewN ?_ _ | refine blk_drew ?_ | refine blk_alloc ?_ _)); exact BK102.out, GE102.out, HR101.out⟩), by repeat (first | (with_reducible first | exact HB.out | apply below_alloc | apply pw_below_drewN | apply below_drew1 | refine below_set ?_ GE102.out) | exact HB.out), by repeat (first | (with_reducible first | exact HBW.out | apply below_alloc | apply pw_below_drewN | apply below_drew1 | refine below_set ?_ GW102.out) | exact HBW.out)⟩
  rw [if_neg c3] at H
  exact absurd H (by simp)
 rw [if_neg c2] at H
 have c2b0 : decide (2000 < (l0.length : Int)) = false := decide_eq_false c2
 have c2b1 : decide (2000 < l0.length) = false := decide_eq_false (by omega)
 clear c2
 simp only [Option.some.injEq, Prod.mk.injEq] at H
 obtain ⟨rfl, rfl⟩ := H
 go_enter Tryd.func82, Tryd.ntmps82
 go_wp2_with (first | ((with_reducible refine gate_dst (N := 10) rfl ?_); refine box_event ?hg (N := 10) ?hd (cs := #[.slice A0 l0.length c0, .int .i64 0]) (t := 132) ?hr ?_; (case hd => rfl); (case hg => rfl); (case hr => first | (go_simp; done) | (go_simp; rfl)); intro gb103 hg w6 hbox hb; refine rn5 (below_step HBW.out hb) (below_step (by repeat (first | (with_reducible first | exact HB.out | apply below_alloc | apply pw_below_drewN | apply below_drew1) | exact HB.out)) hb) (hbox) ((by rw [hg]; exact (below_size (by repeat (first | (with_reducible first | exact HBW.out | apply below_alloc | apply pw_below_drewN | apply below_drew1) | exact HBW.out))) : w.heap.size ≤ gb103)) ((Nat.le_trans HW0.out (by rw [hg]; exact (below_size (by repeat (first | (with_reducible first | exact HBW.out | apply below_alloc | apply pw_below_drewN | apply below_drew1) | exact HBW.out))) : w.heap.size ≤ gb103) : w0.heap.size ≤ gb103)) ?_; clear HBW HB; intro HBW HB BK103 GW103 GE103; clear hb hbox hg))
 go_ret
 exact ⟨_, rfl, (show IsS132 w0 _ gb103 l0 0 from ⟨_, _, by (with_reducible repeat (first | refine blk_drewN ?_ _ | refine blk_drew ?_ | refine blk_alloc ?_ _)); exact BK103.out, GE103.out, HR0.out⟩), by repeat (first | (with_reducible first | exact HB.out | apply below_alloc | apply pw_below_drewN | apply below_drew1 | refine below_set ?_ GE103.out) | exact HB.out), by repeat (first | (with_reducible first | exact HBW.out | apply below_alloc | apply pw_below_drewN | apply below_drew1 | refine below_set ?_ GW103.out) | exact HBW.out)⟩
/-! ### spec_l17Rd_pick: function 84 -/
def spec_l17Rd_pick.j0 : Nat → Int → Bool → List Int → Int → Option (Int × Int)
 | 0, _, _, _, _ => none
 | k + 1, x1, x24, x1000, x1001 => if x24 = true then (some (0, x1001)) else (if (wrap64 (x1001 - 1)) < (x1000.length : Int) then (if 0 ≤ (wrap64 (x1001 - 1)) then (if x1 = 0 then (none) else (some (Int.tmod (wrap64 (rd x1000 (wrap64 (x1001 - 1)))) x1, x1001))) else (none)) else (if (x1000.length : Int) = 0 then (none) else (if 0 ≤ (Int.tmod (wrap64 (x1001 - 1)) (x1000.length : Int)) then (if (Int.tmod (wrap64 (x1001 - 1)) (x1000.length : Int)) < (x1000.length : Int) then (if 0 ≤ (Int.tmod (wrap64 ((wrap64 ((wrap64 (x1001 - 1)) * 7)) + 3)) (x1000.length : Int)) then (if (Int.tmod (wrap64 ((wrap64 ((wrap64 (x1001 - 1)) * 7)) + 3)) (x1000.length : Int)) < (x1000.length : Int) then (if x1 = 0 then (none) else (some (Int.tmod (Go.bits .xor .i64 (wrap64 ((wrap64 ((wrap64 ((wrap64 ((wrap64 (rd x1000 (Int.tmod (wrap64 (x1001 - 1)) (x1000.length : Int)))) * 131)) + (wrap64 ((wrap64 (rd x1000 (Int.tmod (wrap64 ((wrap64 ((wrap64 (x1001 - 1)) * 7)) + 3)) (x1000.length : Int)))) * 1117)))) + (wrap64 ((wrap64 (x1001 - 1)) * 29)))) + (wrap64 ((wrap64 (Int.tdiv (wrap64 (x1001 - 1)) (x1000.length : Int))) * 53)))) (wrap64 (Int.tdiv (wrap64 ((wrap64 ((wrap64 ((wrap64 ((wrap64 (rd x1000 (Int.tmod (wrap64 (x1001 - 1)) (x1000.length : Int)))) * 131)) + (wrap64 ((wrap64 (rd x1000 (Int.tmod (wrap64 ((wrap64 ((wrap64 (x1001 - 1)) * 7)) + 3)) (x1000.length : Int)))) * 1117)))) + (wrap64 ((wrap64 (x1001 - 1)) * 29)))) + (wrap64 ((wrap64 (Int.tdiv (wrap64 (x1001 - 1)) (x1000.length : Int))) * 53)))) 64))) x1, x1001))) else (none)) else (none)) else (none)) else (none))))
def spec_l17Rd_pick.f (k : Nat) (s0_0 : List Int) (s0_1 : Int) (a1 : Int) : Option (Int × Int) := if a1 < 1 then (spec_l17Rd_pick.j0 k a1 true s0_0 (wrap64 (s0_1 + 1))) else (spec_l17Rd_pick.j0 k a1 ((s0_0.length : Int) == 0) s0_0 (wrap64 (s0_1 + 1)))
theorem spec_l17Rd_pick.mono_l : ∀ k, (∀ y0 y1 y2 y3, LeO (spec_l17Rd_pick.j0 k y0 y1 y2 y3) (spec_l17Rd_pick.j0 (k + 1) y0 y1 y2 y3))
 | 0 => fun _ _ _ _ r h => by simp [spec_l17Rd_pick.j0] at h
 | k + 1 => by
  have ih0 := spec_l17Rd_pick.mono_l k
  intro y0 y1 y2 y3
  unfold spec_l17Rd_pick.j0
  repeat' first
  | (with_reducible exact ih0 _ _ _ _)
  | (with_reducible exact LeO.refl _)
  | (with_reducible exact LeO.none _)
  | (with_reducible refine LeO.ite ?_ ?_)
  | (with_reducible refine LeO.bind ?_ (fun _ => ?_))
  | exact ih0 _ _ _ _
  | exact LeO.none _
  | refine LeO.ite ?_ ?_
  | refine LeO.bind ?_ (fun _ => ?_)
theorem spec_l17Rd_pick.mono : ∀ a0 a1 a2 k, LeO (spec_l17Rd_pick.f k a0 a1 a2) (spec_l17Rd_pick.f (k + 1) a0 a1 a2) := by
 intro a0 a1 a2 k
 have ih0 := spec_l17Rd_pick.mono_l k
 unfold spec_l17Rd_pick.f
 repeat' first
   | (with_reducible exact ih0 _ _ _ _)
   | (with_reducible exact LeO.refl _)
   | (with_reducible exact LeO.none _)
   | (with_reducible refine LeO.ite ?_ ?_)
   | (with_reducible refine LeO.bind ?_ (fun _ => ?_))
   | exact ih0 _ _ _ _
   | exact LeO.none _
   | refine LeO.ite ?_ ?_
   | refine LeO.bind ?_ (fun _ => ?_)
set_option maxHeartbeats 8000000 in
set_option maxRecDepth 100000 in
theorem spec_l17Rd_pick.calls (k : Nat) (g : Nat) (s0_0 : List Int) (s0_1 : Int) (a1 : Int) (r1 : Int) (r2 : Int) (w0 w : World) (hI : IsS132 w0 w g s0_0 s0_1) (hB : Below w0.heap.size w0 w) (h : spec_l17Rd_pick.f k s0_0 s0_1 a1 = some (r1, r2)) :
  Calls Tryd.prog 84 #[.pointer (some ⟨g, 0, none⟩), .int .i64 a1] w fun e w' => e = .returned (.int .i64 r1) ∧ IsS132 w0 w' g s0_0 r2 ∧ Below w0.heap.size w0 w' ∧ KeepBut w w' g none := by
 have HI0 := Aside0.mk hI
 have HK := Aside0.mk (KeepBut.refl w g none)
 have HL := Aside0.mk hB.size
 clear hI
 have HW0 := Aside0.mk hB.size
 have HB := Aside0.mk hB
 clear hB
 have H : (if a1 < 1 then (spec_l17Rd_pick.j0 k a1 true s0_0 (wrap64 (s0_1 + 1))) else (spec_l17Rd_pick.j0 k a1 ((s0_0.length : Int) == 0) s0_0 (wrap64 (s0_1 + 1)))) = some (r1, r2) := h
 clear h
 have HC3 := Aside0.mk H
 clear H
 obtain ⟨ASz4_0, cSz4_0, HGz4, hgz4, HSz4_0⟩ := HI0.out
 have hcz4_0 := cellS132_0 HGz4
 have hcz4_1 := cellS132_1 HGz4
 have hfz4_1 := blk_frozen HGz4 1
 clear HGz4 hgz4
 go_enter Tryd.func84, Tryd.ntmps84
 go_upto_region 2 with (fail)
 repeat (go_quiet (fail); go_upto_region 2 with (fail))
 go_cut [24] (fun v24 wc => ∃ (kq : Nat) (x24_2 : Bool), v24 = .bool x24_2 ∧ Aside0 (spec_l17Rd_pick.j0 kq a1 x24_2 s0_0 (wrap64 (s0_1 + 1)) = some (r1, r2)) ∧ Aside0 (kq ≤ k) ∧ Aside0 (IsS132 w0 wc g s0_0 (wrap64 (s0_1 + 1))) ∧ Aside0 (KeepBut w wc g none) ∧ Aside0 (Below w0.heap.size w0 wc))
 case first =>
  have H := HC3.out
  clear HC3
  by_cases c5 : a1 < 1
  ·rw [if_pos c5] at H
   have c5b0 : decide (a1 < 1) = true := decide_eq_true c5
   clear c5
   (first | rw [c5b0] | (simp only [i64_w, i32_w]; rw [c5b0]) | skip)
   have H' := Aside0.mk H
   clear H
   go_wp2
   repeat (go_quiet (fail); try go_wp2)
   go_meet
   case rel => exact ⟨_, (true), (by first | rfl | (simp; done) | (simp [*]; done)), H', ⟨by first | omega | exact Nat.le_refl _⟩, ⟨by repeat (first | (with_reducible first | exact HI0.out | apply IsS132.alloc | apply IsS132.drewN | apply IsS132.drew | apply IsS132.set_1) | exact HI0.out)⟩, ⟨by repeat (first | (with_reducible first | exact HK.out | apply KeepBut.set_ | apply keep_drewN | apply keep_drew | apply keep_alloc) | exact HK.out)⟩, ⟨by repeat (first | (with_reducible first | exact HB.out | apply below_alloc | apply pw_below_drewN | apply below_drew1 | refine below_set ?_ (IsS132.ge HI0.out)) | exact HB.out)⟩⟩
  rw [if_neg c5] at H
  have c5b0 : decide (a1 < 1) = false := decide_eq_false c5
  clear c5
  (first | rw [c5b0] | (simp only [i64_w, i32_w]; rw [c5b0]) | skip)
  have H' := Aside0.mk H
  clear H
  obtain ⟨ASz6_0, cSz6_0, HGz6, hgz6, HSz6_0⟩ := HI0.out
  have hcz6_0 := cellS132_0 HGz6
  have hcz6_1 := cellS132_1 HGz6
  have hfz6_1 := blk_frozen HGz6 1
  clear HGz6 hgz6
  go_wp2
  repeat (go_quiet (fail); try go_wp2)
  go_meet
  case rel => exact ⟨_, (((s0_0.length : Int) == 0)), (by first | rfl | (simp; done) | (simp [*]; done)), H', ⟨by first | omega | exact Nat.le_refl _⟩, ⟨by repeat (first | (with_reducible first | exact HI0.out | apply IsS132.alloc | apply IsS132.drewN | apply IsS132.drew | apply IsS132.set_1) | exact HI0.out)⟩, ⟨by repeat (first | (with_reducible first | exact HK.out | apply KeepBut.set_ | apply keep_drewN | apply keep_drew | apply keep_alloc) | exact HK.out)⟩, ⟨by repeat (first | (with_reducible first | exact HB.out | apply below_alloc | apply pw_below_drewN | apply below_drew1 | refine below_set ?_ (IsS132.ge HI0.out)) | exact HB.out)⟩⟩
 case rest =>
  clear HC3
  try clear p2
  try clear c5
  try clear c5b0
  try clear p6
  try clear hcz4_0
  try clear hcz4_1
  try clear hcz6_0
  try clear hcz6_1
  try clear hfz4_1
  try clear hfz6_1
  obtain ⟨kq, x24_2, rfl, HA, HJ2, HI0, HK, HB⟩ := hcut
  cases kq with
  | zero => exact absurd HA.out (by simp [spec_l17Rd_pick.j0])
  | succ kj2 =>
   have H := HA.out
   clear HA
   simp only [spec_l17Rd_pick.j0] at H
   by_cases c7 : x24_2 = true
   ·subst c7
    have H1 : (some (0, (wrap64 (s0_1 + 1)))) = some (r1, r2) := by rw [if_pos rfl] at H; exact H
    clear H
    have H := H1
    clear H1
    simp only [Option.some.injEq, Prod.mk.injEq] at H
    obtain ⟨rfl, rfl⟩ := H
    go_wp2
    repeat (go_quiet (fail); try go_wp2)
    go_ret
    exact ⟨by first | rfl | (simp [errW_none, errW_some] <;> rfl) | (simp [*, errW_none, errW_some] <;> rfl), by repeat (first | (with_reducible first | exact HI0.out | apply IsS132.alloc | apply IsS132.drewN | apply IsS132.drew | apply IsS132.set_1) | exact HI0.out), by repeat (first | (with_reducible first | exact HB.out | apply below_alloc | apply pw_below_drewN | apply below_drew1 | refine below_set ?_ (IsS132.ge HI0.out)) | exact HB.out), by repeat (first | (with_reducible first | exact HK.out | apply KeepBut.set_ | apply keep_drewN | apply keep_drew | apply keep_alloc) | exact HK.out)⟩
   replace c7 := Bool.eq_false_iff.mpr c7
   subst c7
   have H1 : (if (wrap64 ((wrap64 (s0_1 + 1)) - 1)) < (s0_0.length : Int) then (if 0 ≤ (wrap64 ((wrap64 (s0_1 + 1)) - 1)) then (if a1 = 0 then (none) else (some (Int.tmod (wrap64 (rd s0_0 (wrap64 ((wrap64 (s0_1 + 1)) - 1)))) a1, (wrap64 (s0_1 + 1))))) else (none)) else (if (s0_0.length : Int) = 0 then (none) else (if 0 ≤ (Int.tmod (wrap64 ((wrap64 (s0_1 + 1)) - 1)) (s0_0.length : Int)) then (if (Int.tmod (wrap64 ((wrap64 (s0_1 + 1)) - 1)) (s0_0.length : Int)) < (s0_0.length : Int) then (if 0 ≤ (Int.tmod (wrap64 ((wrap64 ((wrap64 ((wrap64 (s0_1 + 1)) - 1)) * 7)) + 3)) (s0_0.length : Int)) then (if (Int.tmod (wrap64 ((wrap64 ((wrap64 ((wrap64 (s0_1 + 1)) - 1)) * 7)) + 3)) (s0_0.length : Int)) < (s0_0.length : Int) then (if a1 = 0 then (none) else (some (Int.tmod (Go.bits .xor .i64 (wrap64 ((wrap64 ((wrap64 ((wrap64 ((wrap64 (rd s0_0 (Int.tmod (wrap64 ((wrap64 (s0_1 + 1)) - 1)) (s0_0.length : Int)))) * 131)) + (wrap64 ((wrap64 (rd s0_0 (Int.tmod (wrap64 ((wrap64 ((wrap64 ((wrap64 (s0_1 + 1)) - 1)) * 7)) + 3)) (s0_0.length : Int)))) * 1117)))) + (wrap64 ((wrap64 ((wrap64 (s0_1 + 1)) - 1)) * 29)))) + (wrap64 ((wrap64 (Int.tdiv (wrap64 ((wrap64 (s0_1 + 1)) - 1)) (s0_0.length : Int))) * 53)))) (wrap64 (Int.tdiv (wrap64 ((wrap64 ((wrap64 ((wrap64 ((wrap64 (rd s0_0 (Int.tmod (wrap64 ((wrap64 (s0_1 + 1)) - 1)) (s0_0.length : Int)))) * 131)) + (wrap64 ((wrap64 (rd s0_0 (Int.tmod (wrap64 ((wrap64 ((wrap64 ((wrap64 (s0_1 + 1)) - 1)) * 7)) + 3)) (s0_0.length : Int)))) * 1117)))) + (wrap64 ((wrap64 ((wrap64 (s0_1 + 1)) - 1)) * 29)))) + (wrap64 ((wrap64 (Int.tdiv (wrap64 ((wrap64 (s0_1 + 1)) - 1)) (s0_0.length : Int))) * 53)))) 64))) a1, (wrap64 (s0_1 + 1))))) else (none)) else (none)) else (none)) else (none)))) = some (r1, r2) := by rw [if_neg (show ¬ (false = true) by decide)] at H; exact H
   clear H
   have H := H1
   clear H1
   by_cases c8 : (wrap64 ((wrap64 (s0_1 + 1)) - 1)) < (s0_0.length : Int)
   ·rw [if_pos c8] at H
    have c8b0 : decide ((wrap64 ((wrap64 (s0_1 + 1)) - 1)) < (s0_0.length : Int)) = true := decide_eq_true c8
    clear c8
    obtain ⟨ji9, hji9⟩ : ∃ j_ : Int, (wrap64 ((wrap64 (s0_1 + 1)) - 1)) = j_ := ⟨_, rfl⟩
    replace H : (if 0 ≤ (ji9) then (if a1 = 0 then (none) else (some (Int.tmod (wrap64 (rd s0_0 (ji9))) a1, (wrap64 (s0_1 + 1))))) else (none)) = some (r1, r2) := by first | (rw [hji9] at H; exact H) | (simp only [hji9] at H ⊢; exact H)
    (try rw [hji9] at c8b0)
    have hji9w : (IntKind.i64.wrap ((wrap64 (s0_1 + 1)) - 1)) = ji9 := (i64_w _).trans hji9
    by_cases c10 : 0 ≤ (ji9)
    rotate_left
    ·rw [if_neg c10] at H
     exact absurd H (by simp)
    rw [if_pos c10] at H
    have c10b0 : decide (0 ≤ (ji9)) = true := decide_eq_true c10
    clear c10
    by_cases c11 : a1 = 0
    ·rw [if_pos c11] at H
     exact absurd H (by simp)
    rw [if_neg c11] at H
    have c11b0 : (a1 == 0) = false := beq_eq_false_iff_ne.mpr c11
    have c11b1 : (a1 != 0) = true := bne_iff_ne.mpr c11
    simp only [Option.some.injEq, Prod.mk.injEq] at H
    obtain ⟨rfl, rfl⟩ := H
    obtain ⟨ASz12_0, cSz12_0, HGz12, hgz12, HSz12_0⟩ := HI0.out
    have hcz12_0 := cellS132_0 HGz12
    have hcz12_1 := cellS132_1 HGz12
    have hfz12_1 := blk_frozen HGz12 1
    clear HGz12 hgz12
    have p101 : 0 ≤ ((ji9) : Int) := of_decide_eq_true (by first | (with_reducible assumption) | assumption)
    have q101 : (ji9) < (s0_0.length : Int) := of_decide_eq_true (by first | (with_reducible assumption) | assumption)
    obtain ⟨ad101, e101, hx101_0⟩ := Kd.at_int HSz12_0 (ji9) p101 q101
    cases e101
    replace hx101_0 := pw_cell_below HB.out hx101_0
    replace p101 := eq_true p101
    replace q101 := eq_true q101
    go_wp2
    repeat (go_quiet (fail); try go_wp2)
    go_ret
    exact ⟨by first | rfl | (simp [errW_none, errW_some] <;> rfl) | (simp only [← hji9]; first | rfl | (simp [errW_none, errW_some] <;> rfl)) | (simp [*, errW_none, errW_some] <;> rfl), by repeat (first | (with_reducible first | exact HI0.out | apply IsS132.alloc | apply IsS132.drewN | apply IsS132.drew | apply IsS132.set_1) | exact HI0.out), by repeat (first | (with_reducible first | exact HB.out | apply below_alloc | apply pw_below_drewN | apply below_drew1 | refine below_set ?_ (IsS132.ge HI0.out)) | exact HB.out), by repeat (first | (with_reducible first | exact HK.out | apply KeepBut.set_ | apply keep_drewN | apply keep_drew | apply keep_alloc) | exact HK.out)⟩
   rw [if_neg c8] at H
   have c8b0 : decide ((wrap64 ((wrap64 (s0_1 + 1)) - 1)) < (s0_0.length : Int)) = false := decide_eq_false c8
   clear c8
   by_cases c13 : (s0_0.length : Int) = 0
   ·rw [if_pos c13] at H
    exact absurd H (by simp)
   rw [if_neg c13] at H
   have c13b0 : ((s0_0.length : Int) == 0) = false := beq_eq_false_iff_ne.mpr c13
   have c13b1 : ((s0_0.length : Int) != 0) = true := bne_iff_ne.mpr c13
   have c13b2 : ¬ (s0_0 = []) := fun h_ => c13 (by rw [h_]; rfl)
   obtain ⟨ji14, hji14⟩ : ∃ j_ : Int, (Int.tmod (wrap64 ((wrap64 (s0_1 + 1)) - 1)) (s0_0.length : Int)) = j_ := ⟨_, rfl⟩
   replace H : (if 0 ≤ (ji14) then (if (ji14) < (s0_0.length : Int) then (if 0 ≤ (Int.tmod (wrap64 ((wrap64 ((wrap64 ((wrap64 (s0_1 + 1)) - 1)) * 7)) + 3)) (s0_0.length : Int)) then (if (Int.tmod (wrap64 ((wrap64 ((wrap64 ((wrap64 (s0_1 + 1)) - 1)) * 7)) + 3)) (s0_0.length : Int)) < (s0_0.length : Int) then (if a1 = 0 then (none) else (some (Int.tmod (Go.bits .xor .i64 (wrap64 ((wrap64 ((wrap64 ((wrap64 ((wrap64 (rd s0_0 (ji14))) * 131)) + (wrap64 ((wrap64 (rd s0_0 (Int.tmod (wrap64 ((wrap64 ((wrap64 ((wrap64 (s0_1 + 1)) - 1)) * 7)) + 3)) (s0_0.length : Int)))) * 1117)))) + (wrap64 ((wrap64 ((wrap64 (s0_1 + 1)) - 1)) * 29)))) + (wrap64 ((wrap64 (Int.tdiv (wrap64 ((wrap64 (s0_1 + 1)) - 1)) (s0_0.length : Int))) * 53)))) (wrap64 (Int.tdiv (wrap64 ((wrap64 ((wrap64 ((wrap64 ((wrap64 (rd s0_0 (ji14))) * 131)) + (wrap64 ((wrap64 (rd s0_0 (Int.tmod (wrap64 ((wrap64 ((wrap64 ((wrap64 (s0_1 + 1)) - 1)) * 7)) + 3)) (s0_0.length : Int)))) * 1117)))) + (wrap64 ((wrap64 ((wrap64 (s0_1 + 1)) - 1)) * 29)))) + (wrap64 ((wrap64 (Int.tdiv (wrap64 ((wrap64 (s0_1 + 1)) - 1)) (s0_0.length : Int))) * 53)))) 64))) a1, (wrap64 (s0_1 + 1))))) else (none)) else (none)) else (none)) else (none)) = some (r1, r2) := by first | (rw [hji14] at H; exact H) | (simp only [hji14] at H ⊢; exact H)
   by_cases c15 : 0 ≤ (ji14)
   rotate_left
   ·rw [if_neg c15] at H
    exact absurd H (by simp)
   rw [if_pos c15] at H
   have c15b0 : decide (0 ≤ (ji14)) = true := decide_eq_true c15
   clear c15
   by_cases c16 : (ji14) < (s0_0.length : Int)
   rotate_left
   ·rw [if_neg c16] at H
    exact absurd H (by simp)
   rw [if_pos c16] at H
   have c16b0 : decide ((ji14) < (s0_0.length : Int)) = true := decide_eq_true c16
   clear c16
   obtain ⟨ji17, hji17⟩ : ∃ j_ : Int, (Int.tmod (wrap64 ((wrap64 ((wrap64 ((wrap64 (s0_1 + 1)) - 1)) * 7)) + 3)) (s0_0.length : Int)) = j_ := ⟨_, rfl⟩
   replace H : (if 0 ≤ (ji17) then (if (ji17) < (s0_0.length : Int) then (if a1 = 0 then (none) else (some (Int.tmod (Go.bits .xor .i64 (wrap64 ((wrap64 ((wrap64 ((wrap64 ((wrap64 (rd s0_0 (ji14))) * 131)) + (wrap64 ((wrap64 (rd s0_0 (ji17))) * 1117)))) + (wrap64 ((wrap64 ((wrap64 (s0_1 + 1)) - 1)) * 29)))) + (wrap64 ((wrap64 (Int.tdiv (wrap64 ((wrap64 (s0_1 + 1)) - 1)) (s0_0.length : Int))) * 53)))) (wrap64 (Int.tdiv (wrap64 ((wrap64 ((wrap64 ((wrap64 ((wrap64 (rd s0_0 (ji14))) * 131)) + (wrap64 ((wrap64 (rd s0_0 (ji17))) * 1117)))) + (wrap64 ((wrap64 ((wrap64 (s0_1 + 1)) - 1)) * 29)))) + (wrap64 ((wrap64 (Int.tdiv (wrap64 ((wrap64 (s0_1 + 1)) - 1)) (s0_0.length : Int))) * 53)))) 64))) a1, (wrap64 (s0_1 + 1))))) else (none)) else (none)) = some (r1, r2) := by first | (rw [hji17] at H; exact H) | (simp only [hji17] at H ⊢; exact H)
   by_cases c18 : 0 ≤ (ji17)
   rotate_left
   ·rw [if_neg c18] at H
    exact absurd H (by simp)
   rw [if_pos c18] at H
   have c18b0 : decide (0 ≤ (ji17)) = true := decide_eq_true c18
   clear c18
   by_cases c19 : (ji17) < (s0_0.length : Int)
   rotate_left
   ·rw [if_neg c19] at H
    exact absurd H (by simp)
   rw [if_pos c19] at H
   have c19b0 : decide ((ji17) < (s0_0.length : Int)) = true := decide_eq_true c19
   clear c19
   by_cases c20 : a1 = 0
   ·rw [if_pos c20] at H
    exact absurd H (by simp)
   rw [if_neg c20] at H
   have c20b0 : (a1 == 0) = false := beq_eq_false_iff_ne.mpr c20
   have c20b1 : (a1 != 0) = true := bne_iff_ne.mpr c20
   simp only [Option.some.injEq, Prod.mk.injEq] at H
   obtain ⟨rfl, rfl⟩ := H
   obtain ⟨ASz21_0, cSz21_0, HGz21, hgz21, HSz21_0⟩ := HI0.out
   have hcz21_0 := cellS132_0 HGz21
   have hcz21_1 := cellS132_1 HGz21
   have hfz21_1 := blk_frozen HGz21 1
   clear HGz21 hgz21
   have p102 : 0 ≤ ((ji14) : Int) := of_decide_eq_true (by first | (with_reducible assumption) | assumption)
   have q102 : (ji14) < (s0_0.length : Int) := of_decide_eq_true (by first | (with_reducible assumption) | assumption)
   obtain ⟨ad102, e102, hx102_0⟩ := Kd.at_int HSz21_0 (ji14) p102 q102
   cases e102
   replace hx102_0 := pw_cell_below HB.out hx102_0
   replace p102 := eq_true p102
   replace q102 := eq_true q102
   have p103 : 0 ≤ ((ji17) : Int) := of_decide_eq_true (by first | (with_reducible assumption) | assumption)
   have q103 : (ji17) < (s0_0.length : Int) := of_decide_eq_true (by first | (with_reducible assumption) | assumption)
   obtain ⟨ad103, e103, hx103_0⟩ := Kd.at_int HSz21_0 (ji17) p103 q103
   obtain rfl : ad102 = ad103 := (by injection e103)
   replace hx103_0 := pw_cell_below HB.out hx103_0
   replace p103 := eq_true p103
   replace q103 := eq_true q103
   go_wp2
   repeat (go_quiet (fail); try go_wp2)
   go_ret
   exact ⟨by first | rfl | (simp [errW_none, errW_some] <;> rfl) | (simp only [← hji14, ← hji17]; first | rfl | (simp [errW_none, errW_some] <;> rfl)) | (simp [*, errW_none, errW_some] <;> rfl), by repeat (first | (with_reducible first | exact HI0.out | apply IsS132.alloc | apply IsS132.drewN | apply IsS132.drew | apply IsS132.set_1) | exact HI0.out), by repeat (first | (with_reducible first | exact HB.out | apply below_alloc | apply pw_below_drewN | apply below_drew1 | refine below_set ?_ (IsS132.ge HI0.out)) | exact HB.out), by repeat (first | (with_reducible first | exact HK.out | apply KeepBut.set_ | apply keep_drewN | apply keep_drew | apply keep_alloc) | exact HK.out)⟩
/-! ### spec_l17Rd_of: function 85 -/
def spec_l17Rd_of.f (k : Nat) (s0_0 : List Int) (s0_1 : Int) (l1 : List ByteArray) : Option (ByteArray × Int) := (spec_l17Rd_pick.f k s0_0 s0_1 (l1.length : Int)).bind fun bt101 => (if 0 ≤ bt101.1 then (if bt101.1 < (l1.length : Int) then (some (rdOf ByteArray.empty l1 bt101.1, bt101.2)) else (none)) else (none))
theorem spec_l17Rd_of.mono : ∀ a0 a1 a2 k, LeO (spec_l17Rd_of.f k a0 a1 a2) (spec_l17Rd_of.f (k + 1) a0 a1 a2) := by
 intro a0 a1 a2 k
 unfold spec_l17Rd_of.f
 repeat' first
   | (with_reducible exact spec_l17Rd_pick.mono _ _ _ _)
   | (with_reducible exact LeO.refl _)
   | (with_reducible exact LeO.none _)
   | (with_reducible refine LeO.ite ?_ ?_)
   | (with_reducible refine LeO.bind ?_ (fun _ => ?_))
   | exact spec_l17Rd_pick.mono _ _ _ _
   | exact LeO.none _
   | refine LeO.ite ?_ ?_
   | refine LeO.bind ?_ (fun _ => ?_)
set_option maxHeartbeats 8000000 in
set_option maxRecDepth 100000 in
theorem spec_l17Rd_of.calls (k : Nat) (g : Nat) (s0_0 : List Int) (s0_1 : Int) (A1 : Option Addr) (c1 : Nat) (l1 : List ByteArray) (r1 : ByteArray) (r2 : Int) (w0 w : World) (hI : IsS132 w0 w g s0_0 s0_1) (hB : Below w0.heap.size w0 w) (hr1 : Kd.C Kd.string w A1 l1.length l1) (hc1 : l1.length ≤ c1) (hf1 : ∀ ad, A1 = some ad → 0 < l1.length → ad.block ≠ g) (h : spec_l17Rd_of.f k s0_0 s0_1 l1 = some (r1, r2)) :
  Calls Tryd.prog 85 #[.pointer (some ⟨g, 0, none⟩), .slice A1 l1.length c1] w fun e w' => e = .returned (.string r1) ∧ IsS132 w0 w' g s0_0 r2 ∧ Below w0.heap.size w0 w' ∧ KeepBut w w' g none := by
 have HR1 := Aside0.mk hr1
 have HC1 := Aside0.mk hc1
 clear hr1 hc1
 have HI0 := Aside0.mk hI
 have HK := Aside0.mk (KeepBut.refl w g none)
 have HL := Aside0.mk hB.size
 clear hI
 have HW0 := Aside0.mk hB.size
 have HB := Aside0.mk hB
 clear hB
 have H : ((spec_l17Rd_pick.f k s0_0 s0_1 (l1.length : Int)).bind fun bt101 => (if 0 ≤ bt101.1 then (if bt101.1 < (l1.length : Int) then (some (rdOf ByteArray.empty l1 bt101.1, bt101.2)) else (none)) else (none))) = some (r1, r2) := h
 clear h
 replace H := Option.bind_eq_some_iff.mp H
 obtain ⟨⟨t101, t102⟩, A30, H⟩ := H
 replace H : (if 0 ≤ t101 then (if t101 < (l1.length : Int) then (some (rdOf ByteArray.empty l1 t101, t102)) else (none)) else (none)) = some (r1, r2) := H
 have A3 := Aside0.mk A30
 clear A30
 by_cases c4 : 0 ≤ t101
 ·rw [if_pos c4] at H
  have c4b0 : decide (0 ≤ t101) = true := decide_eq_true c4
  clear c4
  by_cases c5 : t101 < (l1.length : Int)
  ·rw [if_pos c5] at H
   have c5b0 : decide (t101 < (l1.length : Int)) = true := decide_eq_true c5
   clear c5
   simp only [Option.some.injEq, Prod.mk.injEq] at H
   obtain ⟨rfl, rfl⟩ := H
   go_enter Tryd.func85, Tryd.ntmps85
   go_wp2_with (first | ((with_reducible refine gate_callee (f := 84) rfl ?_); refine goesL_ (some 9) rfl rfl Tryd.func84 (by kernel_rfl) rfl #[.pointer (some ⟨g, 0, none⟩), .int .i64 (l1.length : Int)] rfl (by (try simp only [List.map_toArray, List.map_cons, List.map_nil]); first | done | rfl | (simp only [List.length_drop, List.length_take]; rfl)) ?_; (with_reducible refine (spec_l17Rd_pick.calls k g s0_0 s0_1 (l1.length : Int) t101 t102 w0 _ ?side1 ?side2 A3.out).mono ?_); (case side1 => repeat (first | (with_reducible first | exact HI0.out | apply IsS132.alloc | apply IsS132.drewN | apply IsS132.drew | apply IsS132.set_1) | exact HI0.out)); (case side2 => repeat (first | (with_reducible first | exact HB.out | apply below_alloc | apply pw_below_drewN | apply below_drew1 | refine below_set ?_ (IsS132.ge HI0.out)) | exact HB.out)); rintro e w6 ⟨rfl, hi, hb, hk⟩; refine ⟨_, rfl, ?_⟩; refine rn3 (KeepBut.trans (by repeat (first | (with_reducible first | exact HK.out | apply KeepBut.set_ | apply keep_drewN | apply keep_drew | apply keep_alloc) | exact HK.out)) hk (.inl rfl)) (hb) (hi) ?_; clear HK HB HI0; intro HK HB HI0; (try clear hb); (try clear hb2); (try clear hk); (try clear hi); have p103 : 0 ≤ (t101 : Int) := of_decide_eq_true (by first | (with_reducible assumption) | assumption); have q103 : t101 < (l1.length : Int) := of_decide_eq_true (by first | (with_reducible assumption) | assumption); obtain ⟨ad103, e103, hx103_0⟩ := Kd.at_string HR1.out t101 p103 q103; cases e103; replace hx103_0 := keep_cell HK.out hx103_0 (by first | (rw [add_block]; exact hf1 _ rfl (by omega)) | exact hf1 _ rfl (by omega) | exact hf1 ad103 rfl (by omega)); replace p103 := eq_true p103; replace q103 := eq_true q103))
   go_ret
   exact ⟨by first | rfl | (simp [errW_none, errW_some] <;> rfl) | (simp [*, errW_none, errW_some] <;> rfl), by repeat (first | (with_reducible first | exact HI0.out | apply IsS132.alloc | apply IsS132.drewN | apply IsS132.drew | apply IsS132.set_1) | exact HI0.out), by repeat (first | (with_reducible first | exact HB.out | apply below_alloc | apply pw_below_drewN | apply below_drew1 | refine below_set ?_ (IsS132.ge HI0.out)) | exact HB.out), by repeat (first | (with_reducible first | exact HK.out | apply KeepBut.set_ | apply keep_drewN | apply keep_drew | apply keep_alloc) | exact HK.out)⟩
  rw [if_neg c5] at H
  exact absurd H (by simp)
 rw [if_neg c4] at H
 exact absurd H (by simp)
/-! ### spec_l1Signed: function 136 -/
def spec_l1Signed.l0 : Nat → Int → ByteArray → Int → List Int → Int → Option (ByteArray × Int)
 | 0, _, _, _, _, _ => none
 | k + 1, x1, x5, x6, x1000, x1001 => if x6 < x1 then ((spec_l17Rd_of.f k x1000 x1001 (([(⟨#[97]⟩ : ByteArray), (⟨#[98]⟩ : ByteArray), (⟨#[65]⟩ : ByteArray), (⟨#[66]⟩ : ByteArray), (⟨#[97]⟩ : ByteArray), (⟨#[99]⟩ : ByteArray), (⟨#[98]⟩ : ByteArray), (⟨#[67]⟩ : ByteArray), (⟨#[100]⟩ : ByteArray)] : List ByteArray))).bind fun bt104 => (if x5.size + bt104.1.size ≤ 9223372036854775807 then (spec_l1Signed.l0 k x1 (x5 ++ bt104.1) (wrap64 (x6 + 1)) x1000 bt104.2) else (none))) else (some (x5, x1001))
def spec_l1Signed.f (k : Nat) (s0_0 : List Int) (s0_1 : Int) (a1 : Int) : Option (ByteArray × Int) := spec_l1Signed.l0 k a1 (⟨#[]⟩ : ByteArray) 0 s0_0 s0_1
theorem spec_l1Signed.mono_l : ∀ k, (∀ y0 y1 y2 y3 y4, LeO (spec_l1Signed.l0 k y0 y1 y2 y3 y4) (spec_l1Signed.l0 (k + 1) y0 y1 y2 y3 y4))
 | 0 => fun _ _ _ _ _ r h => by simp [spec_l1Signed.l0] at h
 | k + 1 => by
  have ih0 := spec_l1Signed.mono_l k
  intro y0 y1 y2 y3 y4
  unfold spec_l1Signed.l0
  repeat' first
  | (with_reducible exact ih0 _ _ _ _ _)
  | (with_reducible exact spec_l17Rd_of.mono _ _ _ _)
  | (with_reducible exact LeO.refl _)
  | (with_reducible exact LeO.none _)
  | (with_reducible refine LeO.ite ?_ ?_)
  | (with_reducible refine LeO.bind ?_ (fun _ => ?_))
  | exact ih0 _ _ _ _ _
  | exact spec_l17Rd_of.mono _ _ _ _
  | exact LeO.none _
  | refine LeO.ite ?_ ?_
  | refine LeO.bind ?_ (fun _ => ?_)
theorem spec_l1Signed.mono : ∀ a0 a1 a2 k, LeO (spec_l1Signed.f k a0 a1 a2) (spec_l1Signed.f (k + 1) a0 a1 a2) := by
 intro a0 a1 a2 k
 have ih0 := spec_l1Signed.mono_l k
 unfold spec_l1Signed.f
 repeat' first
   | (with_reducible exact ih0 _ _ _ _ _)
   | (with_reducible exact spec_l17Rd_of.mono _ _ _ _)
   | (with_reducible exact LeO.refl _)
   | (with_reducible exact LeO.none _)
   | (with_reducible refine LeO.ite ?_ ?_)
   | (with_reducible refine LeO.bind ?_ (fun _ => ?_))
   | exact ih0 _ _ _ _ _
   | exact spec_l17Rd_of.mono _ _ _ _
   | exact LeO.none _
   | refine LeO.ite ?_ ?_
   | refine LeO.bind ?_ (fun _ => ?_)
set_option maxHeartbeats 8000000 in
set_option maxRecDepth 100000 in
theorem spec_l1Signed.calls (k : Nat) (g : Nat) (s0_0 : List Int) (s0_1 : Int) (a1 : Int) (r1 : ByteArray) (r2 : Int) (w0 w : World) (hI : IsS132 w0 w g s0_0 s0_1) (hB : Below w0.heap.size w0 w) (h : spec_l1Signed.f k s0_0 s0_1 a1 = some (r1, r2)) :
  Calls Tryd.prog 136 #[.pointer (some ⟨g, 0, none⟩), .int .i64 a1] w fun e w' => e = .returned (.string r1) ∧ IsS132 w0 w' g s0_0 r2 ∧ Below w0.heap.size w0 w' ∧ KeepBut w w' g none := by
 have HI0 := Aside0.mk hI
 have HK := Aside0.mk (KeepBut.refl w g none)
 have HL := Aside0.mk hB.size
 clear hI
 have HW0 := Aside0.mk hB.size
 have HB := Aside0.mk hB
 clear hB
 have H : (spec_l1Signed.l0 k a1 (⟨#[]⟩ : ByteArray) 0 s0_0 s0_1) = some (r1, r2) := h
 clear h
 have H' := Aside0.mk H
 clear H
 go_enter Tryd.func136, Tryd.ntmps136
 go_wp2
 go_loopg [5, 6] k (fun kq v5 v6 w' => ∃ (x5_1 : ByteArray) (x6_1 : Int) (x1001_1 : Int), v5 = .string x5_1 ∧ v6 = .int .i64 x6_1 ∧ Aside0 (spec_l1Signed.l0 kq a1 x5_1 x6_1 s0_0 x1001_1 = some (r1, r2)) ∧ Aside0 (kq ≤ k) ∧ Aside0 (IsS132 w0 w' g s0_0 x1001_1) ∧ Aside0 (KeepBut w w' g none) ∧ Aside0 (Below w0.heap.size w0 w'))
 case atStart => exact ⟨((⟨#[]⟩ : ByteArray)), (0), (s0_1), (by first | rfl | (simp; done) | (simp [*]; done)), (by first | rfl | (simp; done) | (simp [*]; done)), H', ⟨Nat.le_refl _⟩, ⟨by repeat (first | (with_reducible first | exact HI0.out | apply IsS132.alloc | apply IsS132.drewN | apply IsS132.drew | apply IsS132.set_1) | exact HI0.out)⟩, ⟨by repeat (first | (with_reducible first | exact HK.out | apply KeepBut.set_ | apply keep_drewN | apply keep_drew | apply keep_alloc) | exact HK.out)⟩, ⟨by repeat (first | (with_reducible first | exact HB.out | apply below_alloc | apply pw_below_drewN | apply below_drew1 | refine below_set ?_ (IsS132.ge HI0.out)) | exact HB.out)⟩⟩
 case round =>
  clear H'
  try clear c1
  try clear p2
  obtain ⟨x5_1, x6_1, x1001_1, rfl, rfl, HA, HK1, HI0, HK, HB⟩ := hrel
  cases gk with
  | zero => exact absurd HA.out (by simp [spec_l1Signed.l0])
  | succ k1 =>
   have H := HA.out
   clear HA
   simp only [spec_l1Signed.l0] at H
   by_cases c3 : x6_1 < a1
   rotate_left
   ·rw [if_neg c3] at H
    have c3b0 : decide (x6_1 < a1) = false := decide_eq_false c3
    clear c3
    simp only [Option.some.injEq, Prod.mk.injEq] at H
    obtain ⟨rfl, rfl⟩ := H
    go_wp2
    go_ret
    exact ⟨by first | rfl | (simp [errW_none, errW_some] <;> rfl) | (simp [*, errW_none, errW_some] <;> rfl), by repeat (first | (with_reducible first | exact HI0.out | apply IsS132.alloc | apply IsS132.drewN | apply IsS132.drew | apply IsS132.set_1) | exact HI0.out), by repeat (first | (with_reducible first | exact HB.out | apply below_alloc | apply pw_below_drewN | apply below_drew1 | refine below_set ?_ (IsS132.ge HI0.out)) | exact HB.out), by repeat (first | (with_reducible first | exact HK.out | apply KeepBut.set_ | apply keep_drewN | apply keep_drew | apply keep_alloc) | exact HK.out)⟩
   rw [if_pos c3] at H
   have c3b0 : decide (x6_1 < a1) = true := decide_eq_true c3
   clear c3
   obtain ⟨y101, hy101⟩ : ∃ y_ : List ByteArray, y_ = (([(⟨#[97]⟩ : ByteArray), (⟨#[98]⟩ : ByteArray), (⟨#[65]⟩ : ByteArray), (⟨#[66]⟩ : ByteArray), (⟨#[97]⟩ : ByteArray), (⟨#[99]⟩ : ByteArray), (⟨#[98]⟩ : ByteArray), (⟨#[67]⟩ : ByteArray), (⟨#[100]⟩ : ByteArray)] : List ByteArray)) := ⟨_, rfl⟩
   replace H : ((spec_l17Rd_of.f k1 s0_0 x1001_1 y101).bind fun bt104 => (if x5_1.size + bt104.1.size ≤ 9223372036854775807 then (spec_l1Signed.l0 k1 a1 (x5_1 ++ bt104.1) (wrap64 (x6_1 + 1)) s0_0 bt104.2) else (none))) = some (r1, r2) := by first | (rw [hy101]; with_reducible exact H) | (have H2_ := (Option.bind_some _ _).symm.trans H; rw [hy101]; with_reducible exact H2_) | (have H2_ := (Option.bind_some _ _).symm.trans H; with_reducible exact H2_) | with_reducible exact H | (rw [hy101]; exact H) | exact H
   have Ny101 := Aside0.mk hy101
   clear hy101
   replace H := Option.bind_eq_some_iff.mp H
   obtain ⟨⟨t104, t105⟩, A40, H⟩ := H
   replace H : (if x5_1.size + t104.size ≤ 9223372036854775807 then (spec_l1Signed.l0 k1 a1 (x5_1 ++ t104) (wrap64 (x6_1 + 1)) s0_0 t105) else (none)) = some (r1, r2) := H
   have A4 := Aside0.mk A40
   clear A40
   by_cases c5 : x5_1.size + t104.size ≤ 9223372036854775807
   ·rw [if_pos c5] at H
    have c5b0 := eq_true c5
    have c5b1 : decide (x5_1.size + t104.size ≤ 9223372036854775807) = true := decide_eq_true c5
    try have c5b2 : (9223372036854775807 < x5_1.size + t104.size) = False := eq_false (Nat.not_lt.2 c5)
    have H' := Aside0.mk H
    clear H
    go_wp2_with (first | ((with_reducible refine gate_dst (N := 14) rfl ?_); refine Kd.R_lit Kd.string _ 9 ?hg (N := 14) ?hd (xs := ([(⟨#[97]⟩ : ByteArray), (⟨#[98]⟩ : ByteArray), (⟨#[65]⟩ : ByteArray), (⟨#[66]⟩ : ByteArray), (⟨#[97]⟩ : ByteArray), (⟨#[99]⟩ : ByteArray), (⟨#[98]⟩ : ByteArray), (⟨#[67]⟩ : ByteArray), (⟨#[100]⟩ : ByteArray)] : List ByteArray)) (inner := [.string (⟨#[97]⟩ : ByteArray), .string (⟨#[98]⟩ : ByteArray), .string (⟨#[65]⟩ : ByteArray), .string (⟨#[66]⟩ : ByteArray), .string (⟨#[97]⟩ : ByteArray), .string (⟨#[99]⟩ : ByteArray), .string (⟨#[98]⟩ : ByteArray), .string (⟨#[67]⟩ : ByteArray), .string (⟨#[100]⟩ : ByteArray)]) (ok := fun _ => True) (okp := fun _ => True) ?hr ?hp (fun _ hk => hk) trivial (Below.refl _ _) (Nat.le_refl _) (by simp) ?_; (case hd => rfl); (case hg => rfl); (case hr => first | (go_simp; done) | (go_simp; rfl)); (case hp => exact (Reps.one (show Kd.M Kd.string _ _ _ (⟨#[97]⟩ : ByteArray) [.string (⟨#[97]⟩ : ByteArray)] from rfl) (Reps.one (show Kd.M Kd.string _ _ _ (⟨#[98]⟩ : ByteArray) [.string (⟨#[98]⟩ : ByteArray)] from rfl) (Reps.one (show Kd.M Kd.string _ _ _ (⟨#[65]⟩ : ByteArray) [.string (⟨#[65]⟩ : ByteArray)] from rfl) (Reps.one (show Kd.M Kd.string _ _ _ (⟨#[66]⟩ : ByteArray) [.string (⟨#[66]⟩ : ByteArray)] from rfl) (Reps.one (show Kd.M Kd.string _ _ _ (⟨#[97]⟩ : ByteArray) [.string (⟨#[97]⟩ : ByteArray)] from rfl) (Reps.one (show Kd.M Kd.string _ _ _ (⟨#[99]⟩ : ByteArray) [.string (⟨#[99]⟩ : ByteArray)] from rfl) (Reps.one (show Kd.M Kd.string _ _ _ (⟨#[98]⟩ : ByteArray) [.string (⟨#[98]⟩ : ByteArray)] from rfl) (Reps.one (show Kd.M Kd.string _ _ _ (⟨#[67]⟩ : ByteArray) [.string (⟨#[67]⟩ : ByteArray)] from rfl) (Reps.one (show Kd.M Kd.string _ _ _ (⟨#[100]⟩ : ByteArray) [.string (⟨#[100]⟩ : ByteArray)] from rfl) (Reps.none _ _))))))))))); intro v102 w6 ho7 hb hg_ hnew_; clear hg_ hnew_; (first | rw [← Ny101.out] at ho7 | (simp only [Int.reduceToNat] at ho7; rw [← Ny101.out] at ho7)); refine rn4 (Kd.R_lower ho7 (keep_size (w := w) (g := g) (row := none) (by repeat (first | (with_reducible first | exact HK.out | apply KeepBut.set_ | apply keep_drewN | apply keep_drew | apply keep_alloc) | exact HK.out)))) (IsS132.below (by repeat (first | (with_reducible first | exact HI0.out | apply IsS132.alloc | apply IsS132.drewN | apply IsS132.drew | apply IsS132.set_1) | exact HI0.out)) hb) (KeepBut.trans (by repeat (first | (with_reducible first | exact HK.out | apply KeepBut.set_ | apply keep_drewN | apply keep_drew | apply keep_alloc) | exact HK.out)) (KeepBut.of_below hb g none) (.inl rfl)) (below_step (by repeat (first | (with_reducible first | exact HB.out | apply below_alloc | apply pw_below_drewN | apply below_drew1 | refine below_set ?_ (IsS132.ge HI0.out)) | exact HB.out)) hb) ?_; clear HI0 HK HB; intro HO103 HI0 HK HB; clear hb ho7; obtain ⟨Ao8, co8, eo8⟩ := Kd.R_slice HO103.out; subst eo8) | ((with_reducible refine gate_callee (f := 85) rfl ?_); refine goesL_ (some 15) rfl rfl Tryd.func85 (by kernel_rfl) rfl #[.pointer (some ⟨g, 0, none⟩), .slice Ao8 y101.length co8] rfl (by (try simp only [List.map_toArray, List.map_cons, List.map_nil]); first | done | rfl | (simp only [List.length_drop, List.length_take]; rfl)) ?_; (with_reducible refine (spec_l17Rd_of.calls k1 g s0_0 x1001_1 _ _ y101 t104 t105 w0 _ ?side1 ?side2 ?side3 ?side4 ?side5 A4.out).mono ?_); (case side1 => repeat (first | (with_reducible first | exact HI0.out | apply IsS132.alloc | apply IsS132.drewN | apply IsS132.drew | apply IsS132.set_1) | exact HI0.out)); (case side2 => repeat (first | (with_reducible first | exact HB.out | apply below_alloc | apply pw_below_drewN | apply below_drew1 | refine below_set ?_ (IsS132.ge HI0.out)) | exact HB.out)); (case side3 => repeat (first | exact (Kd.R_reads' HO103.out).2.2 | (with_reducible refine Kd.C_alloc ?_ _) | (with_reducible refine Kd.C_drewN ?_ _) | (with_reducible refine Kd.C_drew ?_))); (case side4 => exact (Kd.R_reads' HO103.out).2.1); (case side5 => exact far_slice (IsS132.own_ne HI0.out HO103.out (by decide))); rintro e w9 ⟨rfl, hi, hb, hk⟩; refine ⟨_, rfl, ?_⟩; refine rn4 (Kd.R_mono (Kd.R_keep (IsS132.apart (show IsS132 w0 _ g s0_0 x1001_1 from by repeat (first | (with_reducible first | exact HI0.out | apply IsS132.alloc | apply IsS132.drewN | apply IsS132.drew | apply IsS132.set_1) | exact HI0.out)) (by (with_reducible repeat (first | apply Kd.R_alloc | apply Kd.R_drewN | apply Kd.R_drew)); exact HO103.out) (by decide)) hk (fun _ h => h.2)) (fun _ h => h.1)) (KeepBut.trans (by repeat (first | (with_reducible first | exact HK.out | apply KeepBut.set_ | apply keep_drewN | apply keep_drew | apply keep_alloc) | exact HK.out)) hk (.inl rfl)) (hb) (hi) ?_; clear HO103 HK HB HI0; intro HO103 HK HB HI0; (try clear hb); (try clear hb2); (try clear hk); (try clear hi)))
    go_roundg k1
    case measure => have := HK1.out; omega
    case rel => exact ⟨(x5_1 ++ t104), (wrap64 (x6_1 + 1)), (t105), (by first | rfl | (simp; done) | (simp [*]; done)), (by first | rfl | (simp; done) | (simp [*]; done)), H', ⟨by have := HK1.out; omega⟩, ⟨by repeat (first | (with_reducible first | exact HI0.out | apply IsS132.alloc | apply IsS132.drewN | apply IsS132.drew | apply IsS132.set_1) | exact HI0.out)⟩, ⟨by repeat (first | (with_reducible first | exact HK.out | apply KeepBut.set_ | apply keep_drewN | apply keep_drew | apply keep_alloc) | exact HK.out)⟩, ⟨by repeat (first | (with_reducible first | exact HB.out | apply below_alloc | apply pw_below_drewN | apply below_drew1 | refine below_set ?_ (IsS132.ge HI0.out)) | exact HB.out)⟩⟩
   rw [if_neg c5] at H
   exact absurd H (by simp)
theorem q35_1 {p : Prop} (h : p := by repeat (first | (with_reducible first | exact HI0.out | apply IsS132.alloc | apply IsS132.drewN | apply IsS132.drew | apply IsS132.set_1 | refine IsS132.far ?_ NB0_101.out _ | refine IsS132.far ?_ NB0_102.out _ | refine IsS132.far ?_ NB0_109.out _ | refine IsS132.far ?_ HN0_go54.out _ | refine IsS132.far ?_ HN0_go75.out _) | exact HI0.out)) : p := h
theorem q35_2 {p : Prop} (h : p := by repeat (first | (with_reducible first | exact HK.out | apply KeepBut.set_ | apply keep_drewN | apply keep_drew | apply keep_alloc | refine keep_far ?_ GW101.out _ | refine keep_far ?_ GW102.out _ | refine keep_far ?_ GW109.out _ | refine keep_far ?_ GB54.out _ | refine keep_far ?_ GB75.out _) | exact HK.out)) : p := h
theorem q35_3 {p : Prop} (h : p := by repeat (first | (with_reducible first | exact HB.out | apply below_alloc | apply pw_below_drewN | apply below_drew1 | refine below_set ?_ (IsS132.ge HI0.out) | refine below_set ?_ GE101.out | refine below_set ?_ GE102.out | refine below_set ?_ GE109.out | refine below_set ?_ (Nat.le_trans HL.out GB54.out) | refine below_set ?_ (Nat.le_trans HL.out GB75.out)) | exact HB.out)) : p := h
theorem q35_4 {p : Prop} (h : p := by (with_reducible repeat (first | refine blk_drewN ?_ _ | refine blk_drew ?_ | refine blk_alloc ?_ _)); exact BK101.out) : p := h
theorem q35_5 {p : Prop} (h : p := by (with_reducible repeat (first | refine blk_drewN ?_ _ | refine blk_drew ?_ | refine blk_alloc ?_ _)); exact BK102.out) : p := h
theorem q35_6 {p : Prop} (h : p := by (with_reducible repeat (first | refine blk_drewN ?_ _ | refine blk_drew ?_ | refine blk_alloc ?_ _)); exact BK109.out) : p := h
theorem q35_7 {p : Prop} (h : p := by (try simp only [List.map_toArray, List.map_cons, List.map_nil]); first | done | rfl | (simp only [List.length_drop, List.length_take]; rfl)) : p := h
theorem q35_8 {p : Prop} (h : p := by (with_reducible repeat (first | apply Kd.R_alloc | apply Kd.R_drewN | apply Kd.R_drew)); exact HO_110001.out) : p := h
theorem q35_9 {p : Prop} (h : p := by (with_reducible repeat (first | refine blk_drewN ?_ _ | refine blk_drew ?_ | refine blk_alloc ?_ _)); refine blk_put (cs := #[.string a1_0, .slice none 0 0]) ?_ 1 _ rfl; (with_reducible repeat (first | refine blk_drewN ?_ _ | refine blk_drew ?_ | refine blk_alloc ?_ _)); refine blk_put (cs := #[.string (⟨#[]⟩ : ByteArray), .slice none 0 0]) ?_ 0 _ rfl; (with_reducible repeat (first | refine blk_drewN ?_ _ | refine blk_drew ?_ | refine blk_alloc ?_ _)); exact BK102.out) : p := h
theorem q35_10 {p : Prop} (h : p := by first | (with_reducible assumption) | assumption) : p := h
theorem q35_11 {p : Prop} (h : p := by (with_reducible repeat (first | refine blk_drewN ?_ _ | refine blk_drew ?_ | refine blk_alloc ?_ _)); refine blk_put (cs := #[.string a1_0, .slice none 0 0]) ?_ 1 _ rfl; (with_reducible repeat (first | refine blk_drewN ?_ _ | refine blk_drew ?_ | refine blk_alloc ?_ _)); refine blk_put (cs := #[.string (⟨#[]⟩ : ByteArray), .slice none 0 0]) ?_ 0 _ rfl; (with_reducible repeat (first | refine blk_drewN ?_ _ | refine blk_drew ?_ | refine blk_alloc ?_ _)); exact BK109.out) : p := h
theorem q35_12 {p : Prop} (h : p := by (with_reducible repeat (first | refine blk_drewN ?_ _ | refine blk_drew ?_ | refine blk_alloc ?_ _)); refine blk_far ?_ NB101_109.out _; (with_reducible repeat (first | refine blk_drewN ?_ _ | refine blk_drew ?_ | refine blk_alloc ?_ _)); refine blk_far ?_ NB101_109.out _; (with_reducible repeat (first | refine blk_drewN ?_ _ | refine blk_drew ?_ | refine blk_alloc ?_ _)); exact BK101.out) : p := h
theorem q35_13 {p : Prop} (h : p := by (with_reducible repeat (first | refine blk_drewN ?_ _ | refine blk_drew ?_ | refine blk_alloc ?_ _)); refine blk_far ?_ NB102_109.out _; (with_reducible repeat (first | refine blk_drewN ?_ _ | refine blk_drew ?_ | refine blk_alloc ?_ _)); refine blk_far ?_ NB102_109.out _; (with_reducible repeat (first | refine blk_drewN ?_ _ | refine blk_drew ?_ | refine blk_alloc ?_ _)); exact BK102.out) : p := h
theorem q35_14 {p : Prop} (h : p := by (with_reducible repeat (first | apply Kd.R_alloc | apply Kd.R_drewN | apply Kd.R_drew)); exact (Kd.R_mono (Kd.R_far (p := ⟨gb109, 1, none⟩) (Kd.R_far (p := ⟨gb109, 0, none⟩) (Kd.R_types HO108.out BK109.out (by decide)) (fun _ hk => hk.2) (.string a1_0)) (fun _ hk => hk.2) (.slice Ao14 y106.length co14)) (fun _ h_ => h_.1))) : p := h
theorem q35_15 {p : Prop} (h : p := by (with_reducible repeat (first | apply Kd.R_alloc | apply Kd.R_drewN | apply Kd.R_drew)); exact HO105.out) : p := h
theorem q35_16 {p : Prop} (h : p := by (with_reducible repeat (first | apply Kd.R_alloc | apply Kd.R_drewN | apply Kd.R_drew)); exact HO108.out) : p := h
theorem q35_17 {p : Prop} (h : p := by simp only [putAll, Act.put, List.setIfInBounds_toArray, List.set_cons_zero, List.set_cons_succ]) : p := h
theorem q35_18 {p : Prop} (h : p := by have h_ := IsS132.own_ne HI0.out HO_110001.out (by decide); intro e_; exact h_ (by rw [e_]; rfl)) : p := h
theorem q35_19 {p : Prop} (h : p := by have h_ := Kd.R_ne HO_110001.out BK101.out (by decide); intro e_; exact h_ (by rw [e_]; rfl)) : p := h
theorem q35_20 {p : Prop} (h : p := by have h_ := Kd.R_ne HO_110001.out BK102.out (by decide); intro e_; exact h_ (by rw [e_]; rfl)) : p := h
theorem q35_21 {p : Prop} (h : p := by have h_ := Kd.R_ne HO_110001.out BK109.out (by decide); intro e_; exact h_ (by rw [e_]; rfl)) : p := h
/-! ### spec_l1Bent: function 99 -/
mutual
def spec_l1Bent.j0 : Nat → Int → Bool → List Int → Int → ByteArray → List (S46) → Option (ByteArray × (List (S46)) × Int)
 | 0, _, _, _, _, _, _ => none
 | k + 1, x6, x24, x1000, x1001, x110000, x110001 => if x24 = true then (some (x110000, x110001, x1001)) else ((spec_l17Rd_pick.f k x1000 x1001 x6).bind fun bt112 => ((spec_l17Rd_pick.f k x1000 bt112.2 5).bind fun bt114 => (if bt114.1 = 0 then ((spec_l17Rd_of.f k x1000 bt114.2 (([(⟨#[]⟩ : ByteArray), (⟨#[97]⟩ : ByteArray), (⟨#[65, 66]⟩ : ByteArray), (⟨#[70]⟩ : ByteArray), (⟨#[66]⟩ : ByteArray)] : List ByteArray))).bind fun bt119 => (some (bt119.1, x110001, bt119.2))) else (if bt114.1 = 1 then ((spec_l17Rd_of.f k x1000 bt114.2 (([(⟨#[]⟩ : ByteArray), (⟨#[97]⟩ : ByteArray), (⟨#[65, 66]⟩ : ByteArray), (⟨#[70]⟩ : ByteArray)] : List ByteArray))).bind fun bt124 => (if 0 ≤ bt112.1 then (if bt112.1 < (x110001.length : Int) then (some (x110000, (x110001.set (bt112.1 : Int).toNat (⟨bt124.1, (rd_T46 x110001 bt112.1).f1⟩ : S46)), bt124.2)) else (none)) else (none))) else (if bt114.1 = 2 then ((spec_l17Rd_of.f k x1000 bt114.2 (([(⟨#[97, 97, 97, 97, 97]⟩ : ByteArray), (⟨#[101]⟩ : ByteArray), (⟨#[32]⟩ : ByteArray), (⟨#[97, 62]⟩ : ByteArray), (⟨#[70]⟩ : ByteArray)] : List ByteArray))).bind fun bt130 => (if 0 ≤ bt112.1 then (if bt112.1 < (x110001.length : Int) then (some (x110000, (x110001.set (bt112.1 : Int).toNat (⟨(rd_T46 x110001 bt112.1).f0, bt130.1⟩ : S46)), bt130.2)) else (none)) else (none))) else (if bt114.1 = 3 then (if 0 ≤ bt112.1 then (if bt112.1 < (x110001.length : Int) then (if x110001.length < 4398046511104 then (some (x110000, (x110001 ++ [(⟨(rd_T46 x110001 bt112.1).f0, (rd_T46 x110001 bt112.1).f1⟩ : S46)]), bt114.2)) else (none)) else (none)) else (none)) else (spec_l1Bent.l0 k x1000 bt114.2 x110000 x110001)))))))
def spec_l1Bent.l0 : Nat → List Int → Int → ByteArray → List (S46) → Option (ByteArray × (List (S46)) × Int)
 | 0, _, _, _, _ => none
 | k + 1, x1000, x1001, x110000, x110001 => if (x110001.length : Int) ≤ 8 then ((spec_l1Signed.f k x1000 x1001 3).bind fun bt137 => (if x110001.length < 4398046511104 then (spec_l1Bent.l0 k x1000 bt137.2 x110000 (x110001 ++ [(⟨(⟨#[69]⟩ : ByteArray), bt137.1⟩ : S46)])) else (none))) else (some (x110000, x110001, x1001))
end
def spec_l1Bent.f (k : Nat) (s0_0 : List Int) (s0_1 : Int) (a1_0 : ByteArray) (l1_1 : List (S46)) : Option (ByteArray × (List (S46)) × Int) := (some (([] : List (S46)) : List (S46))).bind fun y103 => (if y103.length + l1_1.length < 4398046511104 then ((some (y103 ++ l1_1 : List (S46))).bind fun y106 => ((spec_l17Rd_pick.f k s0_0 s0_1 12).bind fun bt110 => (if bt110.1 > 0 then (spec_l1Bent.j0 k (y106.length : Int) true s0_0 bt110.2 a1_0 y106) else (spec_l1Bent.j0 k (y106.length : Int) ((y106.length : Int) == 0) s0_0 bt110.2 a1_0 y106)))) else (none))
theorem spec_l1Bent.mono_l : ∀ k, (∀ y0 y1 y2 y3 y4 y5, LeO (spec_l1Bent.j0 k y0 y1 y2 y3 y4 y5) (spec_l1Bent.j0 (k + 1) y0 y1 y2 y3 y4 y5)) ∧ (∀ y0 y1 y2 y3, LeO (spec_l1Bent.l0 k y0 y1 y2 y3) (spec_l1Bent.l0 (k + 1) y0 y1 y2 y3))
 | 0 => ⟨fun _ _ _ _ _ _ r h => by simp [spec_l1Bent.j0] at h, fun _ _ _ _ r h => by simp [spec_l1Bent.l0] at h⟩
 | k + 1 => by
  obtain ⟨ih0, ih1⟩ := spec_l1Bent.mono_l k
  refine ⟨?_, ?_⟩
  ·intro y0 y1 y2 y3 y4 y5
   unfold spec_l1Bent.j0
   repeat' first
   | (with_reducible exact ih0 _ _ _ _ _ _)
   | (with_reducible exact ih1 _ _ _ _)
   | (with_reducible exact spec_l17Rd_of.mono _ _ _ _)
   | (with_reducible exact spec_l17Rd_pick.mono _ _ _ _)
   | (with_reducible exact spec_l1Signed.mono _ _ _ _)
   | (with_reducible exact LeO.refl _)
   | (with_reducible exact LeO.none _)
   | (with_reducible refine LeO.ite ?_ ?_)
   | (with_reducible refine LeO.bind ?_ (fun _ => ?_))
   | exact ih0 _ _ _ _ _ _
   | exact ih1 _ _ _ _
   | exact spec_l17Rd_of.mono _ _ _ _
   | exact spec_l17Rd_pick.mono _ _ _ _
   | exact spec_l1Signed.mono _ _ _ _
   | exact LeO.none _
   | refine LeO.ite ?_ ?_
   | refine LeO.bind ?_ (fun _ => ?_)
  intro y0 y1 y2 y3
  unfold spec_l1Bent.l0
  repeat' first
  | (with_reducible exact ih0 _ _ _ _ _ _)
  | (with_reducible exact ih1 _ _ _ _)
  | (with_reducible exact spec_l17Rd_of.mono _ _ _ _)
  | (with_reducible exact spec_l17Rd_pick.mono _ _ _ _)
  | (with_reducible exact spec_l1Signed.mono _ _ _ _)
  | (with_reducible exact LeO.refl _)
  | (with_reducible exact LeO.none _)
  | (with_reducible refine LeO.ite ?_ ?_)
  | (with_reducible refine LeO.bind ?_ (fun _ => ?_))
  | exact ih0 _ _ _ _ _ _
  | exact ih1 _ _ _ _
  | exact spec_l17Rd_of.mono _ _ _ _
  | exact spec_l17Rd_pick.mono _ _ _ _
  | exact spec_l1Signed.mono _ _ _ _
  | exact LeO.none _
  | refine LeO.ite ?_ ?_
  | refine LeO.bind ?_ (fun _ => ?_)
theorem spec_l1Bent.mono : ∀ a0 a1 a2 a3 k, LeO (spec_l1Bent.f k a0 a1 a2 a3) (spec_l1Bent.f (k + 1) a0 a1 a2 a3) := by
 intro a0 a1 a2 a3 k
 obtain ⟨ih0, ih1⟩ := spec_l1Bent.mono_l k
 unfold spec_l1Bent.f
 repeat' first
   | (with_reducible exact ih0 _ _ _ _ _ _)
   | (with_reducible exact ih1 _ _ _ _)
   | (with_reducible exact spec_l17Rd_of.mono _ _ _ _)
   | (with_reducible exact spec_l17Rd_pick.mono _ _ _ _)
   | (with_reducible exact spec_l1Signed.mono _ _ _ _)
   | (with_reducible exact LeO.refl _)
   | (with_reducible exact LeO.none _)
   | (with_reducible refine LeO.ite ?_ ?_)
   | (with_reducible refine LeO.bind ?_ (fun _ => ?_))
   | exact ih0 _ _ _ _ _ _
   | exact ih1 _ _ _ _
   | exact spec_l17Rd_of.mono _ _ _ _
   | exact spec_l17Rd_pick.mono _ _ _ _
   | exact spec_l1Signed.mono _ _ _ _
   | exact LeO.none _
   | refine LeO.ite ?_ ?_
   | refine LeO.bind ?_ (fun _ => ?_)
def spec_l1Bent.T1 : Bool × List (List Nat × List Nat) := (true, [([], []), ([0], [0]), ([], []), ([], []), ([3], [3]), ([2, 4], [2, 4]), ([1, 5], [1, 5]), ([], []), ([7, 6, 5, 0, 1, 2, 3, 4, 5, 6, 7], [6, 7])])
def spec_l1Bent.B1 : List Nat := [0, 1, 0, 0, 8, 28, 63, 0, 255]
theorem spec_l1Bent.tab1 : rtab .any (opsOf Tryd.f99 1) = spec_l1Bent.T1 := by kernel_rfl
theorem spec_l1Bent.bits1 : waitsOk spec_l1Bent.T1.2 spec_l1Bent.B1 = true := by kernel_rfl
def spec_l1Bent.T8 : Bool × List (List Nat × List Nat) := (true, [([], []), ([0], [0]), ([], []), ([2], [2]), ([3], [3]), ([4], [4]), ([1, 5, 3], [1, 5]), ([0, 1, 2, 3, 4, 5, 6], []), ([7, 6, 6, 0, 1, 2, 3, 4, 5, 6], [6, 7])])
def spec_l1Bent.B8 : List Nat := [0, 1, 0, 4, 12, 28, 63, 127, 255]
theorem spec_l1Bent.tab8 : rtab .any (opsOf Tryd.f99 8) = spec_l1Bent.T8 := by kernel_rfl
theorem spec_l1Bent.bits8 : waitsOk spec_l1Bent.T8.2 spec_l1Bent.B8 = true := by kernel_rfl
def spec_l1Bent.T12 : Bool × List (List Nat × List Nat) := (true, [([], []), ([0], [0]), ([], []), ([], []), ([], []), ([3, 4], [3, 4]), ([1, 2, 0, 1, 2, 3, 4, 5], [1, 2]), ([6, 0, 1, 2, 3, 4, 5], [6]), ([7, 5, 5, 0, 1, 2, 3, 4, 5], [5, 7])])
def spec_l1Bent.B12 : List Nat := [0, 1, 0, 0, 0, 24, 63, 127, 255]
theorem spec_l1Bent.tab12 : rtab .any (opsOf Tryd.f99 12) = spec_l1Bent.T12 := by kernel_rfl
theorem spec_l1Bent.bits12 : waitsOk spec_l1Bent.T12.2 spec_l1Bent.B12 = true := by kernel_rfl
def spec_l1Bent.T14 : Bool × List (List Nat × List Nat) := (true, [([], []), ([0], [0]), ([], []), ([], []), ([], []), ([3, 4], [3, 4]), ([1, 2, 0, 1, 2, 3, 4, 5], [1, 2]), ([6, 0, 1, 2, 3, 4, 5], [6]), ([7, 5, 5, 0, 1, 2, 3, 4, 5], [5, 7])])
def spec_l1Bent.B14 : List Nat := [0, 1, 0, 0, 0, 24, 63, 127, 255]
theorem spec_l1Bent.tab14 : rtab .any (opsOf Tryd.f99 14) = spec_l1Bent.T14 := by kernel_rfl
theorem spec_l1Bent.bits14 : waitsOk spec_l1Bent.T14.2 spec_l1Bent.B14 = true := by kernel_rfl
def spec_l1Bent.T16 : Bool × List (List Nat × List Nat) := (true, [([], []), ([0], [0]), ([], []), ([2], [2]), ([], []), ([3, 4], [3, 4]), ([5], [5]), ([6], [6]), ([1, 7], [1, 7]), ([0, 1, 2, 3, 4, 5, 6, 7, 8], []), ([9, 8, 8, 0, 1, 2, 3, 4, 5, 6, 7, 8], [8, 9])])
def spec_l1Bent.B16 : List Nat := [0, 1, 0, 4, 0, 28, 60, 124, 255, 511, 1023]
theorem spec_l1Bent.tab16 : rtab .any (opsOf Tryd.f99 16) = spec_l1Bent.T16 := by kernel_rfl
theorem spec_l1Bent.bits16 : waitsOk spec_l1Bent.T16.2 spec_l1Bent.B16 = true := by kernel_rfl
set_option maxHeartbeats 8000000 in
set_option maxRecDepth 100000 in
theorem spec_l1Bent.calls (k : Nat) (g : Nat) (s0_0 : List Int) (s0_1 : Int) (a1_0 : ByteArray) (A1_1 : Option Addr) (c1_1 : Nat) (l1_1 : List (S46)) (r1 : ByteArray) (r2 : List (S46)) (r3 : Int) (w0 w : World) (hI : IsS132 w0 w g s0_0 s0_1) (hB : Below w0.heap.size w0 w) (hr1_1 : ∀ W_, KeepBut w W_ g none → Kd.C k46 W_ A1_1 l1_1.length l1_1) (hc1_1 : l1_1.length ≤ c1_1) (h : spec_l1Bent.f k s0_0 s0_1 a1_0 l1_1 = some (r1, r2, r3)) :
  Calls Tryd.prog 99 #[.pointer (some ⟨g, 0, none⟩), .agg #[.string a1_0, .slice A1_1 l1_1.length c1_1]] w fun e w' => ∃ v1_ : Value, e = .returned (.agg #[.string r1, v1_]) ∧ Kd.R k46 46 w' w.heap.size (fun _ => True) v1_ r2 ∧ IsS132 w0 w' g s0_0 r3 ∧ Below w0.heap.size w0 w' ∧ KeepBut w w' g none := by
 have hu25 := Tryd.underlying25
 have hu46 := Tryd.underlying46
 have HR1_1 := Aside0.mk hr1_1
 have HC1_1 := Aside0.mk hc1_1
 clear hr1_1 hc1_1
 have HI0 := Aside0.mk hI
 have HK := Aside0.mk (KeepBut.refl w g none)
 have HL := Aside0.mk hB.size
 clear hI
 have HW0 := Aside0.mk hB.size
 have HB := Aside0.mk hB
 clear hB
 have H : ((some (([] : List (S46)) : List (S46))).bind fun y103 => (if y103.length + l1_1.length < 4398046511104 then ((some (y103 ++ l1_1 : List (S46))).bind fun y106 => ((spec_l17Rd_pick.f k s0_0 s0_1 12).bind fun bt110 => (if bt110.1 > 0 then (spec_l1Bent.j0 k (y106.length : Int) true s0_0 bt110.2 a1_0 y106) else (spec_l1Bent.j0 k (y106.length : Int) ((y106.length : Int) == 0) s0_0 bt110.2 a1_0 y106)))) else (none))) = some (r1, r2, r3) := h
 clear h
 obtain ⟨y103, hy103⟩ : ∃ y_ : List (S46), y_ = (([] : List (S46))) := ⟨_, rfl⟩
 replace H : (if y103.length + l1_1.length < 4398046511104 then ((some (y103 ++ l1_1 : List (S46))).bind fun y106 => ((spec_l17Rd_pick.f k s0_0 s0_1 12).bind fun bt110 => (if bt110.1 > 0 then (spec_l1Bent.j0 k (y106.length : Int) true s0_0 bt110.2 a1_0 y106) else (spec_l1Bent.j0 k (y106.length : Int) ((y106.length : Int) == 0) s0_0 bt110.2 a1_0 y106)))) else (none)) = some (r1, r2, r3) := by first | (rw [hy103]; with_reducible exact H) | (have H2_ := (Option.bind_some _ _).symm.trans H; rw [hy103]; with_reducible exact H2_) | (have H2_ := (Option.bind_some _ _).symm.trans H; with_reducible exact H2_) | with_reducible exact H | (rw [hy103]; exact H) | exact H
 have Ny103 := Aside0.mk hy103
 clear hy103
 by_cases c3 : y103.length + l1_1.length < 4398046511104
 rotate_left
 ·rw [if_neg c3] at H
  exact absurd H (by simp)
 rw [if_pos c3] at H
 have LMc3 := Aside0.mk c3
 clear c3
 obtain ⟨y106, hy106⟩ : ∃ y_ : List (S46), y_ = (y103 ++ l1_1) := ⟨_, rfl⟩
 replace H : ((spec_l17Rd_pick.f k s0_0 s0_1 12).bind fun bt110 => (if bt110.1 > 0 then (spec_l1Bent.j0 k (y106.length : Int) true s0_0 bt110.2 a1_0 y106) else (spec_l1Bent.j0 k (y106.length : Int) ((y106.length : Int) == 0) s0_0 bt110.2 a1_0 y106))) = some (r1, r2, r3) := by first | (rw [hy106]; with_reducible exact H) | (have H2_ := (Option.bind_some _ _).symm.trans H; rw [hy106]; with_reducible exact H2_) | (have H2_ := (Option.bind_some _ _).symm.trans H; with_reducible exact H2_) | with_reducible exact H | (rw [hy106]; exact H) | exact H
 have Ny106 := Aside0.mk hy106
 clear hy106
 have HC4 := Aside0.mk H
 clear H
 go_enter Tryd.func99, Tryd.ntmps99
 try go_wp2_with (first | ((with_reducible refine gate_dst (N := 3) rfl ?_); refine box_event ?hg (N := 3) ?hd (cs := #[.string a1_0, .slice A1_1 l1_1.length c1_1]) (t := 25) ?hr ?_; (case hd => rfl); (case hg => rfl); (case hr => first | (go_simp; done) | (go_simp; rfl)); intro gb101 hg w5 hbox hb; refine rn8 (IsS132.below q35_1 hb) (KeepBut.trans q35_2 (KeepBut.of_below hb g none) (.inl rfl)) (below_step q35_3 hb) (hbox) ((by rw [hg]; exact (keep_size (w := w) (g := g) (row := none) q35_2) : w.heap.size ≤ gb101)) ((Nat.le_trans HW0.out (by rw [hg]; exact (keep_size (w := w) (g := g) (row := none) q35_2) : w.heap.size ≤ gb101) : w0.heap.size ≤ gb101)) ((by rw [hg]; exact Nat.ne_of_lt (IsS132.lt (show IsS132 w0 _ g s0_0 s0_1 from q35_1)) : g ≠ gb101)) ((by rw [hg]; exact Nat.ne_of_gt (IsS132.lt (show IsS132 w0 _ g s0_0 s0_1 from q35_1)) : gb101 ≠ g)) ?_; clear HI0 HK HB; intro HI0 HK HB BK101 GW101 GE101 NB0_101 NB101_0; clear hb hbox hg) | ((with_reducible refine gate_dst (N := 4) rfl ?_); refine box_event ?hg (N := 4) ?hd (cs := #[.string (⟨#[]⟩ : ByteArray), .slice none 0 0]) (t := 25) ?hr ?_; (case hd => rfl); (case hg => rfl); (case hr => first | (go_simp; done) | (go_simp; rfl)); intro gb102 hg w6 hbox hb; refine rn11 (IsS132.below q35_1 hb) (blk_below (g := gb101) (o := .cells #[.string a1_0, .slice A1_1 l1_1.length c1_1] 25 (0, 0)) q35_4 hb) (KeepBut.trans q35_2 (KeepBut.of_below hb g none) (.inl rfl)) (below_step q35_3 hb) (hbox) ((by rw [hg]; exact (keep_size (w := w) (g := g) (row := none) q35_2) : w.heap.size ≤ gb102)) ((Nat.le_trans HW0.out (by rw [hg]; exact (keep_size (w := w) (g := g) (row := none) q35_2) : w.heap.size ≤ gb102) : w0.heap.size ≤ gb102)) ((by rw [hg]; exact Nat.ne_of_lt (blk_lt (g := gb101) (o := .cells #[.string a1_0, .slice A1_1 l1_1.length c1_1] 25 (0, 0)) q35_4) : gb101 ≠ gb102)) ((by rw [hg]; exact Nat.ne_of_gt (blk_lt (g := gb101) (o := .cells #[.string a1_0, .slice A1_1 l1_1.length c1_1] 25 (0, 0)) q35_4) : gb102 ≠ gb101)) ((by rw [hg]; exact Nat.ne_of_lt (IsS132.lt (show IsS132 w0 _ g s0_0 s0_1 from q35_1)) : g ≠ gb102)) ((by rw [hg]; exact Nat.ne_of_gt (IsS132.lt (show IsS132 w0 _ g s0_0 s0_1 from q35_1)) : gb102 ≠ g)) ?_; clear HI0 BK101 HK HB; intro HI0 BK101 HK HB BK102 GW102 GE102 NB101_102 NB102_101 NB0_102 NB102_0; clear hb hbox hg))
 refine rn5 (blk_drew BK101.out) (blk_drew BK102.out) (IsS132.drew HI0.out) (keep_drew HK.out) (below_drew1 HB.out) ?_
 clear BK101 BK102 HI0 HK HB
 intro BK101 BK102 HI0 HK HB
 refine start_ (n := 9) (S := fun w' => w'.cell? ⟨gb101, 0, none⟩ = some (.string a1_0) ∧ w'.cell? ⟨gb101, 1, none⟩ = some (.slice A1_1 l1_1.length c1_1)) (ds := []) #[false, false, false, false, false, false, false, false, false] (by kernel_rfl) rfl rfl ⟨(blk_cell BK101.out 0).trans rfl, (blk_cell BK101.out 1).trans rfl⟩ (fun hHeld => ?_); refine with_tabW spec_l1Bent.tab1 spec_l1Bent.bits1 (fun HT_ HW_ => ?_)
 generalize w6.drew = w7 at BK101 BK102 HI0 HK HB hHeld ⊢
 refine pz 0 8 HT_ ?_
 refine pz 3 11 HT_ ?_
 refine tz 1 9 HT_ HW_ hHeld ?_
 refine tz 4 12 HT_ HW_ hHeld ?_
 refine join_ (σ := Value × Value × Nat) 1 #[true, true, true, true, true, true, true, true, false] (fun s_ => [(10, s_.1), (13, s_.2.1), (5, .pointer (some ⟨s_.2.2, 0, none⟩)), (14, .agg #[.string a1_0, s_.2.1])]) (fun s_ w' => (w'.cell? ⟨gb101, 0, none⟩ = some (.string a1_0) ∧ w'.cell? ⟨gb101, 1, none⟩ = some (.slice A1_1 l1_1.length c1_1)) ∧ (Kd.R k46 46 w' w.heap.size (fun _ => True) s_.2.1 y106) ∧ (w'.heap[gb101]? = some (.cells #[.string a1_0, .slice A1_1 l1_1.length c1_1] 25 (0, 0))) ∧ (w'.heap[gb102]? = some (.cells #[.string (⟨#[]⟩ : ByteArray), .slice none 0 0] 25 (0, 0))) ∧ (w'.heap[s_.2.2]? = some (.cells #[.string (⟨#[]⟩ : ByteArray), .slice none 0 0] 25 (0, 0))) ∧ (w.heap.size ≤ s_.2.2) ∧ (w0.heap.size ≤ s_.2.2) ∧ (g ≠ s_.2.2) ∧ (s_.2.2 ≠ g) ∧ (gb101 ≠ s_.2.2) ∧ (s_.2.2 ≠ gb101) ∧ (gb102 ≠ s_.2.2) ∧ (s_.2.2 ≠ gb102) ∧ (IsS132 w0 w' g s0_0 s0_1) ∧ (KeepBut w w' g none) ∧ (Below w0.heap.size w0 w')) ?_ ?_
 rotate_left
 ·intro hCont
  refine twz 2 7 (some 10) (some 5) HT_ (fun K hK => ?_) (fun K hK => ?_)
  ·skip
   refine Kd.R_lit_step k46 _ 46 ?hg (N := 10) ?hd (xs := ([] : List (S46))) (inner := []) (ok := fun _ => True) (okp := fun _ => True) ?hr ?hp (fun _ hk => hk) trivial (Below.refl _ _) (Nat.le_refl _) (by simp) ?_; (case hd => rfl); (case hg => rfl); (case hr => first | (go_simp; done) | (go_simp; rfl)); (case hp => exact (Reps.none _ _))
   intro v104 w8 ho9 hb hg_ hnew_
   clear hg_ hnew_
   (first | rw [← Ny103.out] at ho9 | (simp only [Int.reduceToNat] at ho9; rw [← Ny103.out] at ho9))
   refine rn6 (Kd.R_lower ho9 (keep_size (w := w) (g := g) (row := none) q35_2)) (IsS132.below q35_1 hb) (blk_below (g := gb101) (o := .cells #[.string a1_0, .slice A1_1 l1_1.length c1_1] 25 (0, 0)) q35_4 hb) (blk_below (g := gb102) (o := .cells #[.string (⟨#[]⟩ : ByteArray), .slice none 0 0] 25 (0, 0)) q35_5 hb) (KeepBut.trans q35_2 (KeepBut.of_below hb g none) (.inl rfl)) (below_step q35_3 hb) ?_
   clear HI0 BK101 BK102 HK HB
   intro HO105 HI0 BK101 BK102 HK HB
   clear hb ho9
   refine hK.out _ _ ⟨(blk_cell BK101.out 0).trans rfl, (blk_cell BK101.out 1).trans rfl⟩ (fun hHeld => ?_)
   clear hK K
   refine norm_ (a' := ?_) ?_ ?_
   rotate_left
   ·show Act.put _ (some 10) _ = _
    simp only [Act.put, List.setIfInBounds_toArray, List.set_cons_zero, List.set_cons_succ, i64_w, i32_w]
    rfl
   refine twz 5 7 (some 13) (some 5) HT_ (fun K hK => ?_) (fun K hK => ?_)
   ·skip
    refine Kd.R_append_rows_step k46 w.heap.size (by rfl) (.tmp 10) (.tmp 12) 23 46 (.agg #[(.string ⟨#[]⟩), (.string ⟨#[]⟩)]) 32 rfl Tryd.underlying23 info46 rfl (by decide) (by omega) v104 y103 l1_1 _ _ _ (fun _ => True) (fun _ => False) rfl rfl ?aO ?aR (fun _ _ h => h) (fun _ h => h.elim) ?aF (Below.refl _ _) ?aS ?aL ?_
    (case aR => exact Kd.C_foot_now HR1_1.out q35_2)
    (case aF => exact (fun _ _ => trivial))
    (case aO => exact q35_15)
    (case aS => exact (keep_size (w := w) (g := g) (row := none) q35_2))
    (case aL => have := LMc3.out; omega)
    intro v107 w10 ho hb hg hat
    rw [← Ny106.out] at ho
    refine rn6 (IsS132.grown q35_1 hg (IsS132.own_ne HI0.out HO105.out (by decide))) (blk_grown (g := gb101) (o := .cells #[.string a1_0, .slice A1_1 l1_1.length c1_1] 25 (0, 0)) q35_4 hg (Kd.R_ne HO105.out BK101.out (by decide))) (blk_grown (g := gb102) (o := .cells #[.string (⟨#[]⟩ : ByteArray), .slice none 0 0] 25 (0, 0)) q35_5 hg (Kd.R_ne HO105.out BK102.out (by decide))) (below_weaken q35_3 HL.out hb) (KeepBut.trans q35_2 (KeepBut.of_grown hg g) (Kd.R_base2 HO105.out)) (ho) ?_
    clear HI0 BK101 BK102 HB HK HO105
    intro HI0 BK101 BK102 HB HK HO108
    clear ho hb hg hat
    obtain ⟨Ao11, co11, eo11⟩ := Kd.R_slice HO108.out
    (first | subst eo11 | (injection eo11 with f1_ f2_ f3_; have f4_ := f1_.symm; have f5_ := f3_.symm; clear f1_ f2_ f3_; subst f4_; subst f5_))
    refine hK.out _ _ ⟨(blk_cell BK101.out 0).trans rfl, (blk_cell BK101.out 1).trans rfl⟩ (fun hHeld => ?_)
    clear hK K
    refine norm_ (a' := ?_) ?_ ?_
    rotate_left
    ·show Act.put _ (some 13) _ = _
     simp only [Act.put, List.setIfInBounds_toArray, List.set_cons_zero, List.set_cons_succ, i64_w, i32_w]
     rfl
    refine pz 6 14 HT_ ?_
    refine oz 7 (some 5) HT_ (fun K hK => ?_)
    refine box_step ?hg (N := 5) ?hd (cs := #[.string (⟨#[]⟩ : ByteArray), .slice none 0 0]) (t := 25) ?hr ?_; (case hd => rfl); (case hg => rfl); (case hr => first | (go_simp; done) | (go_simp; rfl))
    intro gb109 hg w12 hbox hb
    refine rn15 (Kd.R_below q35_16 hb) (IsS132.below q35_1 hb) (blk_below (g := gb101) (o := .cells #[.string a1_0, .slice A1_1 l1_1.length c1_1] 25 (0, 0)) q35_4 hb) (blk_below (g := gb102) (o := .cells #[.string (⟨#[]⟩ : ByteArray), .slice none 0 0] 25 (0, 0)) q35_5 hb) (KeepBut.trans q35_2 (KeepBut.of_below hb g none) (.inl rfl)) (below_step q35_3 hb) (hbox) ((by rw [hg]; exact (keep_size (w := w) (g := g) (row := none) q35_2) : w.heap.size ≤ gb109)) ((Nat.le_trans HW0.out (by rw [hg]; exact (keep_size (w := w) (g := g) (row := none) q35_2) : w.heap.size ≤ gb109) : w0.heap.size ≤ gb109)) ((by rw [hg]; exact Nat.ne_of_lt (blk_lt (g := gb101) (o := .cells #[.string a1_0, .slice A1_1 l1_1.length c1_1] 25 (0, 0)) q35_4) : gb101 ≠ gb109)) ((by rw [hg]; exact Nat.ne_of_gt (blk_lt (g := gb101) (o := .cells #[.string a1_0, .slice A1_1 l1_1.length c1_1] 25 (0, 0)) q35_4) : gb109 ≠ gb101)) ((by rw [hg]; exact Nat.ne_of_lt (blk_lt (g := gb102) (o := .cells #[.string (⟨#[]⟩ : ByteArray), .slice none 0 0] 25 (0, 0)) q35_5) : gb102 ≠ gb109)) ((by rw [hg]; exact Nat.ne_of_gt (blk_lt (g := gb102) (o := .cells #[.string (⟨#[]⟩ : ByteArray), .slice none 0 0] 25 (0, 0)) q35_5) : gb109 ≠ gb102)) ((by rw [hg]; exact Nat.ne_of_lt (IsS132.lt (show IsS132 w0 _ g s0_0 s0_1 from q35_1)) : g ≠ gb109)) ((by rw [hg]; exact Nat.ne_of_gt (IsS132.lt (show IsS132 w0 _ g s0_0 s0_1 from q35_1)) : gb109 ≠ g)) ?_
    clear HO108 HI0 BK101 BK102 HK HB
    intro HO108 HI0 BK101 BK102 HK HB BK109 GW109 GE109 NB101_109 NB109_101 NB102_109 NB109_102 NB0_109 NB109_0
    clear hb hbox hg
    refine hK.out _ _ ⟨(blk_cell BK101.out 0).trans rfl, (blk_cell BK101.out 1).trans rfl⟩ (fun hHeld => ?_)
    clear hK K
    refine norm_ (a' := ?_) ?_ ?_
    rotate_left
    ·show Act.put _ (some 5) _ = _
     simp only [Act.put, List.setIfInBounds_toArray, List.set_cons_zero, List.set_cons_succ, i64_w, i32_w]
     rfl
    exact norm_ q35_17 (hCont (v104, .slice Ao11 y106.length co11, gb109) _ ⟨hHeld, q35_16, q35_4, q35_5, q35_6, GW109.out, GE109.out, NB0_109.out, NB109_0.out, NB101_109.out, NB109_101.out, NB102_109.out, NB109_102.out, q35_1, q35_2, q35_3⟩)
   skip
   refine box_step ?hg (N := 5) ?hd (cs := #[.string (⟨#[]⟩ : ByteArray), .slice none 0 0]) (t := 25) ?hr ?_; (case hd => rfl); (case hg => rfl); (case hr => first | (go_simp; done) | (go_simp; rfl))
   intro gb109 hg w10 hbox hb
   refine rn15 (Kd.R_below q35_15 hb) (IsS132.below q35_1 hb) (blk_below (g := gb101) (o := .cells #[.string a1_0, .slice A1_1 l1_1.length c1_1] 25 (0, 0)) q35_4 hb) (blk_below (g := gb102) (o := .cells #[.string (⟨#[]⟩ : ByteArray), .slice none 0 0] 25 (0, 0)) q35_5 hb) (KeepBut.trans q35_2 (KeepBut.of_below hb g none) (.inl rfl)) (below_step q35_3 hb) (hbox) ((by rw [hg]; exact (keep_size (w := w) (g := g) (row := none) q35_2) : w.heap.size ≤ gb109)) ((Nat.le_trans HW0.out (by rw [hg]; exact (keep_size (w := w) (g := g) (row := none) q35_2) : w.heap.size ≤ gb109) : w0.heap.size ≤ gb109)) ((by rw [hg]; exact Nat.ne_of_lt (blk_lt (g := gb101) (o := .cells #[.string a1_0, .slice A1_1 l1_1.length c1_1] 25 (0, 0)) q35_4) : gb101 ≠ gb109)) ((by rw [hg]; exact Nat.ne_of_gt (blk_lt (g := gb101) (o := .cells #[.string a1_0, .slice A1_1 l1_1.length c1_1] 25 (0, 0)) q35_4) : gb109 ≠ gb101)) ((by rw [hg]; exact Nat.ne_of_lt (blk_lt (g := gb102) (o := .cells #[.string (⟨#[]⟩ : ByteArray), .slice none 0 0] 25 (0, 0)) q35_5) : gb102 ≠ gb109)) ((by rw [hg]; exact Nat.ne_of_gt (blk_lt (g := gb102) (o := .cells #[.string (⟨#[]⟩ : ByteArray), .slice none 0 0] 25 (0, 0)) q35_5) : gb109 ≠ gb102)) ((by rw [hg]; exact Nat.ne_of_lt (IsS132.lt (show IsS132 w0 _ g s0_0 s0_1 from q35_1)) : g ≠ gb109)) ((by rw [hg]; exact Nat.ne_of_gt (IsS132.lt (show IsS132 w0 _ g s0_0 s0_1 from q35_1)) : gb109 ≠ g)) ?_
   clear HO105 HI0 BK101 BK102 HK HB
   intro HO105 HI0 BK101 BK102 HK HB BK109 GW109 GE109 NB101_109 NB109_101 NB102_109 NB109_102 NB0_109 NB109_0
   clear hb hbox hg
   refine hK.out _ _ ⟨(blk_cell BK101.out 0).trans rfl, (blk_cell BK101.out 1).trans rfl⟩ (fun hHeld => ?_)
   clear hK K
   refine norm_ (a' := ?_) ?_ ?_
   rotate_left
   ·show Act.put _ (some 5) _ = _
    simp only [Act.put, List.setIfInBounds_toArray, List.set_cons_zero, List.set_cons_succ, i64_w, i32_w]
    rfl
   refine oz 5 (some 13) HT_ (fun K hK => ?_)
   refine Kd.R_append_rows_step k46 w.heap.size (by rfl) (.tmp 10) (.tmp 12) 23 46 (.agg #[(.string ⟨#[]⟩), (.string ⟨#[]⟩)]) 32 rfl Tryd.underlying23 info46 rfl (by decide) (by omega) v104 y103 l1_1 _ _ _ (fun _ => True) (fun _ => False) rfl rfl ?aO ?aR (fun _ _ h => h) (fun _ h => h.elim) ?aF (Below.refl _ _) ?aS ?aL ?_
   (case aR => exact Kd.C_foot_now HR1_1.out q35_2)
   (case aF => exact (fun _ _ => trivial))
   (case aO => exact q35_15)
   (case aS => exact (keep_size (w := w) (g := g) (row := none) q35_2))
   (case aL => have := LMc3.out; omega)
   intro v107 w11 ho hb hg hat
   rw [← Ny106.out] at ho
   refine rn7 (IsS132.grown q35_1 hg (IsS132.own_ne HI0.out HO105.out (by decide))) (blk_grown (g := gb101) (o := .cells #[.string a1_0, .slice A1_1 l1_1.length c1_1] 25 (0, 0)) q35_4 hg (Kd.R_ne HO105.out BK101.out (by decide))) (blk_grown (g := gb102) (o := .cells #[.string (⟨#[]⟩ : ByteArray), .slice none 0 0] 25 (0, 0)) q35_5 hg (Kd.R_ne HO105.out BK102.out (by decide))) (blk_grown (g := gb109) (o := .cells #[.string (⟨#[]⟩ : ByteArray), .slice none 0 0] 25 (0, 0)) q35_6 hg (Kd.R_ne HO105.out BK109.out (by decide))) (below_weaken q35_3 HL.out hb) (KeepBut.trans q35_2 (KeepBut.of_grown hg g) (Kd.R_base2 HO105.out)) (ho) ?_
   clear HI0 BK101 BK102 BK109 HB HK HO105
   intro HI0 BK101 BK102 BK109 HB HK HO108
   clear ho hb hg hat
   obtain ⟨Ao12, co12, eo12⟩ := Kd.R_slice HO108.out
   (first | subst eo12 | (injection eo12 with f1_ f2_ f3_; have f4_ := f1_.symm; have f5_ := f3_.symm; clear f1_ f2_ f3_; subst f4_; subst f5_))
   refine hK.out _ _ ⟨(blk_cell BK101.out 0).trans rfl, (blk_cell BK101.out 1).trans rfl⟩ (fun hHeld => ?_)
   clear hK K
   refine norm_ (a' := ?_) ?_ ?_
   rotate_left
   ·show Act.put _ (some 13) _ = _
    simp only [Act.put, List.setIfInBounds_toArray, List.set_cons_zero, List.set_cons_succ, i64_w, i32_w]
    rfl
   refine pz 6 14 HT_ ?_
   exact norm_ q35_17 (hCont (v104, .slice Ao12 y106.length co12, gb109) _ ⟨hHeld, q35_16, q35_4, q35_5, q35_6, GW109.out, GE109.out, NB0_109.out, NB109_0.out, NB101_109.out, NB109_101.out, NB102_109.out, NB109_102.out, q35_1, q35_2, q35_3⟩)
  skip
  refine box_step ?hg (N := 5) ?hd (cs := #[.string (⟨#[]⟩ : ByteArray), .slice none 0 0]) (t := 25) ?hr ?_; (case hd => rfl); (case hg => rfl); (case hr => first | (go_simp; done) | (go_simp; rfl))
  intro gb109 hg w8 hbox hb
  refine rn14 (IsS132.below q35_1 hb) (blk_below (g := gb101) (o := .cells #[.string a1_0, .slice A1_1 l1_1.length c1_1] 25 (0, 0)) q35_4 hb) (blk_below (g := gb102) (o := .cells #[.string (⟨#[]⟩ : ByteArray), .slice none 0 0] 25 (0, 0)) q35_5 hb) (KeepBut.trans q35_2 (KeepBut.of_below hb g none) (.inl rfl)) (below_step q35_3 hb) (hbox) ((by rw [hg]; exact (keep_size (w := w) (g := g) (row := none) q35_2) : w.heap.size ≤ gb109)) ((Nat.le_trans HW0.out (by rw [hg]; exact (keep_size (w := w) (g := g) (row := none) q35_2) : w.heap.size ≤ gb109) : w0.heap.size ≤ gb109)) ((by rw [hg]; exact Nat.ne_of_lt (blk_lt (g := gb101) (o := .cells #[.string a1_0, .slice A1_1 l1_1.length c1_1] 25 (0, 0)) q35_4) : gb101 ≠ gb109)) ((by rw [hg]; exact Nat.ne_of_gt (blk_lt (g := gb101) (o := .cells #[.string a1_0, .slice A1_1 l1_1.length c1_1] 25 (0, 0)) q35_4) : gb109 ≠ gb101)) ((by rw [hg]; exact Nat.ne_of_lt (blk_lt (g := gb102) (o := .cells #[.string (⟨#[]⟩ : ByteArray), .slice none 0 0] 25 (0, 0)) q35_5) : gb102 ≠ gb109)) ((by rw [hg]; exact Nat.ne_of_gt (blk_lt (g := gb102) (o := .cells #[.string (⟨#[]⟩ : ByteArray), .slice none 0 0] 25 (0, 0)) q35_5) : gb109 ≠ gb102)) ((by rw [hg]; exact Nat.ne_of_lt (IsS132.lt (show IsS132 w0 _ g s0_0 s0_1 from q35_1)) : g ≠ gb109)) ((by rw [hg]; exact Nat.ne_of_gt (IsS132.lt (show IsS132 w0 _ g s0_0 s0_1 from q35_1)) : gb109 ≠ g)) ?_
  clear HI0 BK101 BK102 HK HB
  intro HI0 BK101 BK102 HK HB BK109 GW109 GE109 NB101_109 NB109_101 NB102_109 NB109_102 NB0_109 NB109_0
  clear hb hbox hg
  refine hK.out _ _ ⟨(blk_cell BK101.out 0).trans rfl, (blk_cell BK101.out 1).trans rfl⟩ (fun hHeld => ?_)
  clear hK K
  refine norm_ (a' := ?_) ?_ ?_
  rotate_left
  ·show Act.put _ (some 5) _ = _
   simp only [Act.put, List.setIfInBounds_toArray, List.set_cons_zero, List.set_cons_succ, i64_w, i32_w]
   rfl
  refine oz 2 (some 10) HT_ (fun K hK => ?_)
  refine Kd.R_lit_step k46 _ 46 ?hg (N := 10) ?hd (xs := ([] : List (S46))) (inner := []) (ok := fun _ => True) (okp := fun _ => True) ?hr ?hp (fun _ hk => hk) trivial (Below.refl _ _) (Nat.le_refl _) (by simp) ?_; (case hd => rfl); (case hg => rfl); (case hr => first | (go_simp; done) | (go_simp; rfl)); (case hp => exact (Reps.none _ _))
  intro v104 w9 ho10 hb hg_ hnew_
  clear hg_ hnew_
  (first | rw [← Ny103.out] at ho10 | (simp only [Int.reduceToNat] at ho10; rw [← Ny103.out] at ho10))
  refine rn7 (Kd.R_lower ho10 (keep_size (w := w) (g := g) (row := none) q35_2)) (IsS132.below q35_1 hb) (blk_below (g := gb101) (o := .cells #[.string a1_0, .slice A1_1 l1_1.length c1_1] 25 (0, 0)) q35_4 hb) (blk_below (g := gb102) (o := .cells #[.string (⟨#[]⟩ : ByteArray), .slice none 0 0] 25 (0, 0)) q35_5 hb) (blk_below (g := gb109) (o := .cells #[.string (⟨#[]⟩ : ByteArray), .slice none 0 0] 25 (0, 0)) q35_6 hb) (KeepBut.trans q35_2 (KeepBut.of_below hb g none) (.inl rfl)) (below_step q35_3 hb) ?_
  clear HI0 BK101 BK102 BK109 HK HB
  intro HO105 HI0 BK101 BK102 BK109 HK HB
  clear hb ho10
  refine hK.out _ _ ⟨(blk_cell BK101.out 0).trans rfl, (blk_cell BK101.out 1).trans rfl⟩ (fun hHeld => ?_)
  clear hK K
  refine norm_ (a' := ?_) ?_ ?_
  rotate_left
  ·show Act.put _ (some 10) _ = _
   simp only [Act.put, List.setIfInBounds_toArray, List.set_cons_zero, List.set_cons_succ, i64_w, i32_w]
   rfl
  refine oz 5 (some 13) HT_ (fun K hK => ?_)
  refine Kd.R_append_rows_step k46 w.heap.size (by rfl) (.tmp 10) (.tmp 12) 23 46 (.agg #[(.string ⟨#[]⟩), (.string ⟨#[]⟩)]) 32 rfl Tryd.underlying23 info46 rfl (by decide) (by omega) v104 y103 l1_1 _ _ _ (fun _ => True) (fun _ => False) rfl rfl ?aO ?aR (fun _ _ h => h) (fun _ h => h.elim) ?aF (Below.refl _ _) ?aS ?aL ?_
  (case aR => exact Kd.C_foot_now HR1_1.out q35_2)
  (case aF => exact (fun _ _ => trivial))
  (case aO => exact q35_15)
  (case aS => exact (keep_size (w := w) (g := g) (row := none) q35_2))
  (case aL => have := LMc3.out; omega)
  intro v107 w11 ho hb hg hat
  rw [← Ny106.out] at ho
  refine rn7 (IsS132.grown q35_1 hg (IsS132.own_ne HI0.out HO105.out (by decide))) (blk_grown (g := gb101) (o := .cells #[.string a1_0, .slice A1_1 l1_1.length c1_1] 25 (0, 0)) q35_4 hg (Kd.R_ne HO105.out BK101.out (by decide))) (blk_grown (g := gb102) (o := .cells #[.string (⟨#[]⟩ : ByteArray), .slice none 0 0] 25 (0, 0)) q35_5 hg (Kd.R_ne HO105.out BK102.out (by decide))) (blk_grown (g := gb109) (o := .cells #[.string (⟨#[]⟩ : ByteArray), .slice none 0 0] 25 (0, 0)) q35_6 hg (Kd.R_ne HO105.out BK109.out (by decide))) (below_weaken q35_3 HL.out hb) (KeepBut.trans q35_2 (KeepBut.of_grown hg g) (Kd.R_base2 HO105.out)) (ho) ?_
  clear HI0 BK101 BK102 BK109 HB HK HO105
  intro HI0 BK101 BK102 BK109 HB HK HO108
  clear ho hb hg hat
  obtain ⟨Ao12, co12, eo12⟩ := Kd.R_slice HO108.out
  (first | subst eo12 | (injection eo12 with f1_ f2_ f3_; have f4_ := f1_.symm; have f5_ := f3_.symm; clear f1_ f2_ f3_; subst f4_; subst f5_))
  refine hK.out _ _ ⟨(blk_cell BK101.out 0).trans rfl, (blk_cell BK101.out 1).trans rfl⟩ (fun hHeld => ?_)
  clear hK K
  refine norm_ (a' := ?_) ?_ ?_
  rotate_left
  ·show Act.put _ (some 13) _ = _
   simp only [Act.put, List.setIfInBounds_toArray, List.set_cons_zero, List.set_cons_succ, i64_w, i32_w]
   rfl
  refine pz 6 14 HT_ ?_
  exact norm_ q35_17 (hCont (v104, .slice Ao12 y106.length co12, gb109) _ ⟨hHeld, q35_16, q35_4, q35_5, q35_6, GW109.out, GE109.out, NB0_109.out, NB109_0.out, NB101_109.out, NB109_101.out, NB102_109.out, NB109_102.out, q35_1, q35_2, q35_3⟩)
 rintro ⟨v104, v107, gb109⟩ w13 ⟨hS_, h0_, h1_, h2_, h3_, h4_, h5_, h6_, h7_, h8_, h9_, h10_, h11_, h12_, h13_, h14_⟩
 have n0_ : Aside0 (Kd.R k46 46 w13 w.heap.size (fun _ => True) v107 y106) := ⟨h0_⟩
 have n1_ : Aside0 (w13.heap[gb101]? = some (.cells #[.string a1_0, .slice A1_1 l1_1.length c1_1] 25 (0, 0))) := ⟨h1_⟩
 have n2_ : Aside0 (w13.heap[gb102]? = some (.cells #[.string (⟨#[]⟩ : ByteArray), .slice none 0 0] 25 (0, 0))) := ⟨h2_⟩
 have n3_ : Aside0 (w13.heap[gb109]? = some (.cells #[.string (⟨#[]⟩ : ByteArray), .slice none 0 0] 25 (0, 0))) := ⟨h3_⟩
 have n4_ : Aside0 (w.heap.size ≤ gb109) := ⟨h4_⟩
 have n5_ : Aside0 (w0.heap.size ≤ gb109) := ⟨h5_⟩
 have n6_ : Aside0 (g ≠ gb109) := ⟨h6_⟩
 have n7_ : Aside0 (gb109 ≠ g) := ⟨h7_⟩
 have n8_ : Aside0 (gb101 ≠ gb109) := ⟨h8_⟩
 have n9_ : Aside0 (gb109 ≠ gb101) := ⟨h9_⟩
 have n10_ : Aside0 (gb102 ≠ gb109) := ⟨h10_⟩
 have n11_ : Aside0 (gb109 ≠ gb102) := ⟨h11_⟩
 have n12_ : Aside0 (IsS132 w0 w13 g s0_0 s0_1) := ⟨h12_⟩
 have n13_ : Aside0 (KeepBut w w13 g none) := ⟨h13_⟩
 have n14_ : Aside0 (Below w0.heap.size w0 w13) := ⟨h14_⟩
 clear BK101
 clear BK102
 clear HI0
 clear HK
 clear HB
 clear h0_ h1_ h2_ h3_ h4_ h5_ h6_ h7_ h8_ h9_ h10_ h11_ h12_ h13_ h14_
 have HO108 := n0_
 have BK101 := n1_
 have BK102 := n2_
 have BK109 := n3_
 have GW109 := n4_
 have GE109 := n5_
 have NB0_109 := n6_
 have NB109_0 := n7_
 have NB101_109 := n8_
 have NB109_101 := n9_
 have NB102_109 := n10_
 have NB109_102 := n11_
 have HI0 := n12_
 have HK := n13_
 have HB := n14_
 clear n0_ n1_ n2_ n3_ n4_ n5_ n6_ n7_ n8_ n9_ n10_ n11_ n12_ n13_ n14_
 have hHeld : w13.cell? ⟨gb101, 0, none⟩ = some (.string a1_0) ∧ w13.cell? ⟨gb101, 1, none⟩ = some (.slice A1_1 l1_1.length c1_1) := hS_
 obtain ⟨Ao14, co14, eo14⟩ := Kd.R_slice HO108.out
 (first | subst eo14 | (injection eo14 with f1_ f2_ f3_; have f4_ := f1_.symm; have f5_ := f3_.symm; clear f1_ f2_ f3_; subst f4_; subst f5_))
 refine norm_ (a' := ?_) ?_ ?_
 rotate_left
 ·simp only [putAll, Act.put, List.setIfInBounds_toArray, List.set_cons_zero, List.set_cons_succ]
  rfl
 refine oz 8 none HT_ (fun K hK => ?_)
 have hs15 : w13.cell? ⟨gb109, 0, none⟩ = some (.string (⟨#[]⟩ : ByteArray)) := (blk_cell BK109.out 0).trans rfl
 have hfs15 := blk_frozen BK109.out 0
 have hns15_0 := NB101_109.out
 have hns15_1 := NB102_109.out
 have hms15_0 := NB109_101.out
 have hms15_1 := NB109_102.out
 have hs16 : w13.cell? ⟨gb109, 1, none⟩ = some (.slice none 0 0) := (blk_cell BK109.out 1).trans rfl
 have hfs16 := blk_frozen BK109.out 1
 have hns16_0 := NB101_109.out
 have hns16_1 := NB102_109.out
 have hms16_0 := NB109_101.out
 have hms16_1 := NB109_102.out
 refine skip_ (w1 := ?_) (by rfl) rfl ?_ ?_
 rotate_left
 ·go_simp
  rfl
 refine hK.out _ _ ⟨((cell_far (p := ⟨gb109, _, none⟩) NB101_109.out _).trans (((cell_far (p := ⟨gb109, _, none⟩) NB101_109.out _).trans (hHeld.1)))), ((cell_far (p := ⟨gb109, _, none⟩) NB101_109.out _).trans (((cell_far (p := ⟨gb109, _, none⟩) NB101_109.out _).trans (hHeld.2))))⟩ (fun hHeld => ?_)
 clear hK K
 refine dz HT_ ?_
 have hnb17 := NB109_101.out
 have hnc17 := NB101_109.out
 have hnb18 := NB109_102.out
 have hnc18 := NB102_109.out
 have hnb19 := NB109_0.out
 have hnc19 := NB0_109.out
 have hcz20_0 : w13.cell? ⟨gb109, 0, none⟩ = some (.string (⟨#[]⟩ : ByteArray)) := (blk_cell BK109.out 0).trans rfl
 have hcz20_1 : w13.cell? ⟨gb109, 1, none⟩ = some (.slice none 0 0) := (blk_cell BK109.out 1).trans rfl
 have hfz20_0 := blk_frozen BK109.out 0
 have hfz20_1 := blk_frozen BK109.out 1
 go_upto_region 3 with (fail)
 go_cut [24] (fun v24 wc => ∃ (kq : Nat) (x24_3 : Bool) (x1001_3 : Int), v24 = .bool x24_3 ∧ Aside0 (spec_l1Bent.j0 kq (y106.length : Int) x24_3 s0_0 x1001_3 a1_0 y106 = some (r1, r2, r3)) ∧ Aside0 (kq ≤ k) ∧ Aside0 (Kd.R k46 46 wc w.heap.size (fun _ => True) (.slice Ao14 y106.length co14) y106) ∧ Aside0 (wc.heap[gb101]? = some (.cells #[.string a1_0, (.slice A1_1 l1_1.length c1_1)] 25 (0, 0))) ∧ Aside0 (wc.heap[gb102]? = some (.cells #[.string (⟨#[]⟩ : ByteArray), (.slice none 0 0)] 25 (0, 0))) ∧ Aside0 (wc.heap[gb109]? = some (.cells #[.string a1_0, (.slice Ao14 y106.length co14)] 25 (0, 0))) ∧ Aside0 (IsS132 w0 wc g s0_0 x1001_3) ∧ Aside0 (KeepBut w wc g none) ∧ Aside0 (Below w0.heap.size w0 wc))
 case first =>
  have H := HC4.out
  clear HC4
  replace H := Option.bind_eq_some_iff.mp H
  obtain ⟨⟨t110, t111⟩, A210, H⟩ := H
  replace H : (if t110 > 0 then (spec_l1Bent.j0 k (y106.length : Int) true s0_0 t111 a1_0 y106) else (spec_l1Bent.j0 k (y106.length : Int) ((y106.length : Int) == 0) s0_0 t111 a1_0 y106)) = some (r1, r2, r3) := H
  have A21 := Aside0.mk A210
  clear A210
  by_cases c22 : t110 > 0
  ·rw [if_pos c22] at H
   have c22b0 : decide (0 < t110) = true := decide_eq_true c22
   clear c22
   (first | rw [c22b0] | (simp only [i64_w, i32_w]; rw [c22b0]) | skip)
   have H' := Aside0.mk H
   clear H
   go_wp2_with (first | ((with_reducible refine gate_callee (f := 84) rfl ?_); refine goesL_ (some 19) rfl rfl Tryd.func84 (by kernel_rfl) rfl #[.pointer (some ⟨g, 0, none⟩), .int .i64 12] rfl q35_7 ?_; (with_reducible refine (spec_l17Rd_pick.calls k g s0_0 s0_1 12 t110 t111 w0 _ ?side1 ?side2 A21.out).mono ?_); (case side1 => exact q35_1); (case side2 => exact q35_3); rintro e w23 ⟨rfl, hi, hb, hk⟩; refine ⟨_, rfl, ?_⟩; refine rn7 (KeepBut.blk hk (g' := gb101) (o := .cells #[.string a1_0, .slice A1_1 l1_1.length c1_1] 25 (0, 0)) q35_12 NB101_0.out (by simp)) (KeepBut.blk hk (g' := gb102) (o := .cells #[.string (⟨#[]⟩ : ByteArray), .slice none 0 0] 25 (0, 0)) q35_13 NB102_0.out (by simp)) (Kd.R_mono (Kd.R_keep (IsS132.apart (show IsS132 w0 _ g s0_0 s0_1 from q35_1) q35_14 (by decide)) hk (fun _ h => h.2)) (fun _ h => h.1)) (KeepBut.blk hk (g' := gb109) (o := .cells #[.string a1_0, .slice Ao14 y106.length co14] 25 (0, 0)) q35_11 NB109_0.out (by simp)) (KeepBut.trans q35_2 hk (.inl rfl)) (hb) (hi) ?_; clear BK101 BK102 HO108 BK109 HK HB HI0; intro BK101 BK102 HO108 BK109 HK HB HI0; (try clear hb); (try clear hb2); (try clear hk); (try clear hi)))
   go_meet
   case rel => exact ⟨_, (true), (t111), (by first | rfl | (simp; done) | (simp [*]; done)), H', ⟨by first | omega | exact Nat.le_refl _⟩, ⟨by (with_reducible repeat (first | apply Kd.R_alloc | apply Kd.R_drewN | apply Kd.R_drew)); exact HO108.out⟩, ⟨by (with_reducible repeat (first | refine blk_drewN ?_ _ | refine blk_drew ?_ | refine blk_alloc ?_ _)); exact BK101.out⟩, ⟨by (with_reducible repeat (first | refine blk_drewN ?_ _ | refine blk_drew ?_ | refine blk_alloc ?_ _)); exact BK102.out⟩, ⟨by (with_reducible repeat (first | refine blk_drewN ?_ _ | refine blk_drew ?_ | refine blk_alloc ?_ _)); exact BK109.out⟩, ⟨by repeat (first | (with_reducible first | exact HI0.out | apply IsS132.alloc | apply IsS132.drewN | apply IsS132.drew | apply IsS132.set_1 | refine IsS132.far ?_ NB0_101.out _ | refine IsS132.far ?_ NB0_102.out _ | refine IsS132.far ?_ NB0_109.out _ | refine IsS132.far ?_ HN0_go54.out _ | refine IsS132.far ?_ HN0_go75.out _) | exact HI0.out)⟩, ⟨by repeat (first | (with_reducible first | exact HK.out | apply KeepBut.set_ | apply keep_drewN | apply keep_drew | apply keep_alloc | refine keep_far ?_ GW101.out _ | refine keep_far ?_ GW102.out _ | refine keep_far ?_ GW109.out _ | refine keep_far ?_ GB54.out _ | refine keep_far ?_ GB75.out _) | exact HK.out)⟩, ⟨by repeat (first | (with_reducible first | exact HB.out | apply below_alloc | apply pw_below_drewN | apply below_drew1 | refine below_set ?_ (IsS132.ge HI0.out) | refine below_set ?_ GE101.out | refine below_set ?_ GE102.out | refine below_set ?_ GE109.out | refine below_set ?_ (Nat.le_trans HL.out GB54.out) | refine below_set ?_ (Nat.le_trans HL.out GB75.out)) | exact HB.out)⟩⟩
  rw [if_neg c22] at H
  have c22b0 : decide (0 < t110) = false := decide_eq_false c22
  clear c22
  (first | rw [c22b0] | (simp only [i64_w, i32_w]; rw [c22b0]) | skip)
  have H' := Aside0.mk H
  clear H
  go_wp2_with (first | ((with_reducible refine gate_callee (f := 84) rfl ?_); refine goesL_ (some 19) rfl rfl Tryd.func84 (by kernel_rfl) rfl #[.pointer (some ⟨g, 0, none⟩), .int .i64 12] rfl q35_7 ?_; (with_reducible refine (spec_l17Rd_pick.calls k g s0_0 s0_1 12 t110 t111 w0 _ ?side1 ?side2 A21.out).mono ?_); (case side1 => exact q35_1); (case side2 => exact q35_3); rintro e w24 ⟨rfl, hi, hb, hk⟩; refine ⟨_, rfl, ?_⟩; refine rn7 (KeepBut.blk hk (g' := gb101) (o := .cells #[.string a1_0, .slice A1_1 l1_1.length c1_1] 25 (0, 0)) q35_12 NB101_0.out (by simp)) (KeepBut.blk hk (g' := gb102) (o := .cells #[.string (⟨#[]⟩ : ByteArray), .slice none 0 0] 25 (0, 0)) q35_13 NB102_0.out (by simp)) (Kd.R_mono (Kd.R_keep (IsS132.apart (show IsS132 w0 _ g s0_0 s0_1 from q35_1) q35_14 (by decide)) hk (fun _ h => h.2)) (fun _ h => h.1)) (KeepBut.blk hk (g' := gb109) (o := .cells #[.string a1_0, .slice Ao14 y106.length co14] 25 (0, 0)) q35_11 NB109_0.out (by simp)) (KeepBut.trans q35_2 hk (.inl rfl)) (hb) (hi) ?_; clear BK101 BK102 HO108 BK109 HK HB HI0; intro BK101 BK102 HO108 BK109 HK HB HI0; (try clear hb); (try clear hb2); (try clear hk); (try clear hi)))
  go_meet
  case rel => exact ⟨_, (((y106.length : Int) == 0)), (t111), (by first | rfl | (simp; done) | (simp [*]; done)), H', ⟨by first | omega | exact Nat.le_refl _⟩, ⟨by (with_reducible repeat (first | apply Kd.R_alloc | apply Kd.R_drewN | apply Kd.R_drew)); exact HO108.out⟩, ⟨by (with_reducible repeat (first | refine blk_drewN ?_ _ | refine blk_drew ?_ | refine blk_alloc ?_ _)); exact BK101.out⟩, ⟨by (with_reducible repeat (first | refine blk_drewN ?_ _ | refine blk_drew ?_ | refine blk_alloc ?_ _)); exact BK102.out⟩, ⟨by (with_reducible repeat (first | refine blk_drewN ?_ _ | refine blk_drew ?_ | refine blk_alloc ?_ _)); exact BK109.out⟩, ⟨by repeat (first | (with_reducible first | exact HI0.out | apply IsS132.alloc | apply IsS132.drewN | apply IsS132.drew | apply IsS132.set_1 | refine IsS132.far ?_ NB0_101.out _ | refine IsS132.far ?_ NB0_102.out _ | refine IsS132.far ?_ NB0_109.out _ | refine IsS132.far ?_ HN0_go54.out _ | refine IsS132.far ?_ HN0_go75.out _) | exact HI0.out)⟩, ⟨by repeat (first | (with_reducible first | exact HK.out | apply KeepBut.set_ | apply keep_drewN | apply keep_drew | apply keep_alloc | refine keep_far ?_ GW101.out _ | refine keep_far ?_ GW102.out _ | refine keep_far ?_ GW109.out _ | refine keep_far ?_ GB54.out _ | refine keep_far ?_ GB75.out _) | exact HK.out)⟩, ⟨by repeat (first | (with_reducible first | exact HB.out | apply below_alloc | apply pw_below_drewN | apply below_drew1 | refine below_set ?_ (IsS132.ge HI0.out) | refine below_set ?_ GE101.out | refine below_set ?_ GE102.out | refine below_set ?_ GE109.out | refine below_set ?_ (Nat.le_trans HL.out GB54.out) | refine below_set ?_ (Nat.le_trans HL.out GB75.out)) | exact HB.out)⟩⟩
 case rest =>
  clear HC4
  try clear c1
  try clear c2
  try clear p2
  try clear c3
  try clear c8
  try clear c9
  try clear c17
  try clear c18
  try clear c19
  try clear c22
  try clear c22b0
  try clear hcz20_0
  try clear hcz20_1
  try clear hfz20_0
  try clear hfz20_1
  obtain ⟨kq, x24_3, x1001_3, rfl, HA, HJ3, HO_110001, BK101, BK102, BK109, HI0, HK, HB⟩ := hcut
  cases kq with
  | zero => exact absurd HA.out (by simp [spec_l1Bent.j0])
  | succ kj3 =>
   have H := HA.out
   clear HA
   simp only [spec_l1Bent.j0] at H
   by_cases c25 : x24_3 = true
   ·subst c25
    have H1 : (some (a1_0, y106, x1001_3)) = some (r1, r2, r3) := by rw [if_pos rfl] at H; exact H
    clear H
    have H := H1
    clear H1
    simp only [Option.some.injEq, Prod.mk.injEq] at H
    obtain ⟨rfl, rfl, rfl⟩ := H
    have hnb26 := NB109_101.out
    have hnc26 := NB101_109.out
    have hnb27 := NB109_102.out
    have hnc27 := NB102_109.out
    have hnb28 := NB109_0.out
    have hnc28 := NB0_109.out
    have hcz29_0 : wc.cell? ⟨gb109, 0, none⟩ = some (.string a1_0) := (blk_cell BK109.out 0).trans rfl
    have hcz29_1 : wc.cell? ⟨gb109, 1, none⟩ = some (.slice Ao14 y106.length co14) := (blk_cell BK109.out 1).trans rfl
    have hfz29_0 := blk_frozen BK109.out 0
    have hfz29_1 := blk_frozen BK109.out 1
    have hnb30 := NB102_101.out
    have hnc30 := NB101_102.out
    have hnb31 := NB102_0.out
    have hnc31 := NB0_102.out
    have hcz32_0 : wc.cell? ⟨gb102, 0, none⟩ = some (.string (⟨#[]⟩ : ByteArray)) := (blk_cell BK102.out 0).trans rfl
    have hcz32_1 : wc.cell? ⟨gb102, 1, none⟩ = some (.slice none 0 0) := (blk_cell BK102.out 1).trans rfl
    have hfz32_0 := blk_frozen BK102.out 0
    have hfz32_1 := blk_frozen BK102.out 1
    go_wp2
    refine bodyPost_ret (results_cell_row rfl _ _ gb102 25 #[.string a1_0, .slice Ao14 y106.length co14] (0, 0) _ rfl q35_9 Tryd.underlying25 rfl (by kernel_rfl)) rfl ?_
    exact ⟨_, by first | rfl | (simp [errW_none, errW_some] <;> rfl) | (simp [*, errW_none, errW_some] <;> rfl), by (with_reducible repeat (first | apply Kd.R_alloc | apply Kd.R_drewN | apply Kd.R_drew)); exact Kd.R_mono (Kd.R_far (p := ⟨gb102, 1, none⟩) (Kd.R_far (p := ⟨gb102, 0, none⟩) (Kd.R_types HO_110001.out BK102.out (by decide)) (fun _ hk => hk.2) (.string a1_0)) (fun _ hk => hk.2) (.slice Ao14 y106.length co14)) (fun _ hk => trivial), by repeat (first | (with_reducible first | exact HI0.out | apply IsS132.alloc | apply IsS132.drewN | apply IsS132.drew | apply IsS132.set_1 | refine IsS132.far ?_ NB0_101.out _ | refine IsS132.far ?_ NB0_102.out _ | refine IsS132.far ?_ NB0_109.out _ | refine IsS132.far ?_ HN0_go54.out _ | refine IsS132.far ?_ HN0_go75.out _) | exact HI0.out), by repeat (first | (with_reducible first | exact HB.out | apply below_alloc | apply pw_below_drewN | apply below_drew1 | refine below_set ?_ (IsS132.ge HI0.out) | refine below_set ?_ GE101.out | refine below_set ?_ GE102.out | refine below_set ?_ GE109.out | refine below_set ?_ (Nat.le_trans HL.out GB54.out) | refine below_set ?_ (Nat.le_trans HL.out GB75.out)) | exact HB.out), by repeat (first | (with_reducible first | exact HK.out | apply KeepBut.set_ | apply keep_drewN | apply keep_drew | apply keep_alloc | refine keep_far ?_ GW101.out _ | refine keep_far ?_ GW102.out _ | refine keep_far ?_ GW109.out _ | refine keep_far ?_ GB54.out _ | refine keep_far ?_ GB75.out _) | exact HK.out)⟩
   replace c25 := Bool.eq_false_iff.mpr c25
   subst c25
   have H1 : ((spec_l17Rd_pick.f kj3 s0_0 x1001_3 (y106.length : Int)).bind fun bt112 => ((spec_l17Rd_pick.f kj3 s0_0 bt112.2 5).bind fun bt114 => (if bt114.1 = 0 then ((spec_l17Rd_of.f kj3 s0_0 bt114.2 (([(⟨#[]⟩ : ByteArray), (⟨#[97]⟩ : ByteArray), (⟨#[65, 66]⟩ : ByteArray), (⟨#[70]⟩ : ByteArray), (⟨#[66]⟩ : ByteArray)] : List ByteArray))).bind fun bt119 => (some (bt119.1, y106, bt119.2))) else (if bt114.1 = 1 then ((spec_l17Rd_of.f kj3 s0_0 bt114.2 (([(⟨#[]⟩ : ByteArray), (⟨#[97]⟩ : ByteArray), (⟨#[65, 66]⟩ : ByteArray), (⟨#[70]⟩ : ByteArray)] : List ByteArray))).bind fun bt124 => (if 0 ≤ bt112.1 then (if bt112.1 < (y106.length : Int) then (some (a1_0, (y106.set (bt112.1 : Int).toNat (⟨bt124.1, (rd_T46 y106 bt112.1).f1⟩ : S46)), bt124.2)) else (none)) else (none))) else (if bt114.1 = 2 then ((spec_l17Rd_of.f kj3 s0_0 bt114.2 (([(⟨#[97, 97, 97, 97, 97]⟩ : ByteArray), (⟨#[101]⟩ : ByteArray), (⟨#[32]⟩ : ByteArray), (⟨#[97, 62]⟩ : ByteArray), (⟨#[70]⟩ : ByteArray)] : List ByteArray))).bind fun bt130 => (if 0 ≤ bt112.1 then (if bt112.1 < (y106.length : Int) then (some (a1_0, (y106.set (bt112.1 : Int).toNat (⟨(rd_T46 y106 bt112.1).f0, bt130.1⟩ : S46)), bt130.2)) else (none)) else (none))) else (if bt114.1 = 3 then (if 0 ≤ bt112.1 then (if bt112.1 < (y106.length : Int) then (if y106.length < 4398046511104 then (some (a1_0, (y106 ++ [(⟨(rd_T46 y106 bt112.1).f0, (rd_T46 y106 bt112.1).f1⟩ : S46)]), bt114.2)) else (none)) else (none)) else (none)) else (spec_l1Bent.l0 kj3 s0_0 bt114.2 a1_0 y106))))))) = some (r1, r2, r3) := by rw [if_neg (show ¬ (false = true) by decide)] at H; exact H
   clear H
   have H := H1
   clear H1
   replace H := Option.bind_eq_some_iff.mp H
   obtain ⟨⟨t112, t113⟩, A330, H⟩ := H
   replace H : ((spec_l17Rd_pick.f kj3 s0_0 t113 5).bind fun bt114 => (if bt114.1 = 0 then ((spec_l17Rd_of.f kj3 s0_0 bt114.2 (([(⟨#[]⟩ : ByteArray), (⟨#[97]⟩ : ByteArray), (⟨#[65, 66]⟩ : ByteArray), (⟨#[70]⟩ : ByteArray), (⟨#[66]⟩ : ByteArray)] : List ByteArray))).bind fun bt119 => (some (bt119.1, y106, bt119.2))) else (if bt114.1 = 1 then ((spec_l17Rd_of.f kj3 s0_0 bt114.2 (([(⟨#[]⟩ : ByteArray), (⟨#[97]⟩ : ByteArray), (⟨#[65, 66]⟩ : ByteArray), (⟨#[70]⟩ : ByteArray)] : List ByteArray))).bind fun bt124 => (if 0 ≤ t112 then (if t112 < (y106.length : Int) then (some (a1_0, (y106.set (t112 : Int).toNat (⟨bt124.1, (rd_T46 y106 t112).f1⟩ : S46)), bt124.2)) else (none)) else (none))) else (if bt114.1 = 2 then ((spec_l17Rd_of.f kj3 s0_0 bt114.2 (([(⟨#[97, 97, 97, 97, 97]⟩ : ByteArray), (⟨#[101]⟩ : ByteArray), (⟨#[32]⟩ : ByteArray), (⟨#[97, 62]⟩ : ByteArray), (⟨#[70]⟩ : ByteArray)] : List ByteArray))).bind fun bt130 => (if 0 ≤ t112 then (if t112 < (y106.length : Int) then (some (a1_0, (y106.set (t112 : Int).toNat (⟨(rd_T46 y106 t112).f0, bt130.1⟩ : S46)), bt130.2)) else (none)) else (none))) else (if bt114.1 = 3 then (if 0 ≤ t112 then (if t112 < (y106.length : Int) then (if y106.length < 4398046511104 then (some (a1_0, (y106 ++ [(⟨(rd_T46 y106 t112).f0, (rd_T46 y106 t112).f1⟩ : S46)]), bt114.2)) else (none)) else (none)) else (none)) else (spec_l1Bent.l0 kj3 s0_0 bt114.2 a1_0 y106)))))) = some (r1, r2, r3) := H
   have A33 := Aside0.mk A330
   clear A330
   replace H := Option.bind_eq_some_iff.mp H
   obtain ⟨⟨t114, t115⟩, A340, H⟩ := H
   replace H : (if t114 = 0 then ((spec_l17Rd_of.f kj3 s0_0 t115 (([(⟨#[]⟩ : ByteArray), (⟨#[97]⟩ : ByteArray), (⟨#[65, 66]⟩ : ByteArray), (⟨#[70]⟩ : ByteArray), (⟨#[66]⟩ : ByteArray)] : List ByteArray))).bind fun bt119 => (some (bt119.1, y106, bt119.2))) else (if t114 = 1 then ((spec_l17Rd_of.f kj3 s0_0 t115 (([(⟨#[]⟩ : ByteArray), (⟨#[97]⟩ : ByteArray), (⟨#[65, 66]⟩ : ByteArray), (⟨#[70]⟩ : ByteArray)] : List ByteArray))).bind fun bt124 => (if 0 ≤ t112 then (if t112 < (y106.length : Int) then (some (a1_0, (y106.set (t112 : Int).toNat (⟨bt124.1, (rd_T46 y106 t112).f1⟩ : S46)), bt124.2)) else (none)) else (none))) else (if t114 = 2 then ((spec_l17Rd_of.f kj3 s0_0 t115 (([(⟨#[97, 97, 97, 97, 97]⟩ : ByteArray), (⟨#[101]⟩ : ByteArray), (⟨#[32]⟩ : ByteArray), (⟨#[97, 62]⟩ : ByteArray), (⟨#[70]⟩ : ByteArray)] : List ByteArray))).bind fun bt130 => (if 0 ≤ t112 then (if t112 < (y106.length : Int) then (some (a1_0, (y106.set (t112 : Int).toNat (⟨(rd_T46 y106 t112).f0, bt130.1⟩ : S46)), bt130.2)) else (none)) else (none))) else (if t114 = 3 then (if 0 ≤ t112 then (if t112 < (y106.length : Int) then (if y106.length < 4398046511104 then (some (a1_0, (y106 ++ [(⟨(rd_T46 y106 t112).f0, (rd_T46 y106 t112).f1⟩ : S46)]), t115)) else (none)) else (none)) else (none)) else (spec_l1Bent.l0 kj3 s0_0 t115 a1_0 y106))))) = some (r1, r2, r3) := H
   have A34 := Aside0.mk A340
   clear A340
   by_cases c35 : t114 = 0
   ·rw [if_pos c35] at H
    have c35b0 : (t114 == 0) = true := beq_iff_eq.mpr c35
    have c35b1 : (t114 != 0) = false := bne_eq_false_iff_eq.mpr c35
    clear c35
    obtain ⟨y116, hy116⟩ : ∃ y_ : List ByteArray, y_ = (([(⟨#[]⟩ : ByteArray), (⟨#[97]⟩ : ByteArray), (⟨#[65, 66]⟩ : ByteArray), (⟨#[70]⟩ : ByteArray), (⟨#[66]⟩ : ByteArray)] : List ByteArray)) := ⟨_, rfl⟩
    replace H : ((spec_l17Rd_of.f kj3 s0_0 t115 y116).bind fun bt119 => (some (bt119.1, y106, bt119.2))) = some (r1, r2, r3) := by first | (rw [hy116]; with_reducible exact H) | (have H2_ := (Option.bind_some _ _).symm.trans H; rw [hy116]; with_reducible exact H2_) | (have H2_ := (Option.bind_some _ _).symm.trans H; with_reducible exact H2_) | with_reducible exact H | (rw [hy116]; exact H) | exact H
    have Ny116 := Aside0.mk hy116
    clear hy116
    replace H := Option.bind_eq_some_iff.mp H
    obtain ⟨⟨t119, t120⟩, A360, H⟩ := H
    replace H : (some (t119, y106, t120)) = some (r1, r2, r3) := H
    have A36 := Aside0.mk A360
    clear A360
    simp only [Option.some.injEq, Prod.mk.injEq] at H
    obtain ⟨rfl, rfl, rfl⟩ := H
    go_wp2_with (first | ((with_reducible refine gate_callee (f := 84) rfl ?_); refine goesL_ (some 28) rfl rfl Tryd.func84 (by kernel_rfl) rfl #[.pointer (some ⟨g, 0, none⟩), .int .i64 (y106.length : Int)] rfl q35_7 ?_; (with_reducible refine (spec_l17Rd_pick.calls kj3 g s0_0 x1001_3 (y106.length : Int) t112 t113 w0 _ ?side1 ?side2 A33.out).mono ?_); (case side1 => exact q35_1); (case side2 => exact q35_3); rintro e w37 ⟨rfl, hi, hb, hk⟩; refine ⟨_, rfl, ?_⟩; refine rn7 (Kd.R_mono (Kd.R_keep (IsS132.apart (show IsS132 w0 _ g s0_0 x1001_3 from q35_1) q35_8 (by decide)) hk (fun _ h => h.2)) (fun _ h => h.1)) (KeepBut.blk hk (g' := gb101) (o := .cells #[.string a1_0, .slice A1_1 l1_1.length c1_1] 25 (0, 0)) q35_4 NB101_0.out (by simp)) (KeepBut.blk hk (g' := gb102) (o := .cells #[.string (⟨#[]⟩ : ByteArray), .slice none 0 0] 25 (0, 0)) q35_5 NB102_0.out (by simp)) (KeepBut.blk hk (g' := gb109) (o := .cells #[.string a1_0, .slice Ao14 y106.length co14] 25 (0, 0)) q35_6 NB109_0.out (by simp)) (KeepBut.trans q35_2 hk (.inl rfl)) (hb) (hi) ?_; clear HO_110001 BK101 BK102 BK109 HK HB HI0; intro HO_110001 BK101 BK102 BK109 HK HB HI0; (try clear hb); (try clear hb2); (try clear hk); (try clear hi)) | ((with_reducible refine gate_callee (f := 84) rfl ?_); refine goesL_ (some 30) rfl rfl Tryd.func84 (by kernel_rfl) rfl #[.pointer (some ⟨g, 0, none⟩), .int .i64 5] rfl q35_7 ?_; (with_reducible refine (spec_l17Rd_pick.calls kj3 g s0_0 t113 5 t114 t115 w0 _ ?side1 ?side2 A34.out).mono ?_); (case side1 => exact q35_1); (case side2 => exact q35_3); rintro e w38 ⟨rfl, hi, hb, hk⟩; refine ⟨_, rfl, ?_⟩; refine rn7 (Kd.R_mono (Kd.R_keep (IsS132.apart (show IsS132 w0 _ g s0_0 t113 from q35_1) q35_8 (by decide)) hk (fun _ h => h.2)) (fun _ h => h.1)) (KeepBut.blk hk (g' := gb101) (o := .cells #[.string a1_0, .slice A1_1 l1_1.length c1_1] 25 (0, 0)) q35_4 NB101_0.out (by simp)) (KeepBut.blk hk (g' := gb102) (o := .cells #[.string (⟨#[]⟩ : ByteArray), .slice none 0 0] 25 (0, 0)) q35_5 NB102_0.out (by simp)) (KeepBut.blk hk (g' := gb109) (o := .cells #[.string a1_0, .slice Ao14 y106.length co14] 25 (0, 0)) q35_6 NB109_0.out (by simp)) (KeepBut.trans q35_2 hk (.inl rfl)) (hb) (hi) ?_; clear HO_110001 BK101 BK102 BK109 HK HB HI0; intro HO_110001 BK101 BK102 BK109 HK HB HI0; (try clear hb); (try clear hb2); (try clear hk); (try clear hi)) | ((with_reducible refine gate_dst (N := 46) rfl ?_); refine Kd.R_lit Kd.string _ 9 ?hg (N := 46) ?hd (xs := ([(⟨#[]⟩ : ByteArray), (⟨#[97]⟩ : ByteArray), (⟨#[65, 66]⟩ : ByteArray), (⟨#[70]⟩ : ByteArray), (⟨#[66]⟩ : ByteArray)] : List ByteArray)) (inner := [.string (⟨#[]⟩ : ByteArray), .string (⟨#[97]⟩ : ByteArray), .string (⟨#[65, 66]⟩ : ByteArray), .string (⟨#[70]⟩ : ByteArray), .string (⟨#[66]⟩ : ByteArray)]) (ok := fun _ => True) (okp := fun _ => True) ?hr ?hp (fun _ hk => hk) trivial (Below.refl _ _) (Nat.le_refl _) (by simp) ?_; (case hd => rfl); (case hg => rfl); (case hr => first | (go_simp; done) | (go_simp; rfl)); (case hp => exact (Reps.one (show Kd.M Kd.string _ _ _ (⟨#[]⟩ : ByteArray) [.string (⟨#[]⟩ : ByteArray)] from rfl) (Reps.one (show Kd.M Kd.string _ _ _ (⟨#[97]⟩ : ByteArray) [.string (⟨#[97]⟩ : ByteArray)] from rfl) (Reps.one (show Kd.M Kd.string _ _ _ (⟨#[65, 66]⟩ : ByteArray) [.string (⟨#[65, 66]⟩ : ByteArray)] from rfl) (Reps.one (show Kd.M Kd.string _ _ _ (⟨#[70]⟩ : ByteArray) [.string (⟨#[70]⟩ : ByteArray)] from rfl) (Reps.one (show Kd.M Kd.string _ _ _ (⟨#[66]⟩ : ByteArray) [.string (⟨#[66]⟩ : ByteArray)] from rfl) (Reps.none _ _))))))); intro v117 w39 ho40 hb hg_ hnew_; clear hg_ hnew_; (first | rw [← Ny116.out] at ho40 | (simp only [Int.reduceToNat] at ho40; rw [← Ny116.out] at ho40)); refine rn8 (Kd.R_below q35_8 hb) (Kd.R_lower ho40 (keep_size (w := w) (g := g) (row := none) q35_2)) (blk_below (g := gb101) (o := .cells #[.string a1_0, .slice A1_1 l1_1.length c1_1] 25 (0, 0)) q35_4 hb) (blk_below (g := gb102) (o := .cells #[.string (⟨#[]⟩ : ByteArray), .slice none 0 0] 25 (0, 0)) q35_5 hb) (blk_below (g := gb109) (o := .cells #[.string a1_0, .slice Ao14 y106.length co14] 25 (0, 0)) q35_6 hb) (IsS132.below q35_1 hb) (KeepBut.trans q35_2 (KeepBut.of_below hb g none) (.inl rfl)) (below_step q35_3 hb) ?_; clear HO_110001 BK101 BK102 BK109 HI0 HK HB; intro HO_110001 HO118 BK101 BK102 BK109 HI0 HK HB; clear hb ho40; obtain ⟨Ao41, co41, eo41⟩ := Kd.R_slice HO118.out; subst eo41) | ((with_reducible refine gate_callee (f := 85) rfl ?_); refine goesL_ (some 47) rfl rfl Tryd.func85 (by kernel_rfl) rfl #[.pointer (some ⟨g, 0, none⟩), .slice Ao41 y116.length co41] rfl q35_7 ?_; (with_reducible refine (spec_l17Rd_of.calls kj3 g s0_0 t115 _ _ y116 t119 t120 w0 _ ?side1 ?side2 ?side3 ?side4 ?side5 A36.out).mono ?_); (case side1 => exact q35_1); (case side2 => exact q35_3); (case side3 => repeat (first | exact (Kd.R_reads' HO118.out).2.2 | (with_reducible refine Kd.C_alloc ?_ _) | (with_reducible refine Kd.C_drewN ?_ _) | (with_reducible refine Kd.C_drew ?_))); (case side4 => exact (Kd.R_reads' HO118.out).2.1); (case side5 => exact far_slice (IsS132.own_ne HI0.out HO118.out (by decide))); rintro e w42 ⟨rfl, hi, hb, hk⟩; refine ⟨_, rfl, ?_⟩; refine rn8 (Kd.R_mono (Kd.R_keep (IsS132.apart (show IsS132 w0 _ g s0_0 t115 from q35_1) q35_8 (by decide)) hk (fun _ h => h.2)) (fun _ h => h.1)) (KeepBut.blk hk (g' := gb101) (o := .cells #[.string a1_0, .slice A1_1 l1_1.length c1_1] 25 (0, 0)) q35_4 NB101_0.out (by simp)) (KeepBut.blk hk (g' := gb102) (o := .cells #[.string (⟨#[]⟩ : ByteArray), .slice none 0 0] 25 (0, 0)) q35_5 NB102_0.out (by simp)) (KeepBut.blk hk (g' := gb109) (o := .cells #[.string a1_0, .slice Ao14 y106.length co14] 25 (0, 0)) q35_6 NB109_0.out (by simp)) (Kd.R_mono (Kd.R_keep (IsS132.apart (show IsS132 w0 _ g s0_0 t115 from q35_1) (by (with_reducible repeat (first | apply Kd.R_alloc | apply Kd.R_drewN | apply Kd.R_drew)); exact HO118.out) (by decide)) hk (fun _ h => h.2)) (fun _ h => h.1)) (KeepBut.trans q35_2 hk (.inl rfl)) (hb) (hi) ?_; clear HO_110001 BK101 BK102 BK109 HO118 HK HB HI0; intro HO_110001 BK101 BK102 BK109 HO118 HK HB HI0; (try clear hb); (try clear hb2); (try clear hk); (try clear hi); have hnb43 := NB109_101.out; have hnc43 := NB101_109.out; have hnb44 := NB109_102.out; have hnc44 := NB102_109.out; have hnb45 := NB109_0.out; have hnc45 := NB0_109.out; have hcz46_0 : w42.cell? ⟨gb109, 0, none⟩ = some (.string a1_0) := (blk_cell BK109.out 0).trans rfl; have hcz46_1 : w42.cell? ⟨gb109, 1, none⟩ = some (.slice Ao14 y106.length co14) := (blk_cell BK109.out 1).trans rfl; have hfz46_0 := blk_frozen BK109.out 0; have hfz46_1 := blk_frozen BK109.out 1; have hnb47 := NB102_101.out; have hnc47 := NB101_102.out; have hnb48 := NB102_0.out; have hnc48 := NB0_102.out; have hcz49_0 : w42.cell? ⟨gb102, 0, none⟩ = some (.string (⟨#[]⟩ : ByteArray)) := (blk_cell BK102.out 0).trans rfl; have hcz49_1 : w42.cell? ⟨gb102, 1, none⟩ = some (.slice none 0 0) := (blk_cell BK102.out 1).trans rfl; have hfz49_0 := blk_frozen BK102.out 0; have hfz49_1 := blk_frozen BK102.out 1))
    refine bodyPost_ret (results_cell_row rfl _ _ gb102 25 #[.string t119, .slice Ao14 y106.length co14] (0, 0) _ rfl (by (with_reducible repeat (first | refine blk_drewN ?_ _ | refine blk_drew ?_ | refine blk_alloc ?_ _)); refine blk_put (cs := #[.string t119, .slice none 0 0]) ?_ 1 _ rfl; (with_reducible repeat (first | refine blk_drewN ?_ _ | refine blk_drew ?_ | refine blk_alloc ?_ _)); refine blk_put (cs := #[.string (⟨#[]⟩ : ByteArray), .slice none 0 0]) ?_ 0 _ rfl; (with_reducible repeat (first | refine blk_drewN ?_ _ | refine blk_drew ?_ | refine blk_alloc ?_ _)); refine blk_far ?_ NB102_109.out _; (with_reducible repeat (first | refine blk_drewN ?_ _ | refine blk_drew ?_ | refine blk_alloc ?_ _)); exact BK102.out) Tryd.underlying25 rfl (by kernel_rfl)) rfl ?_
    exact ⟨_, by first | rfl | (simp [errW_none, errW_some] <;> rfl) | (simp [*, errW_none, errW_some] <;> rfl), by (with_reducible repeat (first | apply Kd.R_alloc | apply Kd.R_drewN | apply Kd.R_drew)); exact Kd.R_mono (Kd.R_far (p := ⟨gb102, 1, none⟩) (Kd.R_far (p := ⟨gb102, 0, none⟩) (Kd.R_far (p := ⟨gb109, 0, none⟩) (Kd.R_types (Kd.R_types HO_110001.out BK109.out (by decide)) BK102.out (by decide)) (fun _ hk => hk.1.2) (.string t119)) (fun _ hk => hk.2) (.string t119)) (fun _ hk => hk.2) (.slice Ao14 y106.length co14)) (fun _ hk => trivial), by repeat (first | (with_reducible first | exact HI0.out | apply IsS132.alloc | apply IsS132.drewN | apply IsS132.drew | apply IsS132.set_1 | refine IsS132.far ?_ NB0_101.out _ | refine IsS132.far ?_ NB0_102.out _ | refine IsS132.far ?_ NB0_109.out _ | refine IsS132.far ?_ HN0_go54.out _ | refine IsS132.far ?_ HN0_go75.out _) | exact HI0.out), by repeat (first | (with_reducible first | exact HB.out | apply below_alloc | apply pw_below_drewN | apply below_drew1 | refine below_set ?_ (IsS132.ge HI0.out) | refine below_set ?_ GE101.out | refine below_set ?_ GE102.out | refine below_set ?_ GE109.out | refine below_set ?_ (Nat.le_trans HL.out GB54.out) | refine below_set ?_ (Nat.le_trans HL.out GB75.out)) | exact HB.out), by repeat (first | (with_reducible first | exact HK.out | apply KeepBut.set_ | apply keep_drewN | apply keep_drew | apply keep_alloc | refine keep_far ?_ GW101.out _ | refine keep_far ?_ GW102.out _ | refine keep_far ?_ GW109.out _ | refine keep_far ?_ GB54.out _ | refine keep_far ?_ GB75.out _) | exact HK.out)⟩
   rw [if_neg c35] at H
   have c35b0 : (t114 == 0) = false := beq_eq_false_iff_ne.mpr c35
   have c35b1 : (t114 != 0) = true := bne_iff_ne.mpr c35
   by_cases c50 : t114 = 1
   ·rw [if_pos c50] at H
    have c50b0 : (t114 == 1) = true := beq_iff_eq.mpr c50
    have c50b1 : (t114 != 1) = false := bne_eq_false_iff_eq.mpr c50
    clear c50
    obtain ⟨y121, hy121⟩ : ∃ y_ : List ByteArray, y_ = (([(⟨#[]⟩ : ByteArray), (⟨#[97]⟩ : ByteArray), (⟨#[65, 66]⟩ : ByteArray), (⟨#[70]⟩ : ByteArray)] : List ByteArray)) := ⟨_, rfl⟩
    replace H : ((spec_l17Rd_of.f kj3 s0_0 t115 y121).bind fun bt124 => (if 0 ≤ t112 then (if t112 < (y106.length : Int) then (some (a1_0, (y106.set (t112 : Int).toNat (⟨bt124.1, (rd_T46 y106 t112).f1⟩ : S46)), bt124.2)) else (none)) else (none))) = some (r1, r2, r3) := by first | (rw [hy121]; with_reducible exact H) | (have H2_ := (Option.bind_some _ _).symm.trans H; rw [hy121]; with_reducible exact H2_) | (have H2_ := (Option.bind_some _ _).symm.trans H; with_reducible exact H2_) | with_reducible exact H | (rw [hy121]; exact H) | exact H
    have Ny121 := Aside0.mk hy121
    clear hy121
    replace H := Option.bind_eq_some_iff.mp H
    obtain ⟨⟨t124, t125⟩, A510, H⟩ := H
    replace H : (if 0 ≤ t112 then (if t112 < (y106.length : Int) then (some (a1_0, (y106.set (t112 : Int).toNat (⟨t124, (rd_T46 y106 t112).f1⟩ : S46)), t125)) else (none)) else (none)) = some (r1, r2, r3) := H
    have A51 := Aside0.mk A510
    clear A510
    by_cases c52 : 0 ≤ t112
    rotate_left
    ·rw [if_neg c52] at H
     exact absurd H (by simp)
    rw [if_pos c52] at H
    have c52b0 : decide (0 ≤ t112) = true := decide_eq_true c52
    clear c52
    by_cases c53 : t112 < (y106.length : Int)
    rotate_left
    ·rw [if_neg c53] at H
     exact absurd H (by simp)
    rw [if_pos c53] at H
    have c53b0 : decide (t112 < (y106.length : Int)) = true := decide_eq_true c53
    clear c53
    obtain ⟨y126, hy126⟩ : ∃ y_ : List (S46), y_ = (y106.set (t112 : Int).toNat (⟨t124, (rd_T46 y106 t112).f1⟩ : S46)) := ⟨_, rfl⟩
    replace H : (some (a1_0, y126, t125)) = some (r1, r2, r3) := by first | (rw [hy126]; with_reducible exact H) | (have H2_ := (Option.bind_some _ _).symm.trans H; rw [hy126]; with_reducible exact H2_) | (have H2_ := (Option.bind_some _ _).symm.trans H; with_reducible exact H2_) | with_reducible exact H | (rw [hy126]; exact H) | exact H
    have Ny126 := Aside0.mk hy126
    clear hy126
    simp only [Option.some.injEq, Prod.mk.injEq] at H
    obtain ⟨rfl, rfl, rfl⟩ := H
    try go_wp2_with (first | ((with_reducible refine gate_callee (f := 84) rfl ?_); refine goesL_ (some 28) rfl rfl Tryd.func84 (by kernel_rfl) rfl #[.pointer (some ⟨g, 0, none⟩), .int .i64 (y106.length : Int)] rfl q35_7 ?_; (with_reducible refine (spec_l17Rd_pick.calls kj3 g s0_0 x1001_3 (y106.length : Int) t112 t113 w0 _ ?side1 ?side2 A33.out).mono ?_); (case side1 => exact q35_1); (case side2 => exact q35_3); rintro e w55 ⟨rfl, hi, hb, hk⟩; refine ⟨_, rfl, ?_⟩; refine rn7 (Kd.R_mono (Kd.R_keep (IsS132.apart (show IsS132 w0 _ g s0_0 x1001_3 from q35_1) q35_8 (by decide)) hk (fun _ h => h.2)) (fun _ h => h.1)) (KeepBut.blk hk (g' := gb101) (o := .cells #[.string a1_0, .slice A1_1 l1_1.length c1_1] 25 (0, 0)) q35_4 NB101_0.out (by simp)) (KeepBut.blk hk (g' := gb102) (o := .cells #[.string (⟨#[]⟩ : ByteArray), .slice none 0 0] 25 (0, 0)) q35_5 NB102_0.out (by simp)) (KeepBut.blk hk (g' := gb109) (o := .cells #[.string a1_0, .slice Ao14 y106.length co14] 25 (0, 0)) q35_6 NB109_0.out (by simp)) (KeepBut.trans q35_2 hk (.inl rfl)) (hb) (hi) ?_; clear HO_110001 BK101 BK102 BK109 HK HB HI0; intro HO_110001 BK101 BK102 BK109 HK HB HI0; (try clear hb); (try clear hb2); (try clear hk); (try clear hi)) | ((with_reducible refine gate_callee (f := 84) rfl ?_); refine goesL_ (some 30) rfl rfl Tryd.func84 (by kernel_rfl) rfl #[.pointer (some ⟨g, 0, none⟩), .int .i64 5] rfl q35_7 ?_; (with_reducible refine (spec_l17Rd_pick.calls kj3 g s0_0 t113 5 t114 t115 w0 _ ?side1 ?side2 A34.out).mono ?_); (case side1 => exact q35_1); (case side2 => exact q35_3); rintro e w56 ⟨rfl, hi, hb, hk⟩; refine ⟨_, rfl, ?_⟩; refine rn7 (Kd.R_mono (Kd.R_keep (IsS132.apart (show IsS132 w0 _ g s0_0 t113 from q35_1) q35_8 (by decide)) hk (fun _ h => h.2)) (fun _ h => h.1)) (KeepBut.blk hk (g' := gb101) (o := .cells #[.string a1_0, .slice A1_1 l1_1.length c1_1] 25 (0, 0)) q35_4 NB101_0.out (by simp)) (KeepBut.blk hk (g' := gb102) (o := .cells #[.string (⟨#[]⟩ : ByteArray), .slice none 0 0] 25 (0, 0)) q35_5 NB102_0.out (by simp)) (KeepBut.blk hk (g' := gb109) (o := .cells #[.string a1_0, .slice Ao14 y106.length co14] 25 (0, 0)) q35_6 NB109_0.out (by simp)) (KeepBut.trans q35_2 hk (.inl rfl)) (hb) (hi) ?_; clear HO_110001 BK101 BK102 BK109 HK HB HI0; intro HO_110001 BK101 BK102 BK109 HK HB HI0; (try clear hb); (try clear hb2); (try clear hk); (try clear hi)))
    refine rn7 (Kd.R_drew HO_110001.out) (blk_drew BK101.out) (blk_drew BK102.out) (blk_drew BK109.out) (IsS132.drew HI0.out) (keep_drew HK.out) (below_drew1 HB.out) ?_
    clear HO_110001 BK101 BK102 BK109 HI0 HK HB
    intro HO_110001 BK101 BK102 BK109 HI0 HK HB
    refine start_ (n := 9) (S := fun w' => w'.cell? ⟨gb109, 0, none⟩ = some (.string a1_0) ∧ w'.cell? ⟨gb109, 1, none⟩ = some (.slice Ao14 y106.length co14)) (ds := [8]) #[false, false, false, false, false, false, false, false, false] (by kernel_rfl) rfl rfl ⟨(blk_cell BK109.out 0).trans rfl, (blk_cell BK109.out 1).trans rfl⟩ (fun hHeld => ?_); refine with_tabW spec_l1Bent.tab12 spec_l1Bent.bits12 (fun HT_ HW_ => ?_)
    generalize w56.drew = w57 at HO_110001 BK101 BK102 BK109 HI0 HK HB hHeld ⊢
    refine pz 0 51 HT_ ?_
    refine pz 2 53 HT_ ?_
    refine pz 3 54 HT_ ?_
    refine tz 1 52 HT_ HW_ hHeld ?_
    refine oz 4 (some 55) HT_ (fun K hK => ?_)
    refine Kd.R_lit_step Kd.string _ 9 ?hg (N := 55) ?hd (xs := ([(⟨#[]⟩ : ByteArray), (⟨#[97]⟩ : ByteArray), (⟨#[65, 66]⟩ : ByteArray), (⟨#[70]⟩ : ByteArray)] : List ByteArray)) (inner := [.string (⟨#[]⟩ : ByteArray), .string (⟨#[97]⟩ : ByteArray), .string (⟨#[65, 66]⟩ : ByteArray), .string (⟨#[70]⟩ : ByteArray)]) (ok := fun _ => True) (okp := fun _ => True) ?hr ?hp (fun _ hk => hk) trivial (Below.refl _ _) (Nat.le_refl _) (by simp) ?_; (case hd => rfl); (case hg => rfl); (case hr => first | (go_simp; done) | (go_simp; rfl)); (case hp => exact (Reps.one (show Kd.M Kd.string _ _ _ (⟨#[]⟩ : ByteArray) [.string (⟨#[]⟩ : ByteArray)] from rfl) (Reps.one (show Kd.M Kd.string _ _ _ (⟨#[97]⟩ : ByteArray) [.string (⟨#[97]⟩ : ByteArray)] from rfl) (Reps.one (show Kd.M Kd.string _ _ _ (⟨#[65, 66]⟩ : ByteArray) [.string (⟨#[65, 66]⟩ : ByteArray)] from rfl) (Reps.one (show Kd.M Kd.string _ _ _ (⟨#[70]⟩ : ByteArray) [.string (⟨#[70]⟩ : ByteArray)] from rfl) (Reps.none _ _))))))
    intro v122 w58 ho59 hb hg_ hnew_
    clear hg_ hnew_
    (first | rw [← Ny121.out] at ho59 | (simp only [Int.reduceToNat] at ho59; rw [← Ny121.out] at ho59))
    refine rn8 (Kd.R_below q35_8 hb) (Kd.R_lower ho59 (keep_size (w := w) (g := g) (row := none) q35_2)) (blk_below (g := gb101) (o := .cells #[.string a1_0, .slice A1_1 l1_1.length c1_1] 25 (0, 0)) q35_4 hb) (blk_below (g := gb102) (o := .cells #[.string (⟨#[]⟩ : ByteArray), .slice none 0 0] 25 (0, 0)) q35_5 hb) (blk_below (g := gb109) (o := .cells #[.string a1_0, .slice Ao14 y106.length co14] 25 (0, 0)) q35_6 hb) (IsS132.below q35_1 hb) (KeepBut.trans q35_2 (KeepBut.of_below hb g none) (.inl rfl)) (below_step q35_3 hb) ?_
    clear HO_110001 BK101 BK102 BK109 HI0 HK HB
    intro HO_110001 HO123 BK101 BK102 BK109 HI0 HK HB
    clear hb ho59
    obtain ⟨Ao60, co60, eo60⟩ := Kd.R_slice HO123.out
    (first | subst eo60 | (injection eo60 with f1_ f2_ f3_; have f4_ := f1_.symm; have f5_ := f3_.symm; clear f1_ f2_ f3_; subst f4_; subst f5_))
    refine hK.out _ _ ⟨(blk_cell BK109.out 0).trans rfl, (blk_cell BK109.out 1).trans rfl⟩ (fun hHeld => ?_)
    clear hK K
    refine norm_ (a' := ?_) ?_ ?_
    rotate_left
    ·show Act.put _ (some 55) _ = _
     simp only [Act.put, List.setIfInBounds_toArray, List.set_cons_zero, List.set_cons_succ, i64_w, i32_w]
     rfl
    refine oz 5 (some 56) HT_ (fun K hK => ?_)
    refine goes_ Tryd.func85 (by kernel_rfl) rfl #[.pointer (some ⟨g, 0, none⟩), .slice Ao60 y121.length co60] (by rfl) rfl rfl q35_7 ?_
    with_reducible refine (spec_l17Rd_of.calls kj3 g s0_0 t115 _ _ y121 t124 t125 w0 _ ?side1 ?side2 ?side3 ?side4 ?side5 A51.out).mono ?_
    (case side1 => exact q35_1)
    (case side2 => exact q35_3)
    (case side3 => repeat (first | exact (Kd.R_reads' HO123.out).2.2 | (with_reducible refine Kd.C_alloc ?_ _) | (with_reducible refine Kd.C_drewN ?_ _) | (with_reducible refine Kd.C_drew ?_)))
    (case side4 => exact (Kd.R_reads' HO123.out).2.1)
    (case side5 => exact far_slice (IsS132.own_ne HI0.out HO123.out (by decide)))
    rintro e w61 ⟨rfl, hi, hb, hk⟩
    refine ⟨_, rfl, ?_⟩
    refine rn8 (Kd.R_mono (Kd.R_keep (IsS132.apart (show IsS132 w0 _ g s0_0 t115 from q35_1) q35_8 (by decide)) hk (fun _ h => h.2)) (fun _ h => h.1)) (KeepBut.blk hk (g' := gb101) (o := .cells #[.string a1_0, .slice A1_1 l1_1.length c1_1] 25 (0, 0)) q35_4 NB101_0.out (by simp)) (KeepBut.blk hk (g' := gb102) (o := .cells #[.string (⟨#[]⟩ : ByteArray), .slice none 0 0] 25 (0, 0)) q35_5 NB102_0.out (by simp)) (KeepBut.blk hk (g' := gb109) (o := .cells #[.string a1_0, .slice Ao14 y106.length co14] 25 (0, 0)) q35_6 NB109_0.out (by simp)) (Kd.R_mono (Kd.R_keep (IsS132.apart (show IsS132 w0 _ g s0_0 t115 from q35_1) (by (with_reducible repeat (first | apply Kd.R_alloc | apply Kd.R_drewN | apply Kd.R_drew)); exact HO123.out) (by decide)) hk (fun _ h => h.2)) (fun _ h => h.1)) (KeepBut.trans q35_2 hk (.inl rfl)) (hb) (hi) ?_
    clear HO_110001 BK101 BK102 BK109 HO123 HK HB HI0
    intro HO_110001 BK101 BK102 BK109 HO123 HK HB HI0
    (try clear hb)
    (try clear hb2)
    (try clear hk)
    (try clear hi)
    have p54 : 0 ≤ (t112 : Int) := of_decide_eq_true q35_10
    have q54 : (t112 : Int) < ((y106.length : Int) : Int) := of_decide_eq_true q35_10
    obtain ⟨go54, co54, eo54, gb54, gl54, cl54, HG54⟩ := Kd.R_form HO_110001.out (by omega)
    (first | cases eo54 | (injection eo54 with ea_ en_ ec_; (first | subst ea_ | (injection ea_ with ea_; subst ea_)); subst ec_; clear en_))
    have GB54 := Aside0.mk gb54
    have GG54 := Aside0.mk HG54
    clear gb54 gl54 HG54
    obtain ⟨ce54, hcl54, hM54, hcc54, hfr54⟩ := Kd.R_elem HO_110001.out z46 (t112 : Int) p54 q54
    obtain rfl := k46_openM hM54
    have hx54_0 : World.cell? _ ⟨go54, (t112 : Int).toNat * 2, none⟩ = some (.string ((rd_T46 y106 t112).f0)) := hcc54 0 _ rfl
    have hx54_1 : World.cell? _ ⟨go54, (t112 : Int).toNat * 2 + 1, none⟩ = some (.string ((rd_T46 y106 t112).f1)) := hcc54 1 _ rfl
    have hf54_0 : World.frozen? _ ⟨go54, (t112 : Int).toNat * 2, none⟩ = false := hfr54 0
    have hf54_1 : World.frozen? _ ⟨go54, (t112 : Int).toNat * 2 + 1, none⟩ = false := hfr54 1
    clear hcl54 hcc54 hfr54 hM54
    replace p54 := eq_true p54
    replace q54 := eq_true q54
    have HN0_go54 := Aside0.mk (show g ≠ go54 from q35_18)
    obtain ⟨ce62, hcl62, hM62, hcc62, hfr62⟩ := Kd.R_elem HO_110001.out z46 (t112 : Int) (of_decide_eq_true q35_10) (by have h_ : (t112 : Int) < ((y106.length : Int) : Int) := of_decide_eq_true q35_10; first | exact h_ | (have e_ := (Kd.R_reads' HO_110001.out).1; omega) | simpa using h_)
    obtain rfl := k46_openM hM62
    have HP62 := (Kd.R_seg HO_110001.out (t112 : Int) (of_decide_eq_true q35_10) (by have h_ : (t112 : Int) < ((y106.length : Int) : Int) := of_decide_eq_true q35_10; first | exact h_ | (have e_ := (Kd.R_reads' HO_110001.out).1; omega) | simpa using h_) (seg := [.string t124]) (j := 0) hcl62 hcc62 (show 1 ≤ 2 from (by decide)) (x' := (⟨t124, (rd_T46 y106 t112).f1⟩ : S46)) (k46_mkM _ _ _ (⟨t124, (rd_T46 y106 t112).f1⟩ : S46) ) (fun _ hk => hk)).1
    rw [← Ny126.out] at HP62
    have HQ62 := Aside0.mk HP62
    clear hcl62 hcc62 hfr62 hM62 HP62
    refine hK.out _ _ ⟨(blk_cell BK109.out 0).trans rfl, (blk_cell BK109.out 1).trans rfl⟩ (fun hHeld => ?_)
    clear hK K
    refine norm_ (a' := ?_) ?_ ?_
    rotate_left
    ·show Act.put _ (some 56) _ = _
     simp only [Act.put, List.setIfInBounds_toArray, List.set_cons_zero, List.set_cons_succ, i64_w, i32_w]
     rfl
    refine pz 6 57 HT_ ?_
    refine pz 7 58 HT_ ?_
    refine last_ (i := 8) (N := none) #[true, true, true, true, true, true, true, true, true] rfl rfl (one_of HT_.out (by kernel_rfl)) (by decide) (fun K hK => ?_)
    refine skip_ (w1 := ?_) (by rfl) rfl ?_ ?_
    rotate_left
    ·go_simp
     rfl
    refine hK.out _ _ ?_
    clear hK K
    refine dz HT_ ?_
    have n0_ : Aside0 (Kd.R k46 46 (w61.setCell ⟨go54, (t112 : Int).toNat * 2, none⟩ (.string t124)) w.heap.size (fun _ => True) (.slice (some ⟨go54, 0, none⟩) y106.length co14) y126) := ⟨by (with_reducible repeat (first | apply Kd.R_alloc | apply Kd.R_drewN | apply Kd.R_drew)); exact HQ62.out⟩
    have n1_ : Aside0 (Kd.R Kd.string 9 (w61.setCell ⟨go54, (t112 : Int).toNat * 2, none⟩ (.string t124)) w.heap.size (fun _ => True) (.slice Ao60 y121.length co60) y121) := ⟨by (with_reducible repeat (first | apply Kd.R_alloc | apply Kd.R_drewN | apply Kd.R_drew)); exact Kd.R_mono (Kd.R_far (p := ⟨go54, (t112 : Int).toNat * 2, none⟩) (Kd.R_types HO123.out GG54.out (by decide)) (fun _ hk => hk.2) (.string t124)) (fun _ hk => trivial)⟩
    have n2_ : Aside0 ((w61.setCell ⟨go54, (t112 : Int).toNat * 2, none⟩ (.string t124)).heap[gb101]? = some (.cells #[.string a1_0, .slice A1_1 l1_1.length c1_1] 25 (0, 0))) := ⟨by (with_reducible repeat (first | refine blk_drewN ?_ _ | refine blk_drew ?_ | refine blk_alloc ?_ _)); refine blk_far ?_ q35_19 _; (with_reducible repeat (first | refine blk_drewN ?_ _ | refine blk_drew ?_ | refine blk_alloc ?_ _)); exact BK101.out⟩
    have n3_ : Aside0 ((w61.setCell ⟨go54, (t112 : Int).toNat * 2, none⟩ (.string t124)).heap[gb102]? = some (.cells #[.string (⟨#[]⟩ : ByteArray), .slice none 0 0] 25 (0, 0))) := ⟨by (with_reducible repeat (first | refine blk_drewN ?_ _ | refine blk_drew ?_ | refine blk_alloc ?_ _)); refine blk_far ?_ q35_20 _; (with_reducible repeat (first | refine blk_drewN ?_ _ | refine blk_drew ?_ | refine blk_alloc ?_ _)); exact BK102.out⟩
    have n4_ : Aside0 ((w61.setCell ⟨go54, (t112 : Int).toNat * 2, none⟩ (.string t124)).heap[gb109]? = some (.cells #[.string a1_0, .slice (some ⟨go54, 0, none⟩) y106.length co14] 25 (0, 0))) := ⟨by (with_reducible repeat (first | refine blk_drewN ?_ _ | refine blk_drew ?_ | refine blk_alloc ?_ _)); refine blk_far ?_ q35_21 _; (with_reducible repeat (first | refine blk_drewN ?_ _ | refine blk_drew ?_ | refine blk_alloc ?_ _)); exact BK109.out⟩
    have n5_ : Aside0 (IsS132 w0 (w61.setCell ⟨go54, (t112 : Int).toNat * 2, none⟩ (.string t124)) g s0_0 t125) := ⟨by repeat (first | (with_reducible first | exact HI0.out | apply IsS132.alloc | apply IsS132.drewN | apply IsS132.drew | apply IsS132.set_1 | refine IsS132.far ?_ NB0_101.out _ | refine IsS132.far ?_ NB0_102.out _ | refine IsS132.far ?_ NB0_109.out _ | refine IsS132.far ?_ HN0_go54.out _ | refine IsS132.far ?_ HN0_go75.out _) | exact HI0.out)⟩
    have n6_ : Aside0 (KeepBut w (w61.setCell ⟨go54, (t112 : Int).toNat * 2, none⟩ (.string t124)) g none) := ⟨by repeat (first | (with_reducible first | exact HK.out | apply KeepBut.set_ | apply keep_drewN | apply keep_drew | apply keep_alloc | refine keep_far ?_ GW101.out _ | refine keep_far ?_ GW102.out _ | refine keep_far ?_ GW109.out _ | refine keep_far ?_ GB54.out _ | refine keep_far ?_ GB75.out _) | exact HK.out)⟩
    have n7_ : Aside0 (Below w0.heap.size w0 (w61.setCell ⟨go54, (t112 : Int).toNat * 2, none⟩ (.string t124))) := ⟨by repeat (first | (with_reducible first | exact HB.out | apply below_alloc | apply pw_below_drewN | apply below_drew1 | refine below_set ?_ (IsS132.ge HI0.out) | refine below_set ?_ GE101.out | refine below_set ?_ GE102.out | refine below_set ?_ GE109.out | refine below_set ?_ (Nat.le_trans HL.out GB54.out) | refine below_set ?_ (Nat.le_trans HL.out GB75.out)) | exact HB.out)⟩
    (try clear HO_110001)
    (try clear HO123)
    (try clear BK101)
    (try clear BK102)
    (try clear BK109)
    (try clear HI0)
    (try clear HK)
    (try clear HB)
    generalize (w61.setCell ⟨go54, (t112 : Int).toNat * 2, none⟩ (.string t124)) = w63 at n0_ n1_ n2_ n3_ n4_ n5_ n6_ n7_ ⊢
    have HO_110001 := n0_
    have HO123 := n1_
    have BK101 := n2_
    have BK102 := n3_
    have BK109 := n4_
    have HI0 := n5_
    have HK := n6_
    have HB := n7_
    clear n0_ n1_ n2_ n3_ n4_ n5_ n6_ n7_
    have hnb64 := NB109_101.out
    have hnc64 := NB101_109.out
    have hnb65 := NB109_102.out
    have hnc65 := NB102_109.out
    have hnb66 := NB109_0.out
    have hnc66 := NB0_109.out
    have hcz67_0 : w63.cell? ⟨gb109, 0, none⟩ = some (.string a1_0) := (blk_cell BK109.out 0).trans rfl
    have hcz67_1 : w63.cell? ⟨gb109, 1, none⟩ = some (.slice (some ⟨go54, 0, none⟩) y106.length co14) := (blk_cell BK109.out 1).trans rfl
    have hfz67_0 := blk_frozen BK109.out 0
    have hfz67_1 := blk_frozen BK109.out 1
    have hnb68 := NB102_101.out
    have hnc68 := NB101_102.out
    have hnb69 := NB102_0.out
    have hnc69 := NB0_102.out
    have hcz70_0 : w63.cell? ⟨gb102, 0, none⟩ = some (.string (⟨#[]⟩ : ByteArray)) := (blk_cell BK102.out 0).trans rfl
    have hcz70_1 : w63.cell? ⟨gb102, 1, none⟩ = some (.slice none 0 0) := (blk_cell BK102.out 1).trans rfl
    have hfz70_0 := blk_frozen BK102.out 0
    have hfz70_1 := blk_frozen BK102.out 1
    try go_wp2
    refine bodyPost_ret (results_cell_row rfl _ _ gb102 25 #[.string a1_0, .slice (some ⟨go54, 0, none⟩) y106.length co14] (0, 0) _ rfl q35_9 Tryd.underlying25 rfl (by kernel_rfl)) rfl ?_
    exact ⟨_, by first | rfl | (simp [errW_none, errW_some] <;> rfl) | (simp [*, errW_none, errW_some] <;> rfl), by (with_reducible repeat (first | apply Kd.R_alloc | apply Kd.R_drewN | apply Kd.R_drew)); exact Kd.R_mono (Kd.R_far (p := ⟨gb102, 1, none⟩) (Kd.R_far (p := ⟨gb102, 0, none⟩) (Kd.R_types HO_110001.out BK102.out (by decide)) (fun _ hk => hk.2) (.string a1_0)) (fun _ hk => hk.2) (.slice (some ⟨go54, 0, none⟩) y106.length co14)) (fun _ hk => trivial), by repeat (first | (with_reducible first | exact HI0.out | apply IsS132.alloc | apply IsS132.drewN | apply IsS132.drew | apply IsS132.set_1 | refine IsS132.far ?_ NB0_101.out _ | refine IsS132.far ?_ NB0_102.out _ | refine IsS132.far ?_ NB0_109.out _ | refine IsS132.far ?_ HN0_go54.out _ | refine IsS132.far ?_ HN0_go75.out _) | exact HI0.out), by repeat (first | (with_reducible first | exact HB.out | apply below_alloc | apply pw_below_drewN | apply below_drew1 | refine below_set ?_ (IsS132.ge HI0.out) | refine below_set ?_ GE101.out | refine below_set ?_ GE102.out | refine below_set ?_ GE109.out | refine below_set ?_ (Nat.le_trans HL.out GB54.out) | refine below_set ?_ (Nat.le_trans HL.out GB75.out)) | exact HB.out), by repeat (first | (with_reducible first | exact HK.out | apply KeepBut.set_ | apply keep_drewN | apply keep_drew | apply keep_alloc | refine keep_far ?_ GW101.out _ | refine keep_far ?_ GW102.out _ | refine keep_far ?_ GW109.out _ | refine keep_far ?_ GB54.out _ | refine keep_far ?_ GB75.out _) | exact HK.out)⟩
   rw [if_neg c50] at H
   have c50b0 : (t114 == 1) = false := beq_eq_false_iff_ne.mpr c50
   have c50b1 : (t114 != 1) = true := bne_iff_ne.mpr c50
   by_cases c71 : t114 = 2
   ·rw [if_pos c71] at H
    have c71b0 : (t114 == 2) = true := beq_iff_eq.mpr c71
    have c71b1 : (t114 != 2) = false := bne_eq_false_iff_eq.mpr c71
    clear c71
    obtain ⟨y127, hy127⟩ : ∃ y_ : List ByteArray, y_ = (([(⟨#[97, 97, 97, 97, 97]⟩ : ByteArray), (⟨#[101]⟩ : ByteArray), (⟨#[32]⟩ : ByteArray), (⟨#[97, 62]⟩ : ByteArray), (⟨#[70]⟩ : ByteArray)] : List ByteArray)) := ⟨_, rfl⟩
    replace H : ((spec_l17Rd_of.f kj3 s0_0 t115 y127).bind fun bt130 => (if 0 ≤ t112 then (if t112 < (y106.length : Int) then (some (a1_0, (y106.set (t112 : Int).toNat (⟨(rd_T46 y106 t112).f0, bt130.1⟩ : S46)), bt130.2)) else (none)) else (none))) = some (r1, r2, r3) := by first | (rw [hy127]; with_reducible exact H) | (have H2_ := (Option.bind_some _ _).symm.trans H; rw [hy127]; with_reducible exact H2_) | (have H2_ := (Option.bind_some _ _).symm.trans H; with_reducible exact H2_) | with_reducible exact H | (rw [hy127]; exact H) | exact H
    have Ny127 := Aside0.mk hy127
    clear hy127
    replace H := Option.bind_eq_some_iff.mp H
    obtain ⟨⟨t130, t131⟩, A720, H⟩ := H
    replace H : (if 0 ≤ t112 then (if t112 < (y106.length : Int) then (some (a1_0, (y106.set (t112 : Int).toNat (⟨(rd_T46 y106 t112).f0, t130⟩ : S46)), t131)) else (none)) else (none)) = some (r1, r2, r3) := H
    have A72 := Aside0.mk A720
    clear A720
    by_cases c73 : 0 ≤ t112
    rotate_left
    ·rw [if_neg c73] at H
     exact absurd H (by simp)
    rw [if_pos c73] at H
    have c73b0 : decide (0 ≤ t112) = true := decide_eq_true c73
    clear c73
    by_cases c74 : t112 < (y106.length : Int)
    rotate_left
    ·rw [if_neg c74] at H
     exact absurd H (by simp)
    rw [if_pos c74] at H
    have c74b0 : decide (t112 < (y106.length : Int)) = true := decide_eq_true c74
    clear c74
    obtain ⟨y132, hy132⟩ : ∃ y_ : List (S46), y_ = (y106.set (t112 : Int).toNat (⟨(rd_T46 y106 t112).f0, t130⟩ : S46)) := ⟨_, rfl⟩
    replace H : (some (a1_0, y132, t131)) = some (r1, r2, r3) := by first | (rw [hy132]; with_reducible exact H) | (have H2_ := (Option.bind_some _ _).symm.trans H; rw [hy132]; with_reducible exact H2_) | (have H2_ := (Option.bind_some _ _).symm.trans H; with_reducible exact H2_) | with_reducible exact H | (rw [hy132]; exact H) | exact H
    have Ny132 := Aside0.mk hy132
    clear hy132
    simp only [Option.some.injEq, Prod.mk.injEq] at H
    obtain ⟨rfl, rfl, rfl⟩ := H
    try go_wp2_with (first | ((with_reducible refine gate_callee (f := 84) rfl ?_); refine goesL_ (some 28) rfl rfl Tryd.func84 (by kernel_rfl) rfl #[.pointer (some ⟨g, 0, none⟩), .int .i64 (y106.length : Int)] rfl q35_7 ?_; (with_reducible refine (spec_l17Rd_pick.calls kj3 g s0_0 x1001_3 (y106.length : Int) t112 t113 w0 _ ?side1 ?side2 A33.out).mono ?_); (case side1 => exact q35_1); (case side2 => exact q35_3); rintro e w76 ⟨rfl, hi, hb, hk⟩; refine ⟨_, rfl, ?_⟩; refine rn7 (Kd.R_mono (Kd.R_keep (IsS132.apart (show IsS132 w0 _ g s0_0 x1001_3 from q35_1) q35_8 (by decide)) hk (fun _ h => h.2)) (fun _ h => h.1)) (KeepBut.blk hk (g' := gb101) (o := .cells #[.string a1_0, .slice A1_1 l1_1.length c1_1] 25 (0, 0)) q35_4 NB101_0.out (by simp)) (KeepBut.blk hk (g' := gb102) (o := .cells #[.string (⟨#[]⟩ : ByteArray), .slice none 0 0] 25 (0, 0)) q35_5 NB102_0.out (by simp)) (KeepBut.blk hk (g' := gb109) (o := .cells #[.string a1_0, .slice Ao14 y106.length co14] 25 (0, 0)) q35_6 NB109_0.out (by simp)) (KeepBut.trans q35_2 hk (.inl rfl)) (hb) (hi) ?_; clear HO_110001 BK101 BK102 BK109 HK HB HI0; intro HO_110001 BK101 BK102 BK109 HK HB HI0; (try clear hb); (try clear hb2); (try clear hk); (try clear hi)) | ((with_reducible refine gate_callee (f := 84) rfl ?_); refine goesL_ (some 30) rfl rfl Tryd.func84 (by kernel_rfl) rfl #[.pointer (some ⟨g, 0, none⟩), .int .i64 5] rfl q35_7 ?_; (with_reducible refine (spec_l17Rd_pick.calls kj3 g s0_0 t113 5 t114 t115 w0 _ ?side1 ?side2 A34.out).mono ?_); (case side1 => exact q35_1); (case side2 => exact q35_3); rintro e w77 ⟨rfl, hi, hb, hk⟩; refine ⟨_, rfl, ?_⟩; refine rn7 (Kd.R_mono (Kd.R_keep (IsS132.apart (show IsS132 w0 _ g s0_0 t113 from q35_1) q35_8 (by decide)) hk (fun _ h => h.2)) (fun _ h => h.1)) (KeepBut.blk hk (g' := gb101) (o := .cells #[.string a1_0, .slice A1_1 l1_1.length c1_1] 25 (0, 0)) q35_4 NB101_0.out (by simp)) (KeepBut.blk hk (g' := gb102) (o := .cells #[.string (⟨#[]⟩ : ByteArray), .slice none 0 0] 25 (0, 0)) q35_5 NB102_0.out (by simp)) (KeepBut.blk hk (g' := gb109) (o := .cells #[.string a1_0, .slice Ao14 y106.length co14] 25 (0, 0)) q35_6 NB109_0.out (by simp)) (KeepBut.trans q35_2 hk (.inl rfl)) (hb) (hi) ?_; clear HO_110001 BK101 BK102 BK109 HK HB HI0; intro HO_110001 BK101 BK102 BK109 HK HB HI0; (try clear hb); (try clear hb2); (try clear hk); (try clear hi)))
    refine rn7 (Kd.R_drew HO_110001.out) (blk_drew BK101.out) (blk_drew BK102.out) (blk_drew BK109.out) (IsS132.drew HI0.out) (keep_drew HK.out) (below_drew1 HB.out) ?_
    clear HO_110001 BK101 BK102 BK109 HI0 HK HB
    intro HO_110001 BK101 BK102 BK109 HI0 HK HB
    refine start_ (n := 9) (S := fun w' => w'.cell? ⟨gb109, 0, none⟩ = some (.string a1_0) ∧ w'.cell? ⟨gb109, 1, none⟩ = some (.slice Ao14 y106.length co14)) (ds := [8]) #[false, false, false, false, false, false, false, false, false] (by kernel_rfl) rfl rfl ⟨(blk_cell BK109.out 0).trans rfl, (blk_cell BK109.out 1).trans rfl⟩ (fun hHeld => ?_); refine with_tabW spec_l1Bent.tab14 spec_l1Bent.bits14 (fun HT_ HW_ => ?_)
    generalize w77.drew = w78 at HO_110001 BK101 BK102 BK109 HI0 HK HB hHeld ⊢
    refine pz 0 61 HT_ ?_
    refine pz 2 63 HT_ ?_
    refine pz 3 64 HT_ ?_
    refine tz 1 62 HT_ HW_ hHeld ?_
    refine oz 4 (some 65) HT_ (fun K hK => ?_)
    refine Kd.R_lit_step Kd.string _ 9 ?hg (N := 65) ?hd (xs := ([(⟨#[97, 97, 97, 97, 97]⟩ : ByteArray), (⟨#[101]⟩ : ByteArray), (⟨#[32]⟩ : ByteArray), (⟨#[97, 62]⟩ : ByteArray), (⟨#[70]⟩ : ByteArray)] : List ByteArray)) (inner := [.string (⟨#[97, 97, 97, 97, 97]⟩ : ByteArray), .string (⟨#[101]⟩ : ByteArray), .string (⟨#[32]⟩ : ByteArray), .string (⟨#[97, 62]⟩ : ByteArray), .string (⟨#[70]⟩ : ByteArray)]) (ok := fun _ => True) (okp := fun _ => True) ?hr ?hp (fun _ hk => hk) trivial (Below.refl _ _) (Nat.le_refl _) (by simp) ?_; (case hd => rfl); (case hg => rfl); (case hr => first | (go_simp; done) | (go_simp; rfl)); (case hp => exact (Reps.one (show Kd.M Kd.string _ _ _ (⟨#[97, 97, 97, 97, 97]⟩ : ByteArray) [.string (⟨#[97, 97, 97, 97, 97]⟩ : ByteArray)] from rfl) (Reps.one (show Kd.M Kd.string _ _ _ (⟨#[101]⟩ : ByteArray) [.string (⟨#[101]⟩ : ByteArray)] from rfl) (Reps.one (show Kd.M Kd.string _ _ _ (⟨#[32]⟩ : ByteArray) [.string (⟨#[32]⟩ : ByteArray)] from rfl) (Reps.one (show Kd.M Kd.string _ _ _ (⟨#[97, 62]⟩ : ByteArray) [.string (⟨#[97, 62]⟩ : ByteArray)] from rfl) (Reps.one (show Kd.M Kd.string _ _ _ (⟨#[70]⟩ : ByteArray) [.string (⟨#[70]⟩ : ByteArray)] from rfl) (Reps.none _ _)))))))
    intro v128 w79 ho80 hb hg_ hnew_
    clear hg_ hnew_
    (first | rw [← Ny127.out] at ho80 | (simp only [Int.reduceToNat] at ho80; rw [← Ny127.out] at ho80))
    refine rn8 (Kd.R_below q35_8 hb) (Kd.R_lower ho80 (keep_size (w := w) (g := g) (row := none) q35_2)) (blk_below (g := gb101) (o := .cells #[.string a1_0, .slice A1_1 l1_1.length c1_1] 25 (0, 0)) q35_4 hb) (blk_below (g := gb102) (o := .cells #[.string (⟨#[]⟩ : ByteArray), .slice none 0 0] 25 (0, 0)) q35_5 hb) (blk_below (g := gb109) (o := .cells #[.string a1_0, .slice Ao14 y106.length co14] 25 (0, 0)) q35_6 hb) (IsS132.below q35_1 hb) (KeepBut.trans q35_2 (KeepBut.of_below hb g none) (.inl rfl)) (below_step q35_3 hb) ?_
    clear HO_110001 BK101 BK102 BK109 HI0 HK HB
    intro HO_110001 HO129 BK101 BK102 BK109 HI0 HK HB
    clear hb ho80
    obtain ⟨Ao81, co81, eo81⟩ := Kd.R_slice HO129.out
    (first | subst eo81 | (injection eo81 with f1_ f2_ f3_; have f4_ := f1_.symm; have f5_ := f3_.symm; clear f1_ f2_ f3_; subst f4_; subst f5_))
    refine hK.out _ _ ⟨(blk_cell BK109.out 0).trans rfl, (blk_cell BK109.out 1).trans rfl⟩ (fun hHeld => ?_)
    clear hK K
    refine norm_ (a' := ?_) ?_ ?_
    rotate_left
    ·show Act.put _ (some 65) _ = _
     simp only [Act.put, List.setIfInBounds_toArray, List.set_cons_zero, List.set_cons_succ, i64_w, i32_w]
     rfl
    refine oz 5 (some 66) HT_ (fun K hK => ?_)
    refine goes_ Tryd.func85 (by kernel_rfl) rfl #[.pointer (some ⟨g, 0, none⟩), .slice Ao81 y127.length co81] (by rfl) rfl rfl q35_7 ?_
    with_reducible refine (spec_l17Rd_of.calls kj3 g s0_0 t115 _ _ y127 t130 t131 w0 _ ?side1 ?side2 ?side3 ?side4 ?side5 A72.out).mono ?_
    (case side1 => exact q35_1)
    (case side2 => exact q35_3)
    (case side3 => repeat (first | exact (Kd.R_reads' HO129.out).2.2 | (with_reducible refine Kd.C_alloc ?_ _) | (with_reducible refine Kd.C_drewN ?_ _) | (with_reducible refine Kd.C_drew ?_)))
    (case side4 => exact (Kd.R_reads' HO129.out).2.1)
    (case side5 => exact far_slice (IsS132.own_ne HI0.out HO129.out (by decide)))
    rintro e w82 ⟨rfl, hi, hb, hk⟩
    refine ⟨_, rfl, ?_⟩
    refine rn8 (Kd.R_mono (Kd.R_keep (IsS132.apart (show IsS132 w0 _ g s0_0 t115 from q35_1) q35_8 (by decide)) hk (fun _ h => h.2)) (fun _ h => h.1)) (KeepBut.blk hk (g' := gb101) (o := .cells #[.string a1_0, .slice A1_1 l1_1.length c1_1] 25 (0, 0)) q35_4 NB101_0.out (by simp)) (KeepBut.blk hk (g' := gb102) (o := .cells #[.string (⟨#[]⟩ : ByteArray), .slice none 0 0] 25 (0, 0)) q35_5 NB102_0.out (by simp)) (KeepBut.blk hk (g' := gb109) (o := .cells #[.string a1_0, .slice Ao14 y106.length co14] 25 (0, 0)) q35_6 NB109_0.out (by simp)) (Kd.R_mono (Kd.R_keep (IsS132.apart (show IsS132 w0 _ g s0_0 t115 from q35_1) (by (with_reducible repeat (first | apply Kd.R_alloc | apply Kd.R_drewN | apply Kd.R_drew)); exact HO129.out) (by decide)) hk (fun _ h => h.2)) (fun _ h => h.1)) (KeepBut.trans q35_2 hk (.inl rfl)) (hb) (hi) ?_
    clear HO_110001 BK101 BK102 BK109 HO129 HK HB HI0
    intro HO_110001 BK101 BK102 BK109 HO129 HK HB HI0
    (try clear hb)
    (try clear hb2)
    (try clear hk)
    (try clear hi)
    have p75 : 0 ≤ (t112 : Int) := of_decide_eq_true q35_10
    have q75 : (t112 : Int) < ((y106.length : Int) : Int) := of_decide_eq_true q35_10
    obtain ⟨go75, co75, eo75, gb75, gl75, cl75, HG75⟩ := Kd.R_form HO_110001.out (by omega)
    (first | cases eo75 | (injection eo75 with ea_ en_ ec_; (first | subst ea_ | (injection ea_ with ea_; subst ea_)); subst ec_; clear en_))
    have GB75 := Aside0.mk gb75
    have GG75 := Aside0.mk HG75
    clear gb75 gl75 HG75
    obtain ⟨ce75, hcl75, hM75, hcc75, hfr75⟩ := Kd.R_elem HO_110001.out z46 (t112 : Int) p75 q75
    obtain rfl := k46_openM hM75
    have hx75_0 : World.cell? _ ⟨go75, (t112 : Int).toNat * 2, none⟩ = some (.string ((rd_T46 y106 t112).f0)) := hcc75 0 _ rfl
    have hx75_1 : World.cell? _ ⟨go75, (t112 : Int).toNat * 2 + 1, none⟩ = some (.string ((rd_T46 y106 t112).f1)) := hcc75 1 _ rfl
    have hf75_0 : World.frozen? _ ⟨go75, (t112 : Int).toNat * 2, none⟩ = false := hfr75 0
    have hf75_1 : World.frozen? _ ⟨go75, (t112 : Int).toNat * 2 + 1, none⟩ = false := hfr75 1
    clear hcl75 hcc75 hfr75 hM75
    replace p75 := eq_true p75
    replace q75 := eq_true q75
    have HN0_go75 := Aside0.mk (show g ≠ go75 from q35_18)
    obtain ⟨ce83, hcl83, hM83, hcc83, hfr83⟩ := Kd.R_elem HO_110001.out z46 (t112 : Int) (of_decide_eq_true q35_10) (by have h_ : (t112 : Int) < ((y106.length : Int) : Int) := of_decide_eq_true q35_10; first | exact h_ | (have e_ := (Kd.R_reads' HO_110001.out).1; omega) | simpa using h_)
    obtain rfl := k46_openM hM83
    have HP83 := (Kd.R_seg HO_110001.out (t112 : Int) (of_decide_eq_true q35_10) (by have h_ : (t112 : Int) < ((y106.length : Int) : Int) := of_decide_eq_true q35_10; first | exact h_ | (have e_ := (Kd.R_reads' HO_110001.out).1; omega) | simpa using h_) (seg := [.string t130]) (j := 1) hcl83 hcc83 (show 2 ≤ 2 from (by decide)) (x' := (⟨(rd_T46 y106 t112).f0, t130⟩ : S46)) (k46_mkM _ _ _ (⟨(rd_T46 y106 t112).f0, t130⟩ : S46) ) (fun _ hk => hk)).1
    rw [← Ny132.out] at HP83
    have HQ83 := Aside0.mk HP83
    clear hcl83 hcc83 hfr83 hM83 HP83
    refine hK.out _ _ ⟨(blk_cell BK109.out 0).trans rfl, (blk_cell BK109.out 1).trans rfl⟩ (fun hHeld => ?_)
    clear hK K
    refine norm_ (a' := ?_) ?_ ?_
    rotate_left
    ·show Act.put _ (some 66) _ = _
     simp only [Act.put, List.setIfInBounds_toArray, List.set_cons_zero, List.set_cons_succ, i64_w, i32_w]
     rfl
    refine pz 6 67 HT_ ?_
    refine pz 7 68 HT_ ?_
    refine last_ (i := 8) (N := none) #[true, true, true, true, true, true, true, true, true] rfl rfl (one_of HT_.out (by kernel_rfl)) (by decide) (fun K hK => ?_)
    refine skip_ (w1 := ?_) (by rfl) rfl ?_ ?_
    rotate_left
    ·go_simp
     rfl
    refine hK.out _ _ ?_
    clear hK K
    refine dz HT_ ?_
    have n0_ : Aside0 (Kd.R k46 46 (w82.setCell ⟨go75, (t112 : Int).toNat * 2 + 1, none⟩ (.string t130)) w.heap.size (fun _ => True) (.slice (some ⟨go75, 0, none⟩) y106.length co14) y132) := ⟨by (with_reducible repeat (first | apply Kd.R_alloc | apply Kd.R_drewN | apply Kd.R_drew)); exact HQ83.out⟩
    have n1_ : Aside0 (Kd.R Kd.string 9 (w82.setCell ⟨go75, (t112 : Int).toNat * 2 + 1, none⟩ (.string t130)) w.heap.size (fun _ => True) (.slice Ao81 y127.length co81) y127) := ⟨by (with_reducible repeat (first | apply Kd.R_alloc | apply Kd.R_drewN | apply Kd.R_drew)); exact Kd.R_mono (Kd.R_far (p := ⟨go75, (t112 : Int).toNat * 2 + 1, none⟩) (Kd.R_types HO129.out GG75.out (by decide)) (fun _ hk => hk.2) (.string t130)) (fun _ hk => trivial)⟩
    have n2_ : Aside0 ((w82.setCell ⟨go75, (t112 : Int).toNat * 2 + 1, none⟩ (.string t130)).heap[gb101]? = some (.cells #[.string a1_0, .slice A1_1 l1_1.length c1_1] 25 (0, 0))) := ⟨by (with_reducible repeat (first | refine blk_drewN ?_ _ | refine blk_drew ?_ | refine blk_alloc ?_ _)); refine blk_far ?_ q35_19 _; (with_reducible repeat (first | refine blk_drewN ?_ _ | refine blk_drew ?_ | refine blk_alloc ?_ _)); exact BK101.out⟩
    have n3_ : Aside0 ((w82.setCell ⟨go75, (t112 : Int).toNat * 2 + 1, none⟩ (.string t130)).heap[gb102]? = some (.cells #[.string (⟨#[]⟩ : ByteArray), .slice none 0 0] 25 (0, 0))) := ⟨by (with_reducible repeat (first | refine blk_drewN ?_ _ | refine blk_drew ?_ | refine blk_alloc ?_ _)); refine blk_far ?_ q35_20 _; (with_reducible repeat (first | refine blk_drewN ?_ _ | refine blk_drew ?_ | refine blk_alloc ?_ _)); exact BK102.out⟩
    have n4_ : Aside0 ((w82.setCell ⟨go75, (t112 : Int).toNat * 2 + 1, none⟩ (.string t130)).heap[gb109]? = some (.cells #[.string a1_0, .slice (some ⟨go75, 0, none⟩) y106.length co14] 25 (0, 0))) := ⟨by (with_reducible repeat (first | refine blk_drewN ?_ _ | refine blk_drew ?_ | refine blk_alloc ?_ _)); refine blk_far ?_ q35_21 _; (with_reducible repeat (first | refine blk_drewN ?_ _ | refine blk_drew ?_ | refine blk_alloc ?_ _)); exact BK109.out⟩
    have n5_ : Aside0 (IsS132 w0 (w82.setCell ⟨go75, (t112 : Int).toNat * 2 + 1, none⟩ (.string t130)) g s0_0 t131) := ⟨by repeat (first | (with_reducible first | exact HI0.out | apply IsS132.alloc | apply IsS132.drewN | apply IsS132.drew | apply IsS132.set_1 | refine IsS132.far ?_ NB0_101.out _ | refine IsS132.far ?_ NB0_102.out _ | refine IsS132.far ?_ NB0_109.out _ | refine IsS132.far ?_ HN0_go54.out _ | refine IsS132.far ?_ HN0_go75.out _) | exact HI0.out)⟩
    have n6_ : Aside0 (KeepBut w (w82.setCell ⟨go75, (t112 : Int).toNat * 2 + 1, none⟩ (.string t130)) g none) := ⟨by repeat (first | (with_reducible first | exact HK.out | apply KeepBut.set_ | apply keep_drewN | apply keep_drew | apply keep_alloc | refine keep_far ?_ GW101.out _ | refine keep_far ?_ GW102.out _ | refine keep_far ?_ GW109.out _ | refine keep_far ?_ GB54.out _ | refine keep_far ?_ GB75.out _) | exact HK.out)⟩
    have n7_ : Aside0 (Below w0.heap.size w0 (w82.setCell ⟨go75, (t112 : Int).toNat * 2 + 1, none⟩ (.string t130))) := ⟨by repeat (first | (with_reducible first | exact HB.out | apply below_alloc | apply pw_below_drewN | apply below_drew1 | refine below_set ?_ (IsS132.ge HI0.out) | refine below_set ?_ GE101.out | refine below_set ?_ GE102.out | refine below_set ?_ GE109.out | refine below_set ?_ (Nat.le_trans HL.out GB54.out) | refine below_set ?_ (Nat.le_trans HL.out GB75.out)) | exact HB.out)⟩
    (try clear HO_110001)
    (try clear HO129)
    (try clear BK101)
    (try clear BK102)
    (try clear BK109)
    (try clear HI0)
    (try clear HK)
    (try clear HB)
    generalize (w82.setCell ⟨go75, (t112 : Int).toNat * 2 + 1, none⟩ (.string t130)) = w84 at n0_ n1_ n2_ n3_ n4_ n5_ n6_ n7_ ⊢
    have HO_110001 := n0_
    have HO129 := n1_
    have BK101 := n2_
    have BK102 := n3_
    have BK109 := n4_
    have HI0 := n5_
    have HK := n6_
    have HB := n7_
    clear n0_ n1_ n2_ n3_ n4_ n5_ n6_ n7_
    have hnb85 := NB109_101.out
    have hnc85 := NB101_109.out
    have hnb86 := NB109_102.out
    have hnc86 := NB102_109.out
    have hnb87 := NB109_0.out
    have hnc87 := NB0_109.out
    have hcz88_0 : w84.cell? ⟨gb109, 0, none⟩ = some (.string a1_0) := (blk_cell BK109.out 0).trans rfl
    have hcz88_1 : w84.cell? ⟨gb109, 1, none⟩ = some (.slice (some ⟨go75, 0, none⟩) y106.length co14) := (blk_cell BK109.out 1).trans rfl
    have hfz88_0 := blk_frozen BK109.out 0
    have hfz88_1 := blk_frozen BK109.out 1
    have hnb89 := NB102_101.out
    have hnc89 := NB101_102.out
    have hnb90 := NB102_0.out
    have hnc90 := NB0_102.out
    have hcz91_0 : w84.cell? ⟨gb102, 0, none⟩ = some (.string (⟨#[]⟩ : ByteArray)) := (blk_cell BK102.out 0).trans rfl
    have hcz91_1 : w84.cell? ⟨gb102, 1, none⟩ = some (.slice none 0 0) := (blk_cell BK102.out 1).trans rfl
    have hfz91_0 := blk_frozen BK102.out 0
    have hfz91_1 := blk_frozen BK102.out 1
    try go_wp2
    refine bodyPost_ret (results_cell_row rfl _ _ gb102 25 #[.string a1_0, .slice (some ⟨go75, 0, none⟩) y106.length co14] (0, 0) _ rfl q35_9 Tryd.underlying25 rfl (by kernel_rfl)) rfl ?_
    exact ⟨_, by first | rfl | (simp [errW_none, errW_some] <;> rfl) | (simp [*, errW_none, errW_some] <;> rfl), by (with_reducible repeat (first | apply Kd.R_alloc | apply Kd.R_drewN | apply Kd.R_drew)); exact Kd.R_mono (Kd.R_far (p := ⟨gb102, 1, none⟩) (Kd.R_far (p := ⟨gb102, 0, none⟩) (Kd.R_types HO_110001.out BK102.out (by decide)) (fun _ hk => hk.2) (.string a1_0)) (fun _ hk => hk.2) (.slice (some ⟨go75, 0, none⟩) y106.length co14)) (fun _ hk => trivial), by repeat (first | (with_reducible first | exact HI0.out | apply IsS132.alloc | apply IsS132.drewN | apply IsS132.drew | apply IsS132.set_1 | refine IsS132.far ?_ NB0_101.out _ | refine IsS132.far ?_ NB0_102.out _ | refine IsS132.far ?_ NB0_109.out _ | refine IsS132.far ?_ HN0_go54.out _ | refine IsS132.far ?_ HN0_go75.out _) | exact HI0.out), by repeat (first | (with_reducible first | exact HB.out | apply below_alloc | apply pw_below_drewN | apply below_drew1 | refine below_set ?_ (IsS132.ge HI0.out) | refine below_set ?_ GE101.out | refine below_set ?_ GE102.out | refine below_set ?_ GE109.out | refine below_set ?_ (Nat.le_trans HL.out GB54.out) | refine below_set ?_ (Nat.le_trans HL.out GB75.out)) | exact HB.out), by repeat (first | (with_reducible first | exact HK.out | apply KeepBut.set_ | apply keep_drewN | apply keep_drew | apply keep_alloc | refine keep_far ?_ GW101.out _ | refine keep_far ?_ GW102.out _ | refine keep_far ?_ GW109.out _ | refine keep_far ?_ GB54.out _ | refine keep_far ?_ GB75.out _) | exact HK.out)⟩
   rw [if_neg c71] at H
   have c71b0 : (t114 == 2) = false := beq_eq_false_iff_ne.mpr c71
   have c71b1 : (t114 != 2) = true := bne_iff_ne.mpr c71
   by_cases c92 : t114 = 3
   ·rw [if_pos c92] at H
    have c92b0 : (t114 == 3) = true := beq_iff_eq.mpr c92
    have c92b1 : (t114 != 3) = false := bne_eq_false_iff_eq.mpr c92
    clear c92
    by_cases c93 : 0 ≤ t112
    rotate_left
    ·rw [if_neg c93] at H
     exact absurd H (by simp)
    rw [if_pos c93] at H
    have c93b0 : decide (0 ≤ t112) = true := decide_eq_true c93
    clear c93
    by_cases c94 : t112 < (y106.length : Int)
    rotate_left
    ·rw [if_neg c94] at H
     exact absurd H (by simp)
    rw [if_pos c94] at H
    have c94b0 : decide (t112 < (y106.length : Int)) = true := decide_eq_true c94
    clear c94
    by_cases c95 : y106.length < 4398046511104
    rotate_left
    ·rw [if_neg c95] at H
     exact absurd H (by simp)
    rw [if_pos c95] at H
    have LMc95 := Aside0.mk c95
    clear c95
    obtain ⟨y134, hy134⟩ : ∃ y_ : List (S46), y_ = (y106 ++ [(⟨(rd_T46 y106 t112).f0, (rd_T46 y106 t112).f1⟩ : S46)]) := ⟨_, rfl⟩
    replace H : (some (a1_0, y134, t115)) = some (r1, r2, r3) := by first | (rw [hy134]; with_reducible exact H) | (have H2_ := (Option.bind_some _ _).symm.trans H; rw [hy134]; with_reducible exact H2_) | (have H2_ := (Option.bind_some _ _).symm.trans H; with_reducible exact H2_) | with_reducible exact H | (rw [hy134]; exact H) | exact H
    have Ny134 := Aside0.mk hy134
    clear hy134
    simp only [Option.some.injEq, Prod.mk.injEq] at H
    obtain ⟨rfl, rfl, rfl⟩ := H
    try go_wp2_with (first | ((with_reducible refine gate_callee (f := 84) rfl ?_); refine goesL_ (some 28) rfl rfl Tryd.func84 (by kernel_rfl) rfl #[.pointer (some ⟨g, 0, none⟩), .int .i64 (y106.length : Int)] rfl q35_7 ?_; (with_reducible refine (spec_l17Rd_pick.calls kj3 g s0_0 x1001_3 (y106.length : Int) t112 t113 w0 _ ?side1 ?side2 A33.out).mono ?_); (case side1 => exact q35_1); (case side2 => exact q35_3); rintro e w96 ⟨rfl, hi, hb, hk⟩; refine ⟨_, rfl, ?_⟩; refine rn7 (Kd.R_mono (Kd.R_keep (IsS132.apart (show IsS132 w0 _ g s0_0 x1001_3 from q35_1) q35_8 (by decide)) hk (fun _ h => h.2)) (fun _ h => h.1)) (KeepBut.blk hk (g' := gb101) (o := .cells #[.string a1_0, .slice A1_1 l1_1.length c1_1] 25 (0, 0)) q35_4 NB101_0.out (by simp)) (KeepBut.blk hk (g' := gb102) (o := .cells #[.string (⟨#[]⟩ : ByteArray), .slice none 0 0] 25 (0, 0)) q35_5 NB102_0.out (by simp)) (KeepBut.blk hk (g' := gb109) (o := .cells #[.string a1_0, .slice Ao14 y106.length co14] 25 (0, 0)) q35_6 NB109_0.out (by simp)) (KeepBut.trans q35_2 hk (.inl rfl)) (hb) (hi) ?_; clear HO_110001 BK101 BK102 BK109 HK HB HI0; intro HO_110001 BK101 BK102 BK109 HK HB HI0; (try clear hb); (try clear hb2); (try clear hk); (try clear hi)) | ((with_reducible refine gate_callee (f := 84) rfl ?_); refine goesL_ (some 30) rfl rfl Tryd.func84 (by kernel_rfl) rfl #[.pointer (some ⟨g, 0, none⟩), .int .i64 5] rfl q35_7 ?_; (with_reducible refine (spec_l17Rd_pick.calls kj3 g s0_0 t113 5 t114 t115 w0 _ ?side1 ?side2 A34.out).mono ?_); (case side1 => exact q35_1); (case side2 => exact q35_3); rintro e w97 ⟨rfl, hi, hb, hk⟩; refine ⟨_, rfl, ?_⟩; refine rn7 (Kd.R_mono (Kd.R_keep (IsS132.apart (show IsS132 w0 _ g s0_0 t113 from q35_1) q35_8 (by decide)) hk (fun _ h => h.2)) (fun _ h => h.1)) (KeepBut.blk hk (g' := gb101) (o := .cells #[.string a1_0, .slice A1_1 l1_1.length c1_1] 25 (0, 0)) q35_4 NB101_0.out (by simp)) (KeepBut.blk hk (g' := gb102) (o := .cells #[.string (⟨#[]⟩ : ByteArray), .slice none 0 0] 25 (0, 0)) q35_5 NB102_0.out (by simp)) (KeepBut.blk hk (g' := gb109) (o := .cells #[.string a1_0, .slice Ao14 y106.length co14] 25 (0, 0)) q35_6 NB109_0.out (by simp)) (KeepBut.trans q35_2 hk (.inl rfl)) (hb) (hi) ?_; clear HO_110001 BK101 BK102 BK109 HK HB HI0; intro HO_110001 BK101 BK102 BK109 HK HB HI0; (try clear hb); (try clear hb2); (try clear hk); (try clear hi)))
    refine rn7 (Kd.R_drew HO_110001.out) (blk_drew BK101.out) (blk_drew BK102.out) (blk_drew BK109.out) (IsS132.drew HI0.out) (keep_drew HK.out) (below_drew1 HB.out) ?_
    clear HO_110001 BK101 BK102 BK109 HI0 HK HB
    intro HO_110001 BK101 BK102 BK109 HI0 HK HB
    have p133 : 0 ≤ (t112 : Int) := of_decide_eq_true q35_10
    have q133 : t112 < (y106.length : Int) := of_decide_eq_true q35_10
    obtain ⟨ad133, e133, hx133_0, hx133_1⟩ := at_T46 (Kd.R_reads' HO_110001.out).2.2 t112 p133 q133
    cases e133
    replace p133 := eq_true p133
    replace q133 := eq_true q133
    refine start_ (n := 11) (S := fun w' => w'.cell? ⟨gb109, 0, none⟩ = some (.string a1_0) ∧ w'.cell? ⟨gb109, 1, none⟩ = some (.slice (some ad133) y106.length co14) ∧ w'.cell? (ad133.add ((t112).toNat * 2)) = some (.string ((rd_T46 y106 t112).f0)) ∧ w'.cell? ⟨(ad133.add ((t112).toNat * 2)).block, (ad133.add ((t112).toNat * 2)).off + 1, none⟩ = some (.string ((rd_T46 y106 t112).f1))) (ds := [8, 10]) #[false, false, false, false, false, false, false, false, false, false, false] (by kernel_rfl) rfl rfl ⟨(blk_cell BK109.out 0).trans rfl, (blk_cell BK109.out 1).trans rfl, hx133_0, hx133_1⟩ (fun hHeld => ?_); refine with_tabW spec_l1Bent.tab16 spec_l1Bent.bits16 (fun HT_ HW_ => ?_)
    generalize w97.drew = w98 at HO_110001 BK101 BK102 BK109 HI0 HK HB hx133_0 hx133_1 hHeld ⊢
    refine pz 0 71 HT_ ?_
    refine pz 2 73 HT_ ?_
    refine pz 4 75 HT_ ?_
    refine tz 1 72 HT_ HW_ hHeld ?_
    refine tz 3 74 HT_ HW_ hHeld ?_
    refine pz 5 76 HT_ ?_
    refine tz 6 77 HT_ HW_ hHeld ?_
    refine oz 7 (some 78) HT_ (fun K hK => ?_)
    refine value_ (w1 := ?_) (v := ?_) (by rfl) rfl ?_ ?_
    rotate_left 2
    ·go_simp
     constructor
     ·rfl
     rfl
    refine hK.out _ _ ⟨(blk_cell (blk_alloc BK109.out _) 0).trans rfl, (blk_cell (blk_alloc BK109.out _) 1).trans rfl, (World.cell?_alloc_lt _ _ _ (World.block_lt_of_cell? _ _ (hHeld.2.2.1))).trans (hHeld.2.2.1), (World.cell?_alloc_lt _ _ _ (World.block_lt_of_cell? _ _ (hHeld.2.2.2))).trans (hHeld.2.2.2)⟩ (fun hHeld => ?_)
    clear hK K
    refine norm_ (a' := ?_) ?_ ?_
    rotate_left
    ·show Act.put _ (some 78) _ = _
     simp only [Act.put, List.setIfInBounds_toArray, List.set_cons_zero, List.set_cons_succ, i64_w, i32_w]
     rfl
    refine last_ (i := 8) (N := some 79) #[true, true, true, true, true, true, true, true, true, false, false] rfl rfl (one_of HT_.out (by kernel_rfl)) (by decide) (fun K hK => ?_)
    refine Kd.R_append_step k46 w.heap.size (by rfl) (.tmp 72) (.tmp 78) 23 46 (.agg #[(.string ⟨#[]⟩), (.string ⟨#[]⟩)]) 32 rfl Tryd.underlying23 info46 rfl (by decide) (by omega) (.slice (some ad133) y106.length co14) y106 (⟨(rd_T46 y106 t112).f0, (rd_T46 y106 t112).f1⟩ : S46) [.string ((rd_T46 y106 t112).f0), .string ((rd_T46 y106 t112).f1)] (fun _ => True) (fun _ => False) rfl rfl ?aP (fun _ hk => hk.elim) ?aF ?aO (Below.refl _ _) ?aS ?aL ?_
    (case aP => exact k46_mkM _ _ _ (⟨(rd_T46 y106 t112).f0, (rd_T46 y106 t112).f1⟩ : S46))
    (case aF => exact (fun _ _ => trivial))
    (case aO => exact q35_8)
    (case aS => exact (keep_size (w := w) (g := g) (row := none) q35_2))
    (case aL => have := LMc95.out; omega)
    intro v135 w99 ho hb hg hat
    rw [← Ny134.out] at ho
    refine rn7 (blk_grown (g := gb101) (o := .cells #[.string a1_0, .slice A1_1 l1_1.length c1_1] 25 (0, 0)) q35_4 hg (Kd.R_ne HO_110001.out BK101.out (by decide))) (blk_grown (g := gb102) (o := .cells #[.string (⟨#[]⟩ : ByteArray), .slice none 0 0] 25 (0, 0)) q35_5 hg (Kd.R_ne HO_110001.out BK102.out (by decide))) (blk_grown (g := gb109) (o := .cells #[.string a1_0, .slice (some ad133) y106.length co14] 25 (0, 0)) q35_6 hg (Kd.R_ne HO_110001.out BK109.out (by decide))) (IsS132.grown q35_1 hg (IsS132.own_ne HI0.out HO_110001.out (by decide))) (below_weaken q35_3 HL.out hb) (KeepBut.trans q35_2 (KeepBut.of_grown hg g) (Kd.R_base2 HO_110001.out)) (ho) ?_
    clear BK101 BK102 BK109 HI0 HB HK HO_110001
    intro BK101 BK102 BK109 HI0 HB HK HO136
    clear ho hb hg hat
    obtain ⟨Ao100, co100, eo100⟩ := Kd.R_slice HO136.out
    (first | subst eo100 | (injection eo100 with f1_ f2_ f3_; have f4_ := f1_.symm; have f5_ := f3_.symm; clear f1_ f2_ f3_; subst f4_; subst f5_))
    refine hK.out _ _ ?_
    clear hK K
    refine norm_ (a' := ?_) ?_ ?_
    rotate_left
    ·show Act.put _ (some 79) _ = _
     simp only [Act.put, List.setIfInBounds_toArray, List.set_cons_zero, List.set_cons_succ, i64_w, i32_w]
     rfl
    refine pz 9 80 HT_ ?_
    refine last_ (i := 10) (N := none) #[true, true, true, true, true, true, true, true, true, true, true] rfl rfl (one_of HT_.out (by kernel_rfl)) (by decide) (fun K hK => ?_)
    have hs101 : w99.cell? ⟨gb109, 1, none⟩ = some (.slice (some ad133) y106.length co14) := (blk_cell BK109.out 1).trans rfl
    have hfs101 := blk_frozen BK109.out 1
    have hns101_0 := NB101_109.out
    have hns101_1 := NB102_109.out
    have hms101_0 := NB109_101.out
    have hms101_1 := NB109_102.out
    refine skip_ (w1 := ?_) (by rfl) rfl ?_ ?_
    rotate_left
    ·go_simp
     rfl
    refine hK.out _ _ ?_
    clear hK K
    refine dz HT_ ?_
    have hnb102 := NB109_101.out
    have hnc102 := NB101_109.out
    have hnb103 := NB109_102.out
    have hnc103 := NB102_109.out
    have hnb104 := NB109_0.out
    have hnc104 := NB0_109.out
    have hcz105_0 : w99.cell? ⟨gb109, 0, none⟩ = some (.string a1_0) := (blk_cell BK109.out 0).trans rfl
    have hcz105_1 : w99.cell? ⟨gb109, 1, none⟩ = some (.slice (some ad133) y106.length co14) := (blk_cell BK109.out 1).trans rfl
    have hfz105_0 := blk_frozen BK109.out 0
    have hfz105_1 := blk_frozen BK109.out 1
    have hnb106 := NB102_101.out
    have hnc106 := NB101_102.out
    have hnb107 := NB102_0.out
    have hnc107 := NB0_102.out
    have hcz108_0 : w99.cell? ⟨gb102, 0, none⟩ = some (.string (⟨#[]⟩ : ByteArray)) := (blk_cell BK102.out 0).trans rfl
    have hcz108_1 : w99.cell? ⟨gb102, 1, none⟩ = some (.slice none 0 0) := (blk_cell BK102.out 1).trans rfl
    have hfz108_0 := blk_frozen BK102.out 0
    have hfz108_1 := blk_frozen BK102.out 1
    try go_wp2
    refine bodyPost_ret (results_cell_row rfl _ _ gb102 25 #[.string a1_0, .slice Ao100 y134.length co100] (0, 0) _ rfl (by (with_reducible repeat (first | refine blk_drewN ?_ _ | refine blk_drew ?_ | refine blk_alloc ?_ _)); refine blk_put (cs := #[.string a1_0, .slice none 0 0]) ?_ 1 _ rfl; (with_reducible repeat (first | refine blk_drewN ?_ _ | refine blk_drew ?_ | refine blk_alloc ?_ _)); refine blk_put (cs := #[.string (⟨#[]⟩ : ByteArray), .slice none 0 0]) ?_ 0 _ rfl; (with_reducible repeat (first | refine blk_drewN ?_ _ | refine blk_drew ?_ | refine blk_alloc ?_ _)); refine blk_far ?_ NB102_109.out _; (with_reducible repeat (first | refine blk_drewN ?_ _ | refine blk_drew ?_ | refine blk_alloc ?_ _)); exact BK102.out) Tryd.underlying25 rfl (by kernel_rfl)) rfl ?_
    exact ⟨_, by first | rfl | (simp [errW_none, errW_some] <;> rfl) | (simp [*, errW_none, errW_some] <;> rfl), by (with_reducible repeat (first | apply Kd.R_alloc | apply Kd.R_drewN | apply Kd.R_drew)); exact Kd.R_mono (Kd.R_far (p := ⟨gb102, 1, none⟩) (Kd.R_far (p := ⟨gb102, 0, none⟩) (Kd.R_far (p := ⟨gb109, 1, none⟩) (Kd.R_types (Kd.R_types HO136.out BK109.out (by decide)) BK102.out (by decide)) (fun _ hk => hk.1.2) (.slice Ao100 y134.length co100)) (fun _ hk => hk.2) (.string a1_0)) (fun _ hk => hk.2) (.slice Ao100 y134.length co100)) (fun _ hk => trivial), by repeat (first | (with_reducible first | exact HI0.out | apply IsS132.alloc | apply IsS132.drewN | apply IsS132.drew | apply IsS132.set_1 | refine IsS132.far ?_ NB0_101.out _ | refine IsS132.far ?_ NB0_102.out _ | refine IsS132.far ?_ NB0_109.out _ | refine IsS132.far ?_ HN0_go54.out _ | refine IsS132.far ?_ HN0_go75.out _) | exact HI0.out), by repeat (first | (with_reducible first | exact HB.out | apply below_alloc | apply pw_below_drewN | apply below_drew1 | refine below_set ?_ (IsS132.ge HI0.out) | refine below_set ?_ GE101.out | refine below_set ?_ GE102.out | refine below_set ?_ GE109.out | refine below_set ?_ (Nat.le_trans HL.out GB54.out) | refine below_set ?_ (Nat.le_trans HL.out GB75.out)) | exact HB.out), by repeat (first | (with_reducible first | exact HK.out | apply KeepBut.set_ | apply keep_drewN | apply keep_drew | apply keep_alloc | refine keep_far ?_ GW101.out _ | refine keep_far ?_ GW102.out _ | refine keep_far ?_ GW109.out _ | refine keep_far ?_ GB54.out _ | refine keep_far ?_ GB75.out _) | exact HK.out)⟩
   rw [if_neg c92] at H
   have c92b0 : (t114 == 3) = false := beq_eq_false_iff_ne.mpr c92
   have c92b1 : (t114 != 3) = true := bne_iff_ne.mpr c92
   have H' := Aside0.mk H
   clear H
   go_wp2_with (first | ((with_reducible refine gate_callee (f := 84) rfl ?_); refine goesL_ (some 28) rfl rfl Tryd.func84 (by kernel_rfl) rfl #[.pointer (some ⟨g, 0, none⟩), .int .i64 (y106.length : Int)] rfl q35_7 ?_; (with_reducible refine (spec_l17Rd_pick.calls kj3 g s0_0 x1001_3 (y106.length : Int) t112 t113 w0 _ ?side1 ?side2 A33.out).mono ?_); (case side1 => exact q35_1); (case side2 => exact q35_3); rintro e w109 ⟨rfl, hi, hb, hk⟩; refine ⟨_, rfl, ?_⟩; refine rn7 (Kd.R_mono (Kd.R_keep (IsS132.apart (show IsS132 w0 _ g s0_0 x1001_3 from q35_1) q35_8 (by decide)) hk (fun _ h => h.2)) (fun _ h => h.1)) (KeepBut.blk hk (g' := gb101) (o := .cells #[.string a1_0, .slice A1_1 l1_1.length c1_1] 25 (0, 0)) q35_4 NB101_0.out (by simp)) (KeepBut.blk hk (g' := gb102) (o := .cells #[.string (⟨#[]⟩ : ByteArray), .slice none 0 0] 25 (0, 0)) q35_5 NB102_0.out (by simp)) (KeepBut.blk hk (g' := gb109) (o := .cells #[.string a1_0, .slice Ao14 y106.length co14] 25 (0, 0)) q35_6 NB109_0.out (by simp)) (KeepBut.trans q35_2 hk (.inl rfl)) (hb) (hi) ?_; clear HO_110001 BK101 BK102 BK109 HK HB HI0; intro HO_110001 BK101 BK102 BK109 HK HB HI0; (try clear hb); (try clear hb2); (try clear hk); (try clear hi)) | ((with_reducible refine gate_callee (f := 84) rfl ?_); refine goesL_ (some 30) rfl rfl Tryd.func84 (by kernel_rfl) rfl #[.pointer (some ⟨g, 0, none⟩), .int .i64 5] rfl q35_7 ?_; (with_reducible refine (spec_l17Rd_pick.calls kj3 g s0_0 t113 5 t114 t115 w0 _ ?side1 ?side2 A34.out).mono ?_); (case side1 => exact q35_1); (case side2 => exact q35_3); rintro e w110 ⟨rfl, hi, hb, hk⟩; refine ⟨_, rfl, ?_⟩; refine rn7 (Kd.R_mono (Kd.R_keep (IsS132.apart (show IsS132 w0 _ g s0_0 t113 from q35_1) q35_8 (by decide)) hk (fun _ h => h.2)) (fun _ h => h.1)) (KeepBut.blk hk (g' := gb101) (o := .cells #[.string a1_0, .slice A1_1 l1_1.length c1_1] 25 (0, 0)) q35_4 NB101_0.out (by simp)) (KeepBut.blk hk (g' := gb102) (o := .cells #[.string (⟨#[]⟩ : ByteArray), .slice none 0 0] 25 (0, 0)) q35_5 NB102_0.out (by simp)) (KeepBut.blk hk (g' := gb109) (o := .cells #[.string a1_0, .slice Ao14 y106.length co14] 25 (0, 0)) q35_6 NB109_0.out (by simp)) (KeepBut.trans q35_2 hk (.inl rfl)) (hb) (hi) ?_; clear HO_110001 BK101 BK102 BK109 HK HB HI0; intro HO_110001 BK101 BK102 BK109 HK HB HI0; (try clear hb); (try clear hb2); (try clear hk); (try clear hi)))
   go_loopg [] kj3 (fun kq w' => ∃ (x1001_2 : Int) (x110001_2 : List (S46)) (u110001 : Value), Aside0 (spec_l1Bent.l0 kq s0_0 x1001_2 a1_0 x110001_2 = some (r1, r2, r3)) ∧ Aside0 (kq ≤ kj3) ∧ Aside0 (Kd.R k46 46 w' w.heap.size (fun _ => True) u110001 x110001_2) ∧ Aside0 (w'.heap[gb101]? = some (.cells #[.string a1_0, (.slice A1_1 l1_1.length c1_1)] 25 (0, 0))) ∧ Aside0 (w'.heap[gb102]? = some (.cells #[.string (⟨#[]⟩ : ByteArray), (.slice none 0 0)] 25 (0, 0))) ∧ Aside0 (w'.heap[gb109]? = some (.cells #[.string a1_0, u110001] 25 (0, 0))) ∧ Aside0 (IsS132 w0 w' g s0_0 x1001_2) ∧ Aside0 (KeepBut w w' g none) ∧ Aside0 (Below w0.heap.size w0 w'))
   case atStart => exact ⟨(t115), (y106), (.slice Ao14 y106.length co14), H', ⟨Nat.le_refl _⟩, ⟨by (with_reducible repeat (first | apply Kd.R_alloc | apply Kd.R_drewN | apply Kd.R_drew)); exact HO_110001.out⟩, ⟨by (with_reducible repeat (first | refine blk_drewN ?_ _ | refine blk_drew ?_ | refine blk_alloc ?_ _)); exact BK101.out⟩, ⟨by (with_reducible repeat (first | refine blk_drewN ?_ _ | refine blk_drew ?_ | refine blk_alloc ?_ _)); exact BK102.out⟩, ⟨by (with_reducible repeat (first | refine blk_drewN ?_ _ | refine blk_drew ?_ | refine blk_alloc ?_ _)); exact BK109.out⟩, ⟨by repeat (first | (with_reducible first | exact HI0.out | apply IsS132.alloc | apply IsS132.drewN | apply IsS132.drew | apply IsS132.set_1 | refine IsS132.far ?_ NB0_101.out _ | refine IsS132.far ?_ NB0_102.out _ | refine IsS132.far ?_ NB0_109.out _ | refine IsS132.far ?_ HN0_go54.out _ | refine IsS132.far ?_ HN0_go75.out _) | exact HI0.out)⟩, ⟨by repeat (first | (with_reducible first | exact HK.out | apply KeepBut.set_ | apply keep_drewN | apply keep_drew | apply keep_alloc | refine keep_far ?_ GW101.out _ | refine keep_far ?_ GW102.out _ | refine keep_far ?_ GW109.out _ | refine keep_far ?_ GB54.out _ | refine keep_far ?_ GB75.out _) | exact HK.out)⟩, ⟨by repeat (first | (with_reducible first | exact HB.out | apply below_alloc | apply pw_below_drewN | apply below_drew1 | refine below_set ?_ (IsS132.ge HI0.out) | refine below_set ?_ GE101.out | refine below_set ?_ GE102.out | refine below_set ?_ GE109.out | refine below_set ?_ (Nat.le_trans HL.out GB54.out) | refine below_set ?_ (Nat.le_trans HL.out GB75.out)) | exact HB.out)⟩⟩
   case round =>
    clear H'
    try clear c1
    try clear p1
    try clear q1
    try clear hx1
    try clear p2
    try clear c5
    try clear p5
    try clear q5
    try clear hx5
    try clear hf5
    try clear c6
    try clear c7
    try clear p7
    try clear q7
    try clear hx7
    try clear hf7
    try clear c8
    try clear c9
    try clear c10
    try clear p13
    try clear q13
    try clear hx13
    try clear c50
    try clear c50b0
    try clear c50b1
    try clear c52
    try clear c53
    try clear c54
    try clear p54
    try clear q54
    try clear hx54
    try clear hf54
    try clear c62
    try clear c64
    try clear c65
    try clear c66
    try clear c68
    try clear c69
    try clear c71
    try clear c71b0
    try clear c71b1
    try clear c73
    try clear c73b0
    try clear c74
    try clear c74b0
    try clear c75
    try clear p75
    try clear q75
    try clear hx75
    try clear hf75
    try clear c83
    try clear c84
    try clear c85
    try clear c86
    try clear c87
    try clear c89
    try clear c90
    try clear c92
    try clear c92b0
    try clear c92b1
    try clear c93
    try clear c93b0
    try clear c94
    try clear c94b0
    try clear c95
    try clear c102
    try clear c103
    try clear c104
    try clear c106
    try clear c107
    try clear hcz105_0
    try clear hcz105_1
    try clear hcz108_0
    try clear hcz108_1
    try clear hcz67_0
    try clear hcz67_1
    try clear hcz70_0
    try clear hcz70_1
    try clear hcz88_0
    try clear hcz88_1
    try clear hcz91_0
    try clear hcz91_1
    try clear hfz105_0
    try clear hfz105_1
    try clear hfz108_0
    try clear hfz108_1
    try clear hfz67_0
    try clear hfz67_1
    try clear hfz70_0
    try clear hfz70_1
    try clear hfz88_0
    try clear hfz88_1
    try clear hfz91_0
    try clear hfz91_1
    try clear hx133_0
    try clear hx133_1
    try clear hx54_0
    try clear hx54_1
    try clear hx75_0
    try clear hx75_1
    try clear p133
    try clear p54
    try clear p75
    try clear q133
    try clear q54
    try clear q75
    obtain ⟨x1001_2, x110001_2, u110001, HA, HK2, HO_110001, BK101, BK102, BK109, HI0, HK, HB⟩ := hrel
    cases gk with
    | zero => exact absurd HA.out (by simp [spec_l1Bent.l0])
    | succ k2 =>
     have H := HA.out
     clear HA
     simp only [spec_l1Bent.l0] at H
     by_cases c111 : (x110001_2.length : Int) ≤ 8
     rotate_left
     ·rw [if_neg c111] at H
      have c111b0 : decide ((x110001_2.length : Int) ≤ 8) = false := decide_eq_false c111
      have c111b1 : decide (x110001_2.length ≤ 8) = false := decide_eq_false (by omega)
      clear c111
      simp only [Option.some.injEq, Prod.mk.injEq] at H
      obtain ⟨rfl, rfl, rfl⟩ := H
      have hnb124 := NB109_101.out
      have hnc124 := NB101_109.out
      have hnb125 := NB109_102.out
      have hnc125 := NB102_109.out
      have hnb126 := NB109_0.out
      have hnc126 := NB0_109.out
      have hcz127_0 : wr.cell? ⟨gb109, 0, none⟩ = some (.string a1_0) := (blk_cell BK109.out 0).trans rfl
      have hcz127_1 : wr.cell? ⟨gb109, 1, none⟩ = some (u110001) := (blk_cell BK109.out 1).trans rfl
      have hfz127_0 := blk_frozen BK109.out 0
      have hfz127_1 := blk_frozen BK109.out 1
      obtain ⟨Ao128, co128, eo128⟩ := Kd.R_slice HO_110001.out
      subst eo128
      have hnb129 := NB102_101.out
      have hnc129 := NB101_102.out
      have hnb130 := NB102_0.out
      have hnc130 := NB0_102.out
      have hcz131_0 : wr.cell? ⟨gb102, 0, none⟩ = some (.string (⟨#[]⟩ : ByteArray)) := (blk_cell BK102.out 0).trans rfl
      have hcz131_1 : wr.cell? ⟨gb102, 1, none⟩ = some (.slice none 0 0) := (blk_cell BK102.out 1).trans rfl
      have hfz131_0 := blk_frozen BK102.out 0
      have hfz131_1 := blk_frozen BK102.out 1
      go_wp2
      refine bodyPost_ret (results_cell_row rfl _ _ gb102 25 #[.string a1_0, .slice Ao128 x110001_2.length co128] (0, 0) _ rfl q35_9 Tryd.underlying25 rfl (by kernel_rfl)) rfl ?_
      exact ⟨_, by first | rfl | (simp [errW_none, errW_some] <;> rfl) | (simp [*, errW_none, errW_some] <;> rfl), by (with_reducible repeat (first | apply Kd.R_alloc | apply Kd.R_drewN | apply Kd.R_drew)); exact Kd.R_mono (Kd.R_far (p := ⟨gb102, 1, none⟩) (Kd.R_far (p := ⟨gb102, 0, none⟩) (Kd.R_types HO_110001.out BK102.out (by decide)) (fun _ hk => hk.2) (.string a1_0)) (fun _ hk => hk.2) (.slice Ao128 x110001_2.length co128)) (fun _ hk => trivial), by repeat (first | (with_reducible first | exact HI0.out | apply IsS132.alloc | apply IsS132.drewN | apply IsS132.drew | apply IsS132.set_1 | refine IsS132.far ?_ NB0_101.out _ | refine IsS132.far ?_ NB0_102.out _ | refine IsS132.far ?_ NB0_109.out _ | refine IsS132.far ?_ HN0_go54.out _ | refine IsS132.far ?_ HN0_go75.out _) | exact HI0.out), by repeat (first | (with_reducible first | exact HB.out | apply below_alloc | apply pw_below_drewN | apply below_drew1 | refine below_set ?_ (IsS132.ge HI0.out) | refine below_set ?_ GE101.out | refine below_set ?_ GE102.out | refine below_set ?_ GE109.out | refine below_set ?_ (Nat.le_trans HL.out GB54.out) | refine below_set ?_ (Nat.le_trans HL.out GB75.out)) | exact HB.out), by repeat (first | (with_reducible first | exact HK.out | apply KeepBut.set_ | apply keep_drewN | apply keep_drew | apply keep_alloc | refine keep_far ?_ GW101.out _ | refine keep_far ?_ GW102.out _ | refine keep_far ?_ GW109.out _ | refine keep_far ?_ GB54.out _ | refine keep_far ?_ GB75.out _) | exact HK.out)⟩
     rw [if_pos c111] at H
     have c111b0 : decide ((x110001_2.length : Int) ≤ 8) = true := decide_eq_true c111
     have c111b1 : decide (x110001_2.length ≤ 8) = true := decide_eq_true (by omega)
     clear c111
     replace H := Option.bind_eq_some_iff.mp H
     obtain ⟨⟨t137, t138⟩, A1120, H⟩ := H
     replace H : (if x110001_2.length < 4398046511104 then (spec_l1Bent.l0 k2 s0_0 t138 a1_0 (x110001_2 ++ [(⟨(⟨#[69]⟩ : ByteArray), t137⟩ : S46)])) else (none)) = some (r1, r2, r3) := H
     have A112 := Aside0.mk A1120
     clear A1120
     by_cases c113 : x110001_2.length < 4398046511104
     rotate_left
     ·rw [if_neg c113] at H
      exact absurd H (by simp)
     rw [if_pos c113] at H
     have LMc113 := Aside0.mk c113
     clear c113
     obtain ⟨y139, hy139⟩ : ∃ y_ : List (S46), y_ = (x110001_2 ++ [(⟨(⟨#[69]⟩ : ByteArray), t137⟩ : S46)]) := ⟨_, rfl⟩
     replace H : (spec_l1Bent.l0 k2 s0_0 t138 a1_0 y139) = some (r1, r2, r3) := by first | (rw [hy139]; with_reducible exact H) | (have H2_ := (Option.bind_some _ _).symm.trans H; rw [hy139]; with_reducible exact H2_) | (have H2_ := (Option.bind_some _ _).symm.trans H; with_reducible exact H2_) | with_reducible exact H | (rw [hy139]; exact H) | exact H
     have Ny139 := Aside0.mk hy139
     clear hy139
     have H' := Aside0.mk H
     clear H
     have hnb114 := NB109_101.out
     have hnc114 := NB101_109.out
     have hnb115 := NB109_102.out
     have hnc115 := NB102_109.out
     have hnb116 := NB109_0.out
     have hnc116 := NB0_109.out
     have hcz117_0 : wr.cell? ⟨gb109, 0, none⟩ = some (.string a1_0) := (blk_cell BK109.out 0).trans rfl
     have hcz117_1 : wr.cell? ⟨gb109, 1, none⟩ = some (u110001) := (blk_cell BK109.out 1).trans rfl
     have hfz117_0 := blk_frozen BK109.out 0
     have hfz117_1 := blk_frozen BK109.out 1
     obtain ⟨Ao118, co118, eo118⟩ := Kd.R_slice HO_110001.out
     subst eo118
     try go_wp2
     refine rn7 (Kd.R_drew HO_110001.out) (blk_drew BK101.out) (blk_drew BK102.out) (blk_drew BK109.out) (IsS132.drew HI0.out) (keep_drew HK.out) (below_drew1 HB.out) ?_
     clear HO_110001 BK101 BK102 BK109 HI0 HK HB
     intro HO_110001 BK101 BK102 BK109 HI0 HK HB
     refine start_ (n := 9) (S := fun w' => w'.cell? ⟨gb109, 0, none⟩ = some (.string a1_0) ∧ w'.cell? ⟨gb109, 1, none⟩ = some (.slice Ao118 x110001_2.length co118)) (ds := [8]) #[false, false, false, false, false, false, false, false, false] (by kernel_rfl) rfl rfl ⟨(blk_cell BK109.out 0).trans rfl, (blk_cell BK109.out 1).trans rfl⟩ (fun hHeld => ?_); refine with_tabW spec_l1Bent.tab8 spec_l1Bent.bits8 (fun HT_ HW_ => ?_)
     generalize wr.drew = w119 at HO_110001 BK101 BK102 BK109 HI0 HK HB hHeld ⊢
     refine pz 0 35 HT_ ?_
     refine pz 2 37 HT_ ?_
     refine tz 1 36 HT_ HW_ hHeld ?_
     refine oz 3 (some 38) HT_ (fun K hK => ?_)
     refine goes_ Tryd.func136 (by kernel_rfl) rfl #[.pointer (some ⟨g, 0, none⟩), .int .i64 3] (by rfl) rfl rfl q35_7 ?_
     with_reducible refine (spec_l1Signed.calls k2 g s0_0 x1001_2 3 t137 t138 w0 _ ?side1 ?side2 A112.out).mono ?_
     (case side1 => exact q35_1)
     (case side2 => exact q35_3)
     rintro e w120 ⟨rfl, hi, hb, hk⟩
     refine ⟨_, rfl, ?_⟩
     refine rn7 (Kd.R_mono (Kd.R_keep (IsS132.apart (show IsS132 w0 _ g s0_0 x1001_2 from q35_1) q35_8 (by decide)) hk (fun _ h => h.2)) (fun _ h => h.1)) (KeepBut.blk hk (g' := gb101) (o := .cells #[.string a1_0, .slice A1_1 l1_1.length c1_1] 25 (0, 0)) q35_4 NB101_0.out (by simp)) (KeepBut.blk hk (g' := gb102) (o := .cells #[.string (⟨#[]⟩ : ByteArray), .slice none 0 0] 25 (0, 0)) q35_5 NB102_0.out (by simp)) (KeepBut.blk hk (g' := gb109) (o := .cells #[.string a1_0, .slice Ao118 x110001_2.length co118] 25 (0, 0)) q35_6 NB109_0.out (by simp)) (KeepBut.trans q35_2 hk (.inl rfl)) (hb) (hi) ?_
     clear HO_110001 BK101 BK102 BK109 HK HB HI0
     intro HO_110001 BK101 BK102 BK109 HK HB HI0
     (try clear hb)
     (try clear hb2)
     (try clear hk)
     (try clear hi)
     refine hK.out _ _ ⟨(blk_cell BK109.out 0).trans rfl, (blk_cell BK109.out 1).trans rfl⟩ (fun hHeld => ?_)
     clear hK K
     refine norm_ (a' := ?_) ?_ ?_
     rotate_left
     ·show Act.put _ (some 38) _ = _
      simp only [Act.put, List.setIfInBounds_toArray, List.set_cons_zero, List.set_cons_succ, i64_w, i32_w]
      rfl
     refine pz 4 39 HT_ ?_
     refine oz 5 (some 40) HT_ (fun K hK => ?_)
     refine value_ (w1 := ?_) (v := ?_) (by rfl) rfl ?_ ?_
     rotate_left 2
     ·go_simp
      constructor
      ·rfl
      rfl
     refine hK.out _ _ ⟨(blk_cell (blk_alloc BK109.out _) 0).trans rfl, (blk_cell (blk_alloc BK109.out _) 1).trans rfl⟩ (fun hHeld => ?_)
     clear hK K
     refine norm_ (a' := ?_) ?_ ?_
     rotate_left
     ·show Act.put _ (some 40) _ = _
      simp only [Act.put, List.setIfInBounds_toArray, List.set_cons_zero, List.set_cons_succ, i64_w, i32_w]
      rfl
     refine oz 6 (some 41) HT_ (fun K hK => ?_)
     refine Kd.R_append_step k46 w.heap.size (by rfl) (.tmp 36) (.tmp 40) 23 46 (.agg #[(.string ⟨#[]⟩), (.string ⟨#[]⟩)]) 32 rfl Tryd.underlying23 info46 rfl (by decide) (by omega) (.slice Ao118 x110001_2.length co118) x110001_2 (⟨(⟨#[69]⟩ : ByteArray), t137⟩ : S46) [.string (⟨#[69]⟩ : ByteArray), .string t137] (fun _ => True) (fun _ => False) rfl rfl ?aP (fun _ hk => hk.elim) ?aF ?aO (Below.refl _ _) ?aS ?aL ?_
     (case aP => exact k46_mkM _ _ _ (⟨(⟨#[69]⟩ : ByteArray), t137⟩ : S46))
     (case aF => exact (fun _ _ => trivial))
     (case aO => exact q35_8)
     (case aS => exact (keep_size (w := w) (g := g) (row := none) q35_2))
     (case aL => have := LMc113.out; omega)
     intro v140 w121 ho hb hg hat
     rw [← Ny139.out] at ho
     refine rn7 (blk_grown (g := gb101) (o := .cells #[.string a1_0, .slice A1_1 l1_1.length c1_1] 25 (0, 0)) q35_4 hg (Kd.R_ne HO_110001.out BK101.out (by decide))) (blk_grown (g := gb102) (o := .cells #[.string (⟨#[]⟩ : ByteArray), .slice none 0 0] 25 (0, 0)) q35_5 hg (Kd.R_ne HO_110001.out BK102.out (by decide))) (blk_grown (g := gb109) (o := .cells #[.string a1_0, .slice Ao118 x110001_2.length co118] 25 (0, 0)) q35_6 hg (Kd.R_ne HO_110001.out BK109.out (by decide))) (IsS132.grown q35_1 hg (IsS132.own_ne HI0.out HO_110001.out (by decide))) (below_weaken q35_3 HL.out hb) (KeepBut.trans q35_2 (KeepBut.of_grown hg g) (Kd.R_base2 HO_110001.out)) (ho) ?_
     clear BK101 BK102 BK109 HI0 HB HK HO_110001
     intro BK101 BK102 BK109 HI0 HB HK HO141
     clear ho hb hg hat
     obtain ⟨Ao122, co122, eo122⟩ := Kd.R_slice HO141.out
     (first | subst eo122 | (injection eo122 with f1_ f2_ f3_; have f4_ := f1_.symm; have f5_ := f3_.symm; clear f1_ f2_ f3_; subst f4_; subst f5_))
     refine hK.out _ _ ⟨(blk_cell BK109.out 0).trans rfl, (blk_cell BK109.out 1).trans rfl⟩ (fun hHeld => ?_)
     clear hK K
     refine norm_ (a' := ?_) ?_ ?_
     rotate_left
     ·show Act.put _ (some 41) _ = _
      simp only [Act.put, List.setIfInBounds_toArray, List.set_cons_zero, List.set_cons_succ, i64_w, i32_w]
      rfl
     refine pz 7 42 HT_ ?_
     refine last_ (i := 8) (N := none) #[true, true, true, true, true, true, true, true, true] rfl rfl (one_of HT_.out (by kernel_rfl)) (by decide) (fun K hK => ?_)
     have hs123 : w121.cell? ⟨gb109, 1, none⟩ = some (.slice Ao118 x110001_2.length co118) := (blk_cell BK109.out 1).trans rfl
     have hfs123 := blk_frozen BK109.out 1
     have hns123_0 := NB101_109.out
     have hns123_1 := NB102_109.out
     have hms123_0 := NB109_101.out
     have hms123_1 := NB109_102.out
     refine skip_ (w1 := ?_) (by rfl) rfl ?_ ?_
     rotate_left
     ·go_simp
      rfl
     refine hK.out _ _ ?_
     clear hK K
     refine dz HT_ ?_
     try go_wp2
     go_roundg k2
     case measure => have := HJ3.out; have := HK2.out; omega
     case rel => exact ⟨(t138), (y139), (.slice Ao122 y139.length co122), H', ⟨by have := HJ3.out; have := HK2.out; omega⟩, ⟨by (with_reducible repeat (first | apply Kd.R_alloc | apply Kd.R_drewN | apply Kd.R_drew)); exact Kd.R_mono (Kd.R_far (p := ⟨gb109, 1, none⟩) (Kd.R_types HO141.out BK109.out (by decide)) (fun _ hk => hk.2) (.slice Ao122 y139.length co122)) (fun _ hk => trivial)⟩, ⟨by (with_reducible repeat (first | refine blk_drewN ?_ _ | refine blk_drew ?_ | refine blk_alloc ?_ _)); refine blk_far ?_ NB101_109.out _; (with_reducible repeat (first | refine blk_drewN ?_ _ | refine blk_drew ?_ | refine blk_alloc ?_ _)); exact BK101.out⟩, ⟨by (with_reducible repeat (first | refine blk_drewN ?_ _ | refine blk_drew ?_ | refine blk_alloc ?_ _)); refine blk_far ?_ NB102_109.out _; (with_reducible repeat (first | refine blk_drewN ?_ _ | refine blk_drew ?_ | refine blk_alloc ?_ _)); exact BK102.out⟩, ⟨by (with_reducible repeat (first | refine blk_drewN ?_ _ | refine blk_drew ?_ | refine blk_alloc ?_ _)); refine blk_put (cs := #[.string a1_0, .slice Ao118 x110001_2.length co118]) ?_ 1 _ rfl; (with_reducible repeat (first | refine blk_drewN ?_ _ | refine blk_drew ?_ | refine blk_alloc ?_ _)); exact BK109.out⟩, ⟨by repeat (first | (with_reducible first | exact HI0.out | apply IsS132.alloc | apply IsS132.drewN | apply IsS132.drew | apply IsS132.set_1 | refine IsS132.far ?_ NB0_101.out _ | refine IsS132.far ?_ NB0_102.out _ | refine IsS132.far ?_ NB0_109.out _ | refine IsS132.far ?_ HN0_go54.out _ | refine IsS132.far ?_ HN0_go75.out _) | exact HI0.out)⟩, ⟨by repeat (first | (with_reducible first | exact HK.out | apply KeepBut.set_ | apply keep_drewN | apply keep_drew | apply keep_alloc | refine keep_far ?_ GW101.out _ | refine keep_far ?_ GW102.out _ | refine keep_far ?_ GW109.out _ | refine keep_far ?_ GB54.out _ | refine keep_far ?_ GB75.out _) | exact HK.out)⟩, ⟨by repeat (first | (with_reducible first | exact HB.out | apply below_alloc | apply pw_below_drewN | apply below_drew1 | refine below_set ?_ (IsS132.ge HI0.out) | refine below_set ?_ GE101.out | refine below_set ?_ GE102.out | refine below_set ?_ GE109.out | refine below_set ?_ (Nat.le_trans HL.out GB54.out) | refine below_set ?_ (Nat.le_trans HL.out GB75.out)) | exact HB.out)⟩⟩
/-! ### spec_l17Rd_num: function 101 -/
def spec_l17Rd_num.f (k : Nat) (s0_0 : List Int) (s0_1 : Int) (l1 : List Int) : Option (Int × Int) := (spec_l17Rd_pick.f k s0_0 s0_1 (l1.length : Int)).bind fun bt101 => (if 0 ≤ bt101.1 then (if bt101.1 < (l1.length : Int) then (some (rd l1 bt101.1, bt101.2)) else (none)) else (none))
theorem spec_l17Rd_num.mono : ∀ a0 a1 a2 k, LeO (spec_l17Rd_num.f k a0 a1 a2) (spec_l17Rd_num.f (k + 1) a0 a1 a2) := by
 intro a0 a1 a2 k
 unfold spec_l17Rd_num.f
 repeat' first
   | (with_reducible exact spec_l17Rd_pick.mono _ _ _ _)
   | (with_reducible exact LeO.refl _)
   | (with_reducible exact LeO.none _)
   | (with_reducible refine LeO.ite ?_ ?_)
   | (with_reducible refine LeO.bind ?_ (fun _ => ?_))
   | exact spec_l17Rd_pick.mono _ _ _ _
   | exact LeO.none _
   | refine LeO.ite ?_ ?_
   | refine LeO.bind ?_ (fun _ => ?_)
set_option maxHeartbeats 8000000 in
set_option maxRecDepth 100000 in
theorem spec_l17Rd_num.calls (k : Nat) (g : Nat) (s0_0 : List Int) (s0_1 : Int) (A1 : Option Addr) (c1 : Nat) (l1 : List Int) (r1 : Int) (r2 : Int) (w0 w : World) (hI : IsS132 w0 w g s0_0 s0_1) (hB : Below w0.heap.size w0 w) (hr1 : Kd.C (Kd.int .i64) w A1 l1.length l1) (hc1 : l1.length ≤ c1) (hf1 : ∀ ad, A1 = some ad → 0 < l1.length → ad.block ≠ g) (h : spec_l17Rd_num.f k s0_0 s0_1 l1 = some (r1, r2)) :
  Calls Tryd.prog 101 #[.pointer (some ⟨g, 0, none⟩), .slice A1 l1.length c1] w fun e w' => e = .returned (.int .i64 r1) ∧ IsS132 w0 w' g s0_0 r2 ∧ Below w0.heap.size w0 w' ∧ KeepBut w w' g none := by
 have HR1 := Aside0.mk hr1
 have HC1 := Aside0.mk hc1
 clear hr1 hc1
 have HI0 := Aside0.mk hI
 have HK := Aside0.mk (KeepBut.refl w g none)
 have HL := Aside0.mk hB.size
 clear hI
 have HW0 := Aside0.mk hB.size
 have HB := Aside0.mk hB
 clear hB
 have H : ((spec_l17Rd_pick.f k s0_0 s0_1 (l1.length : Int)).bind fun bt101 => (if 0 ≤ bt101.1 then (if bt101.1 < (l1.length : Int) then (some (rd l1 bt101.1, bt101.2)) else (none)) else (none))) = some (r1, r2) := h
 clear h
 replace H := Option.bind_eq_some_iff.mp H
 obtain ⟨⟨t101, t102⟩, A30, H⟩ := H
 replace H : (if 0 ≤ t101 then (if t101 < (l1.length : Int) then (some (rd l1 t101, t102)) else (none)) else (none)) = some (r1, r2) := H
 have A3 := Aside0.mk A30
 clear A30
 by_cases c4 : 0 ≤ t101
 ·rw [if_pos c4] at H
  have c4b0 : decide (0 ≤ t101) = true := decide_eq_true c4
  clear c4
  by_cases c5 : t101 < (l1.length : Int)
  ·rw [if_pos c5] at H
   have c5b0 : decide (t101 < (l1.length : Int)) = true := decide_eq_true c5
   clear c5
   simp only [Option.some.injEq, Prod.mk.injEq] at H
   obtain ⟨rfl, rfl⟩ := H
   go_enter Tryd.func101, Tryd.ntmps101
   go_wp2_with (first | ((with_reducible refine gate_callee (f := 84) rfl ?_); refine goesL_ (some 9) rfl rfl Tryd.func84 (by kernel_rfl) rfl #[.pointer (some ⟨g, 0, none⟩), .int .i64 (l1.length : Int)] rfl (by (try simp only [List.map_toArray, List.map_cons, List.map_nil]); first | done | rfl | (simp only [List.length_drop, List.length_take]; rfl)) ?_; (with_reducible refine (spec_l17Rd_pick.calls k g s0_0 s0_1 (l1.length : Int) t101 t102 w0 _ ?side1 ?side2 A3.out).mono ?_); (case side1 => repeat (first | (with_reducible first | exact HI0.out | apply IsS132.alloc | apply IsS132.drewN | apply IsS132.drew | apply IsS132.set_1) | exact HI0.out)); (case side2 => repeat (first | (with_reducible first | exact HB.out | apply below_alloc | apply pw_below_drewN | apply below_drew1 | refine below_set ?_ (IsS132.ge HI0.out)) | exact HB.out)); rintro e w6 ⟨rfl, hi, hb, hk⟩; refine ⟨_, rfl, ?_⟩; refine rn3 (KeepBut.trans (by repeat (first | (with_reducible first | exact HK.out | apply KeepBut.set_ | apply keep_drewN | apply keep_drew | apply keep_alloc) | exact HK.out)) hk (.inl rfl)) (hb) (hi) ?_; clear HK HB HI0; intro HK HB HI0; (try clear hb); (try clear hb2); (try clear hk); (try clear hi); have p103 : 0 ≤ (t101 : Int) := of_decide_eq_true (by first | (with_reducible assumption) | assumption); have q103 : t101 < (l1.length : Int) := of_decide_eq_true (by first | (with_reducible assumption) | assumption); obtain ⟨ad103, e103, hx103_0⟩ := Kd.at_int HR1.out t101 p103 q103; cases e103; replace hx103_0 := keep_cell HK.out hx103_0 (by first | (rw [add_block]; exact hf1 _ rfl (by omega)) | exact hf1 _ rfl (by omega) | exact hf1 ad103 rfl (by omega)); replace p103 := eq_true p103; replace q103 := eq_true q103))
   go_ret
   exact ⟨by first | rfl | (simp [errW_none, errW_some] <;> rfl) | (simp [*, errW_none, errW_some] <;> rfl), by repeat (first | (with_reducible first | exact HI0.out | apply IsS132.alloc | apply IsS132.drewN | apply IsS132.drew | apply IsS132.set_1) | exact HI0.out), by repeat (first | (with_reducible first | exact HB.out | apply below_alloc | apply pw_below_drewN | apply below_drew1 | refine below_set ?_ (IsS132.ge HI0.out)) | exact HB.out), by repeat (first | (with_reducible first | exact HK.out | apply KeepBut.set_ | apply keep_drewN | apply keep_drew | apply keep_alloc) | exact HK.out)⟩
  rw [if_neg c5] at H
  exact absurd H (by simp)
 rw [if_neg c4] at H
 exact absurd H (by simp)
end Go.Proofs.YtiibnkibckklgaaDoor.P
