-- Joined texts of a claim (wip/tools/bundle2.py).
import Derived.Test.YtiibnkibckklgaaDoorJAllLongerCAllLonger3
namespace Go.Proofs.YtiibnkibckklgaaDoor.P
open Go.RowKit Go.Maps Go.Proofs.YtiibnkibckklgaaDoorW.PrintWords Go.Proofs.YtiibnkibckklgaaDoorW.PrintLast Go.Proofs.YtiibnkibckklgaaDoorW.PrintMore
set_option linter.unusedVariables false
set_option linter.unusedSimpArgs false
structure ChSt (w W : World) (gb cb mb n : Nat) (gv : Array Value) (t : ByteArray) (D : DataW Unit) : Prop where
 below : Below w.heap.size w W
 gnew : w.heap.size ≤ gb
 cnew : w.heap.size ≤ cb
 mnew : w.heap.size ≤ mb
 g : W.heap[gb]? = some (.cells gv 25 (0, 0))
 ch : ChartAt W cb mb n gv t D
theorem ChSt.step {w W W' : World} {gb cb mb n : Nat} {gv : Array Value} {t : ByteArray} {D : DataW Unit} (h : ChSt w W gb cb mb n gv t D) (hb : Below W.heap.size W W') : ChSt w W' gb cb mb n gv t D :=
 ⟨below_step h.below hb, h.gnew, h.cnew, h.mnew, (hb.block gb (Array.getElem?_eq_some_iff.1 h.g).1).trans h.g, h.ch.below hb⟩
theorem ChSt.set {w W : World} {gb cb mb n : Nat} {gv : Array Value} {t : ByteArray} {D : DataW Unit} (h : ChSt w W gb cb mb n gv t D) {b : Nat} (h0 : w.heap.size ≤ b) (h1 : b ≠ gb) (h2 : b ≠ cb) (h3 : b ≠ mb) (o : Nat) (v : Value) : ChSt w (W.setCell ⟨b, o, none⟩ v) gb cb mb n gv t D :=
 ⟨below_set h.below h0, h.gnew, h.cnew, h.mnew, (Below.heap_setCell W ⟨b, o, none⟩ v gb (fun e => h1 e.symm)).trans h.g, ⟨h.ch.two, (Below.heap_setCell W ⟨b, o, none⟩ v cb (fun e => h2 e.symm)).trans h.ch.blk, h.ch.own.setCell (a := ⟨b, o, none⟩) (fun e => h3 e.symm) v⟩⟩
theorem ChSt.apart {w W : World} {gb cb mb n : Nat} {gv : Array Value} {t : ByteArray} {D : DataW Unit} (h : ChSt w W gb cb mb n gv t D) {b : Nat} (hb : W.heap.size ≤ b) : b ≠ gb ∧ b ≠ cb ∧ b ≠ mb := by
 have h1 := (Array.getElem?_eq_some_iff.1 h.g).1
 have h2 := (Array.getElem?_eq_some_iff.1 h.ch.blk).1
 have h3 := h.ch.own.lt
 omega
theorem chSt_start (w : World) (gv : Array Value) (h2 : gv.size = 2) (t : ByteArray) : ChSt w (((w.alloc (.cells gv 25)).alloc (.map #[] 0)).alloc (.cells (gv ++ #[.string t, .map (some (w.heap.size + 1))]) 172)) w.heap.size (w.heap.size + 1 + 1) (w.heap.size + 1) 0 gv t (.map []) := by
 have e1 : (w.alloc (.cells gv 25)).heap.size = w.heap.size + 1 := by simp
 have e2 : ((w.alloc (.cells gv 25)).alloc (.map #[] 0)).heap.size = w.heap.size + 1 + 1 := by simp
 refine ⟨below_alloc (below_alloc (below_alloc (Below.refl _ _) _) _) _, Nat.le_refl _, by omega, by omega, blk_alloc (blk_alloc (blk_new _ _) _) _, h2, ?_, ?_⟩
 ·have := blk_new ((w.alloc (.cells gv 25)).alloc (.map #[] 0)) (.cells (gv ++ #[.string t, .map (some (w.heap.size + 1))]) 172 (0, 0))
  rw [e2] at this
  exact this
 have := World.ownsMap_made (w.alloc (.cells gv 25)) Tryd.prog 159 (plainElem (H := Unit) Tryd.prog 4)
 rw [e1] at this
 exact this.alloc _
theorem chart_empty (c : UInt8) (i j : Nat) : ¬ chartD (.map []) c i j := by
 rintro ⟨_, _, h⟩
 have : (DataW.map ([] : List (Lit × DataW Unit))).atKey (partLit ⟨#[c]⟩ i j) (.lit (.bool false)) = .lit (.bool false) := rfl
 rw [this] at h
 injection h with h
 injection h with h
 cases h
theorem chart_put {w : World} {mb n : Nat} {D : DataW Unit} {c : UInt8} {i j : Nat} (hown : w.ownsMap Tryd.prog 159 (plainElem Tryd.prog 4) mb n D) (hi : i ≤ 1000000) (hj : j ≤ 1000000) :
  chartD (D.put (partLit ⟨#[c]⟩ i j) (.lit (.bool true))) = putC (chartD D) c i j := by
 have h1 : ∀ c : UInt8, (⟨#[c]⟩ : ByteArray).size ≤ maxLen := fun c => by show 1 ≤ maxLen; unfold maxLen; omega
 funext c' i' j'
 apply propext
 unfold chartD putC
 by_cases hb : i' ≤ 1000000 ∧ j' ≤ 1000000
 case neg =>
  constructor
  ·rintro ⟨a, b, _⟩; exact absurd ⟨a, b⟩ hb
  rintro (⟨rfl, rfl, rfl⟩ | ⟨a, b, _⟩)
  ·exact absurd ⟨hi, hj⟩ hb
  exact absurd ⟨a, b⟩ hb
 by_cases he : c' = c ∧ i' = i ∧ j' = j
 ·obtain ⟨rfl, rfl, rfl⟩ := he
  have hk : WideAt.IsKeyLit (partLit ⟨#[c']⟩ i' j') := partKeyed.key (partKey ⟨#[c']⟩ i' j' (h1 c') (i64wf (by omega) (by omega)) (i64wf (by omega) (by omega)))
  rw [atKey_put_same hown.isMap hk]
  exact ⟨fun _ => Or.inl ⟨rfl, rfl, rfl⟩, fun _ => ⟨hb.1, hb.2, rfl⟩⟩
 have hne : partLit ⟨#[c']⟩ i' j' ≠ partLit ⟨#[c]⟩ i j := by
  intro h
  obtain ⟨h2, h3, h4⟩ := partInj (h1 c') (h1 c) (i64wf (by omega) (by omega)) (i64wf (by omega) (by omega)) (i64wf (by omega) (by omega)) (i64wf (by omega) (by omega)) h
  injection h2 with h2
  simp at h2
  exact he ⟨h2, by omega, by omega⟩
 rw [atKey_put_other hne]
 constructor
 ·exact fun h => Or.inr h
 rintro (h | h)
 ·exact absurd h he
 exact h
theorem ChSt.put {w W W' : World} {gb cb mb n n' : Nat} {gv : Array Value} {t : ByteArray} {D D' : DataW Unit} (h : ChSt w W gb cb mb n gv t D) (hown : W'.ownsMap Tryd.prog 159 (plainElem Tryd.prog 4) mb n' D') (hg : W.grownBy W' (some mb)) : ChSt w W' gb cb mb n' gv t D' := by
 have hne : ∀ {k : Nat} {cs : Array Value} {e : TypeId}, W.heap[k]? = some (.cells cs e (0, 0)) → k < W.heap.size ∧ some k ≠ some mb := by
  intro k cs e hk
  refine ⟨(Array.getElem?_eq_some_iff.1 hk).1, fun e => ?_⟩
  obtain ⟨es, cl, hb, _⟩ := h.ch.own
  injection e with e
  subst e
  rw [hb] at hk
  cases hk
 refine ⟨⟨hg.os.trans h.below.os, hg.tape.trans h.below.tape, hg.output.trans h.below.output, Nat.le_trans h.below.size hg.size, fun k hk => ?_⟩, h.gnew, h.cnew, h.mnew, ?_, h.ch.two, ?_, hown⟩
 ·rw [← h.below.block k hk]
  exact hg.block k (Nat.lt_of_lt_of_le hk h.below.size) (fun e => by injection e with e; have := h.mnew; omega)
 ·exact (hg.block gb (hne h.g).1 (hne h.g).2).trans h.g
 exact (hg.block cb (hne h.ch.blk).1 (hne h.ch.blk).2).trans h.ch.blk
structure ChPost (w w' : World) (l : List RuleS) (t : ByteArray) (e : Ending) : Prop where
 out : ∃ cb mb n gv D, e = .returned (.pointer (some ⟨cb, 0, none⟩)) ∧ ChartAt w' cb mb n gv t D ∧ Sound (prods l) t.data.toList (chartD D) ∧ Closed (prods l) t.data.toList (chartD D) ∧ Below w.heap.size w w'
theorem ChSt.noMap {w W : World} {gb cb mb n : Nat} {gv : Array Value} {t : ByteArray} {D : DataW Unit} (h : ChSt w W gb cb mb n gv t D) {k : Nat} {cs : Array Value} {e : TypeId} (hk : W.heap[k]? = some (.cells cs e (0, 0))) : some k ≠ some mb := fun e => by
 obtain ⟨es, cl, hb, _⟩ := h.ch.own
 injection e with e
 subst e
 rw [hb] at hk
 cases hk
set_option maxHeartbeats 8000000 in
set_option maxRecDepth 100000 in
theorem chartOf_calls (s : ByteArray) (A : Option Addr) (cp : Nat) (l : List RuleS) (t : ByteArray) (w : World) (hr : Kd.C k46 w A l.length l) (hcp : l.length ≤ cp) (hG : gramOkB s l = true) (ht : t.size ≤ 1000) :
  Calls Tryd.prog 133 #[.agg #[.string s, .slice A l.length cp], .string t] w fun e w' => ChPost w w' l t e := by
 have hmm := @run_makeMap Tryd.prog
 have HR := Aside0.mk hr
 have HG := Aside0.mk (gramOkB_good hG)
 clear hr hG
 have hl8 : l.length ≤ 8 := HG.out.few
 have htl : t.data.toList.length = t.size := (size_toList t).symm
 have Htl := Aside0.mk htl
 clear htl
 go_enter Tryd.func133, Tryd.ntmps133
 go_wp2_with fail
 clear hmm
 have h0 : ChSt w (((w.alloc (Obj.cells #[Value.string s, Value.slice A l.length cp] 25)).alloc (Obj.map #[] 0)).alloc (Obj.cells #[Value.string s, Value.slice A l.length cp, Value.string t, Value.map (some (w.heap.size + 1))] 172)) w.heap.size (w.heap.size + 1 + 1) (w.heap.size + 1) 0 #[.string s, .slice A l.length cp] t (.map []) := chSt_start w #[.string s, .slice A l.length cp] rfl t
 generalize (((w.alloc (Obj.cells #[Value.string s, Value.slice A l.length cp] 25)).alloc (Obj.map #[] 0)).alloc (Obj.cells #[Value.string s, Value.slice A l.length cp, Value.string t, Value.map (some (w.heap.size + 1))] 172)) = W0 at h0 ⊢
 obtain ⟨gb, egb⟩ : ∃ gb, gb = w.heap.size := ⟨_, rfl⟩
 obtain ⟨cb, ecb⟩ : ∃ cb, cb = w.heap.size + 1 + 1 := ⟨_, rfl⟩
 obtain ⟨mb, emb⟩ : ∃ mb, mb = w.heap.size + 1 := ⟨_, rfl⟩
 have hs0 : Sound (prods l) t.data.toList (chartD (.map [])) := fun c i j h => absurd h (chart_empty c i j)
 go_loopg [6] (2 * openN t.size (chartD (.map [])) + 1) (fun gk v6 wr => ∃ (ch : Bool) (n : Nat) (D : DataW Unit), v6 = .bool ch ∧ Aside0 (ChSt w wr w.heap.size (w.heap.size + 1 + 1) (w.heap.size + 1) n #[.string s, .slice A l.length cp] t D) ∧ Aside0 (Sound (prods l) t.data.toList (chartD D)) ∧ Aside0 (ch = false → Closed (prods l) t.data.toList (chartD D)) ∧ Aside0 (n + openN t.size (chartD D) ≤ 5 * ((t.size + 1) * (t.size + 1))) ∧ Aside0 (gk = 2 * openN t.size (chartD D) + (if ch = true then 1 else 0)))
 case atStart => exact ⟨true, 0, .map [], rfl, ⟨h0⟩, ⟨hs0⟩, ⟨fun h => by cases h⟩, ⟨by have := openN_le t.size (chartD (.map [])); omega⟩, ⟨rfl⟩⟩
 case round =>
  obtain ⟨ch, n, D, rfl, HS, HSo, HCl, HN, HK⟩ := hrel
  clear h0 hs0
  cases ch
  case false =>
   have hcl := Aside0.mk (HCl.out rfl)
   clear HCl
   go_wp2_with fail
   go_ret
   exact ⟨⟨_, _, n, _, D, rfl, HS.out.ch, HSo.out, hcl.out, HS.out.below⟩⟩
  case true =>
   clear HCl
   go_wp2_with fail
   -- one pass: the places from the end on
   go_loopg [6, 7] (t.size + 1) (fun gk1 v6 v7 wr => ∃ (ch : Bool) (n1 : Nat) (D1 : DataW Unit) (fr : Int), v6 = .bool ch ∧ v7 = .int .i64 fr ∧ Aside0 (ChSt w wr w.heap.size (w.heap.size + 1 + 1) (w.heap.size + 1) n1 #[.string s, .slice A l.length cp] t D1) ∧ Aside0 (BInv (prods l) t.data.toList (chartD D) (chartD D1) ch (fun p i j => p ∈ prods l ∧ gk1 ≤ i ∧ i ≤ j ∧ j ≤ t.size)) ∧ Aside0 (n1 + openN t.size (chartD D1) ≤ 5 * ((t.size + 1) * (t.size + 1))) ∧ Aside0 (fr = (gk1 : Int) - 1) ∧ Aside0 (gk1 ≤ t.size + 1))
   case atStart => exact ⟨false, n, D, t.size, rfl, rfl, HS, ⟨(BInv.start HSo.out).weaken fun p i j h => by obtain ⟨_, h1, h2, h3⟩ := h; omega⟩, HN, ⟨by omega⟩, ⟨Nat.le_refl _⟩⟩
   case round =>
    obtain ⟨ch, n1, D1, fr, rfl, rfl, HS1, HI, HN1, HF, HG1⟩ := hrel
    clear HN HS HSo
    cases gk with
    | zero =>
     obtain rfl : fr = -1 := by have := HF.out; omega
     go_wp2_with fail
     go_roundg (2 * openN t.size (chartD D1) + (if ch = true then 1 else 0))
     case measure =>
      have h1 := HK.out
      have h2 := HI.out.openN_le
      have h3 := HI.out.less
      rw [Htl.out] at h2 h3
      cases ch
      ·simp at h1 ⊢; omega
      have := h3 rfl; simp at h1 ⊢; omega
     case rel =>
      exact ⟨ch, n1, D1, rfl, HS1, ⟨HI.out.sound⟩, ⟨fun e => by subst e; exact HI.out.closed (fun p hp i j hij hj => ⟨hp, Nat.zero_le _, hij, by rw [← Htl.out]; exact hj⟩)⟩, HN1, ⟨rfl⟩⟩
    | succ k =>
     obtain rfl : fr = (k : Int) := by have := HF.out; omega
     have hk : k ≤ t.size := by have := HG1.out; omega
     have hkz : (k : Int) ≤ (t.size : Int) := by omega
     go_wp2_with fail
     go_loopg [6, 8] (t.size + 1 - k) (fun gk2 v6 v8 wr => ∃ (ch : Bool) (n2 : Nat) (D2 : DataW Unit) (j : Nat), v6 = .bool ch ∧ v8 = .int .i64 j ∧ Aside0 (ChSt w wr w.heap.size (w.heap.size + 1 + 1) (w.heap.size + 1) n2 #[.string s, .slice A l.length cp] t D2) ∧ Aside0 (BInv (prods l) t.data.toList (chartD D) (chartD D2) ch (fun p i' j' => p ∈ prods l ∧ i' ≤ j' ∧ j' ≤ t.size ∧ (k < i' ∨ (i' = k ∧ j' < j)))) ∧ Aside0 (n2 + openN t.size (chartD D2) ≤ 5 * ((t.size + 1) * (t.size + 1))) ∧ Aside0 (gk2 = t.size + 1 - j ∧ k ≤ j ∧ j ≤ t.size + 1))
     case atStart => exact ⟨ch, n1, D1, k, rfl, rfl, HS1, ⟨HI.out.weaken fun p i' j' h => ⟨h.1, by omega, h.2.1, h.2.2.1⟩⟩, HN1, ⟨rfl, Nat.le_refl _, by omega⟩⟩
     case round =>
      obtain ⟨ch, n2, D2, j, rfl, rfl, HS2, HI2, HN2, HJ⟩ := hrel
      clear HI HN1 HS1
      by_cases hj : j ≤ t.size
      case neg =>
       have hjz : ¬ (j : Int) ≤ (t.size : Int) := by omega
       go_wp2_with fail
       go_roundg k
       case measure => omega
       case rel => exact ⟨ch, n2, D2, (k : Int) - 1, rfl, by first | rfl | go_num, HS2, ⟨HI2.out.weaken fun p i' j' h => ⟨h.1, h.2.2.1, h.2.2.2, by have := HJ.out; omega⟩⟩, HN2, ⟨rfl⟩, ⟨by omega⟩⟩
      case pos =>
       have hjz : (j : Int) ≤ (t.size : Int) := by omega
       have hkj : k ≤ j := HJ.out.2.1
       have hc1 : wr.cell? ⟨w.heap.size, 1, none⟩ = some (.slice A l.length cp) := (blk_cell HS2.out.g 1).trans rfl
       go_wp2_with fail
       clear hc1
       go_loopg [6, 34] l.length (fun gk3 v6 v34 wr => ∃ (ch : Bool) (n3 : Nat) (D3 : DataW Unit) (q : Nat), v6 = .bool ch ∧ v34 = .int .i64 q ∧ Aside0 (ChSt w wr w.heap.size (w.heap.size + 1 + 1) (w.heap.size + 1) n3 #[.string s, .slice A l.length cp] t D3) ∧ Aside0 (BInv (prods l) t.data.toList (chartD D) (chartD D3) ch (fun p i' j' => p ∈ prods l ∧ i' ≤ j' ∧ j' ≤ t.size ∧ (k < i' ∨ (i' = k ∧ j' < j) ∨ (i' = k ∧ j' = j ∧ p ∈ prods (l.take q))))) ∧ Aside0 (n3 + openN t.size (chartD D3) ≤ 5 * ((t.size + 1) * (t.size + 1))) ∧ Aside0 (gk3 = l.length - q ∧ q ≤ l.length))
       case atStart => exact ⟨ch, n2, D2, 0, rfl, rfl, HS2, ⟨HI2.out.weaken fun p i' j' h => ⟨h.1, h.2.1, h.2.2.1, by
        rcases h.2.2.2 with h | h | h
        ·exact Or.inl h
        ·exact Or.inr h
        have := h.2.2; simp [prods] at this⟩⟩, HN2, ⟨by omega⟩⟩
       case round =>
        obtain ⟨ch, n3, D3, q, rfl, rfl, HS3, HI3, HN3, HQ⟩ := hrel
        clear HI2 HN2 HS2
        by_cases hq : q < l.length
        case neg =>
         have hqz : ¬ (q : Int) < (l.length : Int) := by omega
         go_wp2_with fail
         go_roundg (t.size + 1 - (j + 1))
         case measure => have := HJ.out; omega
         case rel => exact ⟨ch, n3, D3, j + 1, rfl, by first | rfl | go_num, HS3, ⟨HI3.out.weaken fun p i' j' h => ⟨h.1, h.2.1, h.2.2.1, by
          rcases h.2.2.2 with h2 | ⟨h2, h3⟩
          ·exact Or.inl h2
          by_cases e : j' = j
          ·refine Or.inr (Or.inr ⟨h2, e, ?_⟩); rw [List.take_of_length_le (by omega)]; exact h.1
          exact Or.inr (Or.inl ⟨h2, by omega⟩)⟩⟩, HN3, ⟨rfl, by omega, by omega⟩⟩
        case pos =>
         have hqz : (q : Int) < (l.length : Int) := by omega
         have hxm := mem_rd l q hq
         have hP := HG.out.prod hxm
         obtain ⟨ad, eA, hx0, hx1⟩ := at_T46 HR.out (q : Int) (by omega) hqz
         subst eA
         rw [show ((q : Int)).toNat = q by omega] at hx0 hx1
         rw [hP.1] at hx0
         rw [← ofL_of (rd_T46 l (q : Int)).f1] at hx1
         have hq1 : prods (l.take (q + 1)) = prods (l.take q) ++ [prodOf (rd_T46 l (q : Int))] := by
          unfold prods
          rw [List.take_succ_eq_append_getElem hq, List.map_append]
          congr 1
          simp [prodOf, rd_T46, List.getD_eq_getElem?_getD, hq]
         have hr4 : (rd_T46 l (q : Int)).f1.data.toList = (prodOf (rd_T46 l (q : Int))).2 := rfl
         rw [hr4] at hx1
         have HP := Aside0.mk hP
         have HQ1 := Aside0.mk hq1
         clear hP hq1 hr4 hxm
         generalize prodOf (rd_T46 l (q : Int)) = p at hx0 hx1 HP HQ1
         obtain ⟨c, r⟩ := p
         have HP2 : Aside0 (isBigB c = true ∧ (c, r) ∈ prods l ∧ r.length ≤ 4) := ⟨HP.out.2.1, HP.out.2.2.1, HP.out.2.2.2.1⟩
         clear HP
         replace hx0 : w.cell? (ad.add (q * 2)) = some (.string ⟨#[c]⟩) := hx0
         replace hx1 : w.cell? ⟨(ad.add (q * 2)).block, (ad.add (q * 2)).off + 1, none⟩ = some (.string (ofL r)) := hx1
         replace hx0 := (HS3.out.below.cell (World.block_lt_of_cell? w _ hx0)).trans hx0
         replace hx1 := (HS3.out.below.cell (World.block_lt_of_cell? w _ hx1)).trans hx1
         generalize hsr : ofL r = sr at hx1
         have HSR := Aside0.mk hsr
         clear hsr
         have hp0 := eq_true (show (0 : Int) ≤ (q : Int) by omega)
         go_upto_region 14 with (first | ((with_reducible refine gate_dst (N := 10) rfl ?_); refine box_event ?hg (N := 10) ?hd (cs := #[.string (⟨#[]⟩ : ByteArray), .string (⟨#[]⟩ : ByteArray)]) (t := 46) ?hr ?_; (case hd => rfl); (case hg => rfl); (case hr => first | (go_simp; done) | (go_simp; rfl)); intro g10 hg10 w10 hbox hb; have HA := Aside0.mk (HS3.out.apart (Nat.le_of_eq hg10.symm)); have HS4 := Aside0.mk (HS3.out.step hb); have HB10 := Aside0.mk hbox; have HG10 := Aside0.mk (Nat.le_trans HS3.out.below.size (Nat.le_of_eq hg10.symm)); clear hb hbox hg10; have hz0 : w10.cell? ⟨g10, 0, none⟩ = some (.string (⟨#[]⟩ : ByteArray)) := (blk_cell HB10.out 0).trans rfl; have hz1 : w10.cell? ⟨g10, 1, none⟩ = some (.string (⟨#[]⟩ : ByteArray)) := (blk_cell HB10.out 1).trans rfl; have hf0 := blk_frozen HB10.out 0; have hf1 := blk_frozen HB10.out 1))
                  
         have HS5 : Aside0 (ChSt w ((w10.setCell ⟨g10, 0, none⟩ (.string ⟨#[c]⟩)).setCell ⟨g10, 1, none⟩ (.string sr)) w.heap.size (w.heap.size + 1 + 1) (w.heap.size + 1) n3 #[.string s, .slice (some ad) l.length cp] t D3) := ⟨(HS4.out.set HG10.out HA.out.1 HA.out.2.1 HA.out.2.2 0 _).set HG10.out HA.out.1 HA.out.2.1 HA.out.2.2 1 _⟩
         have HB5 : Aside0 (((w10.setCell ⟨g10, 0, none⟩ (.string ⟨#[c]⟩)).setCell ⟨g10, 1, none⟩ (.string sr)).heap[g10]? = some (.cells #[.string ⟨#[c]⟩, .string sr] 46 (0, 0))) := ⟨blk_put (cs := #[.string ⟨#[c]⟩, .string (⟨#[]⟩ : ByteArray)]) (blk_put (cs := #[.string (⟨#[]⟩ : ByteArray), .string (⟨#[]⟩ : ByteArray)]) HB10.out 0 _ rfl) 1 _ rfl⟩
         clear hx0 hx1 hz0 hz1 hf0 hf1 HS4 HB10 HA HS3 hp0
         generalize ((w10.setCell ⟨g10, 0, none⟩ (.string ⟨#[c]⟩)).setCell ⟨g10, 1, none⟩ (.string sr)) = w5 at HS5 HB5 ⊢
         have hy0 : w5.cell? ⟨g10, 0, none⟩ = some (.string ⟨#[c]⟩) := (blk_cell HB5.out 0).trans rfl
         go_upto_region 15 with (first | ((with_reducible refine gate_dst (N := 11) rfl ?_); refine box_event ?hg (N := 11) ?hd (cs := #[.string (⟨#[]⟩ : ByteArray), .int .i64 0, .int .i64 0]) (t := 159) ?hr ?_; (case hd => rfl); (case hg => rfl); (case hr => first | (go_simp; done) | (go_simp; rfl)); intro g11 hg11 w11 hbox hb; have HA := Aside0.mk (HS5.out.apart (Nat.le_of_eq hg11.symm)); have HN10 := Aside0.mk (show g11 ≠ g10 from by have := (Array.getElem?_eq_some_iff.1 HB5.out).1; omega); have HS6 := Aside0.mk (HS5.out.step hb); have HB6 := Aside0.mk (blk_below HB5.out hb); have HB11 := Aside0.mk hbox; have HG11 := Aside0.mk (Nat.le_trans HS5.out.below.size (Nat.le_of_eq hg11.symm)); clear hb hbox hg11; have hz0 : w11.cell? ⟨g11, 0, none⟩ = some (.string (⟨#[]⟩ : ByteArray)) := (blk_cell HB11.out 0).trans rfl; have hz1 : w11.cell? ⟨g11, 1, none⟩ = some (.int .i64 0) := (blk_cell HB11.out 1).trans rfl; have hz2 : w11.cell? ⟨g11, 2, none⟩ = some (.int .i64 0) := (blk_cell HB11.out 2).trans rfl; have hf0 := blk_frozen HB11.out 0; have hf1 := blk_frozen HB11.out 1; have hf2 := blk_frozen HB11.out 2))
         have HS7 : Aside0 (ChSt w (((w11.setCell ⟨g11, 0, none⟩ (.string ⟨#[c]⟩)).setCell ⟨g11, 1, none⟩ (.int .i64 k)).setCell ⟨g11, 2, none⟩ (.int .i64 j)) w.heap.size (w.heap.size + 1 + 1) (w.heap.size + 1) n3 #[.string s, .slice (some ad) l.length cp] t D3) := ⟨((HS6.out.set HG11.out HA.out.1 HA.out.2.1 HA.out.2.2 0 _).set HG11.out HA.out.1 HA.out.2.1 HA.out.2.2 1 _).set HG11.out HA.out.1 HA.out.2.1 HA.out.2.2 2 _⟩
         have HB7 : Aside0 ((((w11.setCell ⟨g11, 0, none⟩ (.string ⟨#[c]⟩)).setCell ⟨g11, 1, none⟩ (.int .i64 k)).setCell ⟨g11, 2, none⟩ (.int .i64 j)).heap[g10]? = some (.cells #[.string ⟨#[c]⟩, .string sr] 46 (0, 0))) := ⟨blk_far (blk_far (blk_far HB6.out (fun e => HN10.out e.symm) _) (fun e => HN10.out e.symm) _) (fun e => HN10.out e.symm) _⟩
         have HB71 : Aside0 ((((w11.setCell ⟨g11, 0, none⟩ (.string ⟨#[c]⟩)).setCell ⟨g11, 1, none⟩ (.int .i64 k)).setCell ⟨g11, 2, none⟩ (.int .i64 j)).heap[g11]? = some (.cells #[.string ⟨#[c]⟩, .int .i64 k, .int .i64 j] 159 (0, 0))) := ⟨blk_put (cs := #[.string ⟨#[c]⟩, .int .i64 k, .int .i64 0]) (blk_put (cs := #[.string ⟨#[c]⟩, .int .i64 0, .int .i64 0]) (blk_put (cs := #[.string (⟨#[]⟩ : ByteArray), .int .i64 0, .int .i64 0]) HB11.out 0 _ rfl) 1 _ rfl) 2 _ rfl⟩
         clear hy0 hz0 hz1 hz2 hf0 hf1 hf2 HS5 HB5 HS6 HB6 HB11 HA HN10
         generalize (((w11.setCell ⟨g11, 0, none⟩ (.string ⟨#[c]⟩)).setCell ⟨g11, 1, none⟩ (.int .i64 k)).setCell ⟨g11, 2, none⟩ (.int .i64 j)) = w7 at HS7 HB7 HB71 ⊢
                  
         have HS8 : Aside0 (ChSt w w7.drew w.heap.size (w.heap.size + 1 + 1) (w.heap.size + 1) n3 #[.string s, .slice (some ad) l.length cp] t D3) := ⟨HS7.out.step (below_drew (Below.refl _ _))⟩
         have HB8 := Aside0.mk (blk_drew HB7.out)
         have HB81 := Aside0.mk (blk_drew HB71.out)
         clear HS7 HB7 HB71
         obtain ⟨hb, ehb⟩ : ∃ hb, hasB D3 c k j = hb := ⟨_, rfl⟩
         obtain ⟨sb, esb⟩ : ∃ sb, splitB D3 t r k j = sb := ⟨_, rfl⟩
         have Hhb := Aside0.mk ehb
         have Hsb := Aside0.mk esb
         clear ehb esb
         refine start_ (n := 15) (S := fun w' => w'.cell? ⟨g10, 1, none⟩ = some (.string sr) ∧ w'.cell? ⟨g11, 0, none⟩ = some (.string ⟨#[c]⟩) ∧ w'.cell? ⟨g11, 1, none⟩ = some (.int .i64 k) ∧ w'.cell? ⟨g11, 2, none⟩ = some (.int .i64 j) ∧ w'.cell? ⟨w.heap.size + 1 + 1, 3, none⟩ = some (.map (some (w.heap.size + 1))) ∧ (Instr.lookup 170 (.map (some (w.heap.size + 1))) (.agg #[.string ⟨#[c]⟩, .int .i64 k, .int .i64 j]) false).run Tryd.prog w' = .ok (.bool hb) w') (ds := []) #[false, false, false, false, false, false, false, false, false, false, false, false, false, false, false] (by kernel_rfl) rfl rfl ⟨(blk_cell HB8.out 1).trans rfl, (blk_cell HB81.out 0).trans rfl, (blk_cell HB81.out 1).trans rfl, (blk_cell HB81.out 2).trans rfl, HS8.out.ch.has, by have hlk := has_look HS8.out.ch.own c k j (by omega) (by omega); rw [Hhb.out] at hlk; exact hlk⟩ (fun hHeld => ?_)
         generalize w7.drew = w8 at HS8 HB8 HB81 hHeld ⊢
         cases hb
         case true =>
          refine pk 0 43 ?_
          refine pk 1 44 ?_
          refine pk 2 45 ?_
          refine tk 3 46 hHeld ?_
          refine tk 4 47 hHeld ?_
          refine tk 5 48 hHeld ?_
          refine pk 6 49 ?_
          refine pk 7 50 ?_
          refine puk 8 51 ?_
          refine puk 9 52 ?_
          refine puk 10 53 ?_
          refine puk 11 54 ?_
          refine puk 12 55 ?_
          refine puk 13 56 ?_
          refine pk 14 57 ?_
          refine done_ (by kernel_rfl) ?_
          go_wp2_with fail
          go_roundg (l.length - (q + 1))
          case measure => have := HQ.out; omega
          case rel =>
           refine ⟨ch, n3, D3, q + 1, rfl, by first | rfl | go_num, HS8, ⟨HI3.out.skip (p := (c, r)) (i := k) (j := j) (Or.inl (hasB_iff.1 Hhb.out)) fun p' i' j' h => ?_⟩, HN3, ⟨rfl, by omega⟩⟩
           obtain ⟨h1, h2, h3, h4⟩ := h
           rcases h4 with h4 | h4 | ⟨h4, h5, h6⟩
           ·exact Or.inl ⟨h1, h2, h3, Or.inl h4⟩
           ·exact Or.inl ⟨h1, h2, h3, Or.inr (Or.inl h4)⟩
           rw [HQ1.out] at h6
           rcases List.mem_append.1 h6 with h6 | h6
           ·exact Or.inl ⟨h1, h2, h3, Or.inr (Or.inr ⟨h4, h5, h6⟩)⟩
           exact Or.inr ⟨List.mem_singleton.1 h6, h4, h5⟩
         case false =>
          have Hsp : Aside0 (∀ W, ChSt w W w.heap.size (w.heap.size + 1 + 1) (w.heap.size + 1) n3 #[.string s, .slice (some ad) l.length cp] t D3 → Calls Tryd.prog 155 #[.pointer (some ⟨w.heap.size + 1 + 1, 0, none⟩), .string sr, .int .i64 k, .int .i64 j] W fun e w' => e = .returned (.bool sb) ∧ Below W.heap.size W w') := ⟨fun W hW => by
           have := split_calls (w.heap.size + 1 + 1) (w.heap.size + 1) n3 #[.string s, .slice (some ad) l.length cp] t D3 (by omega) r k j W (by have := HP2.out.2.2; omega) hW.ch hkj hj
           rw [HSR.out, Hsb.out] at this
           exact this⟩
          cases sb
          case false =>
           refine pk 0 43 ?_
           refine pk 1 44 ?_
           refine pk 2 45 ?_
           refine tk 3 46 hHeld ?_
           refine tk 4 47 hHeld ?_
           refine tk 5 48 hHeld ?_
           refine pk 6 49 ?_
           refine pk 7 50 ?_
           refine pk 8 51 ?_
           refine pk 9 52 ?_
           refine tk 10 53 hHeld ?_
           refine pk 11 54 ?_
           refine pk 12 55 ?_
           refine ok_ 13 (some 56) (fun K hK => ?_)
           refine goes_ Tryd.func155 (by kernel_rfl) rfl #[.pointer (some ⟨w.heap.size + 1 + 1, 0, none⟩), .string sr, .int .i64 k, .int .i64 j] (by rfl) rfl rfl (by (try simp only [List.map_toArray, List.map_cons, List.map_nil]); first | done | rfl) ?_
           with_reducible refine (Hsp.out _ HS8.out).mono ?_
           rintro e w9 ⟨rfl, hB9⟩
           refine ⟨_, rfl, ?_⟩
           have HS9 := Aside0.mk (HS8.out.step hB9)
           have HB9 := Aside0.mk (blk_below HB8.out hB9)
           have HB91 := Aside0.mk (blk_below HB81.out hB9)
           clear hB9 HS8 HB8 HB81
           refine hK.out _ _ ⟨(blk_cell HB9.out 1).trans rfl, (blk_cell HB91.out 0).trans rfl, (blk_cell HB91.out 1).trans rfl, (blk_cell HB91.out 2).trans rfl, HS9.out.ch.has, by have hlk := has_look HS9.out.ch.own c k j (by omega) (by omega); rw [Hhb.out] at hlk; exact hlk⟩ (fun hHeld => ?_)
           clear hK K
           refine norm_ (a' := ?_) ?_ ?_
           rotate_left
           ·show Act.put _ (some 56) _ = _
            simp only [Act.put, List.setIfInBounds_toArray, List.set_cons_zero, List.set_cons_succ, i64_w, i32_w]
            rfl
           refine pk 14 57 ?_
           refine done_ (by kernel_rfl) ?_
           go_wp2_with fail
           go_roundg (l.length - (q + 1))
           case measure => have := HQ.out; omega
           case rel =>
            refine ⟨ch, n3, D3, q + 1, rfl, by first | rfl | go_num, HS9, ⟨HI3.out.skip (p := (c, r)) (i := k) (j := j) (Or.inr (fun h => by have := splitB_iff.2 h; rw [Hsb.out] at this; cases this)) fun p' i' j' h => ?_⟩, HN3, ⟨rfl, by omega⟩⟩
            obtain ⟨h1, h2, h3, h4⟩ := h
            rcases h4 with h4 | h4 | ⟨h4, h5, h6⟩
            ·exact Or.inl ⟨h1, h2, h3, Or.inl h4⟩
            ·exact Or.inl ⟨h1, h2, h3, Or.inr (Or.inl h4)⟩
            rw [HQ1.out] at h6
            rcases List.mem_append.1 h6 with h6 | h6
            ·exact Or.inl ⟨h1, h2, h3, Or.inr (Or.inr ⟨h4, h5, h6⟩)⟩
            exact Or.inr ⟨List.mem_singleton.1 h6, h4, h5⟩
          case true =>
           refine pk 0 43 ?_
           refine pk 1 44 ?_
           refine pk 2 45 ?_
           refine tk 3 46 hHeld ?_
           refine tk 4 47 hHeld ?_
           refine tk 5 48 hHeld ?_
           refine pk 6 49 ?_
           refine pk 7 50 ?_
           refine pk 8 51 ?_
           refine pk 9 52 ?_
           refine tk 10 53 hHeld ?_
           refine pk 11 54 ?_
           refine pk 12 55 ?_
           refine ok_ 13 (some 56) (fun K hK => ?_)
           refine goes_ Tryd.func155 (by kernel_rfl) rfl #[.pointer (some ⟨w.heap.size + 1 + 1, 0, none⟩), .string sr, .int .i64 k, .int .i64 j] (by rfl) rfl rfl (by (try simp only [List.map_toArray, List.map_cons, List.map_nil]); first | done | rfl) ?_
           with_reducible refine (Hsp.out _ HS8.out).mono ?_
           rintro e w9 ⟨rfl, hB9⟩
           refine ⟨_, rfl, ?_⟩
           have HS9 := Aside0.mk (HS8.out.step hB9)
           have HB9 := Aside0.mk (blk_below HB8.out hB9)
           have HB91 := Aside0.mk (blk_below HB81.out hB9)
           clear hB9 HS8 HB8 HB81
           refine hK.out _ _ ⟨(blk_cell HB9.out 1).trans rfl, (blk_cell HB91.out 0).trans rfl, (blk_cell HB91.out 1).trans rfl, (blk_cell HB91.out 2).trans rfl, HS9.out.ch.has, by have hlk := has_look HS9.out.ch.own c k j (by omega) (by omega); rw [Hhb.out] at hlk; exact hlk⟩ (fun hHeld => ?_)
           clear hK K
           refine norm_ (a' := ?_) ?_ ?_
           rotate_left
           ·show Act.put _ (some 56) _ = _
            simp only [Act.put, List.setIfInBounds_toArray, List.set_cons_zero, List.set_cons_succ, i64_w, i32_w]
            rfl
           refine pk 14 57 ?_
           refine done_ (by kernel_rfl) ?_
           go_upto_region 16 with fail
           have Hnot : Aside0 (¬ chartD D3 c k j) := ⟨fun h => by have := hasB_iff.2 h; rw [Hhb.out] at this; cases this⟩
           have Hlt : Aside0 (openN t.size (putC (chartD D3) c k j) < openN t.size (chartD D3)) := ⟨openN_less (i := k) (j := j) (fun c i j hf => Or.inr hf) (mem_gridL.2 ⟨HP2.out.1, by omega, hj⟩) Hnot.out (Or.inl ⟨rfl, rfl, rfl⟩)⟩
           have HS10 : Aside0 (ChSt w w9.drew w.heap.size (w.heap.size + 1 + 1) (w.heap.size + 1) n3 #[.string s, .slice (some ad) l.length cp] t D3) := ⟨HS9.out.step (below_drew (Below.refl _ _))⟩
           have HB10 := Aside0.mk (blk_drew HB9.out)
           have HB101 := Aside0.mk (blk_drew HB91.out)
           clear HS9 HB9 HB91
           refine start_ (n := 6) (S := fun w' => w'.cell? ⟨g11, 0, none⟩ = some (.string ⟨#[c]⟩) ∧ w'.cell? ⟨g11, 1, none⟩ = some (.int .i64 k) ∧ w'.cell? ⟨g11, 2, none⟩ = some (.int .i64 j) ∧ w'.cell? ⟨w.heap.size + 1 + 1, 3, none⟩ = some (.map (some (w.heap.size + 1)))) (ds := []) #[false, false, false, false, false, false] (by kernel_rfl) rfl rfl ⟨(blk_cell HB101.out 0).trans rfl, (blk_cell HB101.out 1).trans rfl, (blk_cell HB101.out 2).trans rfl, HS10.out.ch.has⟩ (fun hHeld => ?_)
           generalize w9.drew = w10' at HS10 HB10 HB101 hHeld ⊢
           obtain ⟨w11, hup, hown, hgr⟩ := HS10.out.ch.own.update partKeyed Tryd.underlying170 (by have := HN3.out; unfold maxLen; have h1 : (t.size + 1) * (t.size + 1) ≤ 1001 * 1001 := Nat.mul_le_mul (by omega) (by omega); omega) (partKey ⟨#[c]⟩ k j (by show 1 ≤ maxLen; unfold maxLen; omega) (i64wf (by omega) (by omega)) (i64wf (by omega) (by omega))) (plainElem_bool (H := Unit) Tryd.underlying4 true)
           have HS11 := Aside0.mk (HS10.out.put hown hgr)
           have HB112 := Aside0.mk ((hgr.block g11 (Array.getElem?_eq_some_iff.1 HB101.out).1 (HS10.out.noMap HB101.out)).trans HB101.out)
           have Hput := Aside0.mk (chart_put (c := c) (i := k) (j := j) HS10.out.ch.own (by omega) (by omega))
           unfold partV at hup
           clear hown hgr
           generalize D3.put (partLit ⟨#[c]⟩ k j) (.lit (.bool true)) = D4 at HS11 Hput
           refine pk 0 58 ?_
           refine pk 1 59 ?_
           refine pk 2 60 ?_
           refine tk 3 61 hHeld ?_
           refine tk 4 62 hHeld ?_
           refine ok_ 5 none (fun K hK => ?_)
           refine skip_ (w1 := w11) (by rfl) rfl ?hrun ?_
           case hrun => go_simp
           refine hK.out _ _ ⟨(blk_cell HB112.out 0).trans rfl, (blk_cell HB112.out 1).trans rfl, (blk_cell HB112.out 2).trans rfl, HS11.out.ch.has⟩ (fun hHeld => ?_)
           clear hK K
           refine done_ (by kernel_rfl) ?_
           go_wp2_with fail
           go_roundg (l.length - (q + 1))
           case measure => have := HQ.out; omega
           case rel =>
            refine ⟨true, n3 + 1, D4, q + 1, rfl, by first | rfl | go_num, HS11, ⟨by rw [Hput.out]; exact HI3.out.put (p := (c, r)) (i := k) (j := j) HP2.out.2.1 HP2.out.1 hkj (by rw [Htl.out]; exact hj) Hnot.out (splitB_iff.1 Hsb.out)⟩, ⟨by rw [Hput.out]; have := HN3.out; have := Hlt.out; omega⟩, ⟨rfl, by omega⟩⟩
end Go.Proofs.YtiibnkibckklgaaDoor.P
namespace Go.Proofs.YtiibnkibckklgaaDoor.P
open Go.RowKit Go.Maps Go.Proofs.YtiibnkibckklgaaDoorW.PrintWords Go.Proofs.YtiibnkibckklgaaDoorW.PrintLast Go.Proofs.YtiibnkibckklgaaDoorW.PrintMore
set_option linter.unusedVariables false
set_option linter.unusedSimpArgs false
set_option maxHeartbeats 4000000 in
set_option maxRecDepth 100000 in
theorem impl_isDerived.calls (a0_0 : ByteArray) (A0_1 : Option Addr) (c0_1 : Nat) (l0_1 : List (S46)) (a1 : ByteArray) (r : Bool) (w : World) (hr0_1 : Kd.C k46 w A0_1 l0_1.length l0_1) (hc0_1 : l0_1.length ≤ c0_1) (h : impl_isDerived.f a0_0 l0_1 a1 = some r) :
  Calls Tryd.prog 97 #[.agg #[.string a0_0, .slice A0_1 l0_1.length c0_1], .string a1] w fun e w' => e = .returned (.bool r) ∧ Below w.heap.size w w' := by
 unfold impl_isDerived.f at h
 by_cases hg : gramOkB a0_0 l0_1 = true ∧ a1.size ≤ 1000
 case neg => rw [if_neg hg] at h; cases h
 rw [if_pos hg] at h
 obtain rfl := Option.some.inj h
 clear h
 obtain ⟨c, e, hb⟩ := (gramOkB_good hg.1).start
 obtain rfl : a0_0 = ⟨#[c]⟩ := one_bytes e
 have Hch : Aside0 (∀ W, Below w.heap.size w W → Calls Tryd.prog 133 #[.agg #[.string ⟨#[c]⟩, .slice A0_1 l0_1.length c0_1], .string a1] W fun e w' => ∃ cb mb n gv D, e = .returned (.pointer (some ⟨cb, 0, none⟩)) ∧ ChartAt w' cb mb n gv a1 D ∧ Sound (prods l0_1) a1.data.toList (chartD D) ∧ Closed (prods l0_1) a1.data.toList (chartD D) ∧ Below W.heap.size W w') := ⟨fun W hW =>
  (chartOf_calls ⟨#[c]⟩ A0_1 c0_1 l0_1 a1 W (Kd.C_below hr0_1 hW) hc0_1 hg.1 hg.2).mono (fun e w' h => h.out)⟩
 have Hres : Aside0 (∀ D, Sound (prods l0_1) a1.data.toList (chartD D) ∧ Closed (prods l0_1) a1.data.toList (chartD D) → derB D a1 c 0 a1.size = comesB ⟨#[c]⟩ l0_1 a1) := ⟨fun D hD => by
  rw [Bool.eq_iff_iff, derB_iff, comesB_iff, chart_is hD.1 hD.2 (Nat.zero_le _) (Nat.le_of_eq (size_toList a1)), size_toList, part_all]
  rfl⟩
 have ht : a1.size ≤ 1000 := hg.2
 have HB0 := Aside0.mk (Below.refl w.heap.size w)
 clear hr0_1 hc0_1 hg e hb
 generalize comesB ⟨#[c]⟩ l0_1 a1 = z at Hres
 go_enter Tryd.func97, Tryd.ntmps97
 go_upto_region 1 with (first | ((with_reducible refine gate_dst (N := 2) rfl ?_); refine box_event ?hg (N := 2) ?hd (cs := #[.string ⟨#[c]⟩, .slice A0_1 l0_1.length c0_1]) (t := 25) ?hr ?_; (case hd => rfl); (case hg => rfl); (case hr => first | (go_simp; done) | (go_simp; rfl)); intro gb hgb w2 hbox hb; have BK0 := Aside0.mk hbox; have HB1 := Aside0.mk (below_step HB0.out hb); clear hb hbox hgb HB0))
 have BK1 := Aside0.mk (blk_drew BK0.out)
 have HB2 := Aside0.mk (below_drew HB1.out)
 clear BK0 HB1
 refine start_ (n := 9) (S := fun w' => w'.cell? ⟨gb, 0, none⟩ = some (.string ⟨#[c]⟩) ∧ w'.cell? ⟨gb, 1, none⟩ = some (.slice A0_1 l0_1.length c0_1)) (ds := []) #[false, false, false, false, false, false, false, false, false] (by kernel_rfl) rfl rfl ⟨(blk_cell BK1.out 0).trans rfl, (blk_cell BK1.out 1).trans rfl⟩ (fun hHeld => ?_)
 generalize w2.drew = w3 at BK1 HB2 hHeld ⊢
 have BK := BK1
 have HB := HB2
 clear BK1 HB2
 refine tk 0 5 hHeld ?_
 refine pk 1 6 ?_
 refine pk 3 8 ?_
 refine tk 4 9 hHeld ?_
 refine pk 5 10 ?_
 refine pk 6 11 ?_
 refine ok_ 2 (some 7) (fun K hK => ?_)
 refine goes_ Tryd.func133 (by kernel_rfl) rfl #[.agg #[.string ⟨#[c]⟩, .slice A0_1 l0_1.length c0_1], .string a1] (by rfl) rfl rfl (by (try simp only [List.map_toArray, List.map_cons, List.map_nil]); first | done | rfl) ?_
 refine (Hch.out _ HB.out).mono ?_
 rintro e w4 ⟨cb, mb, n, gv, D, rfl, hA, hS, hC, hB4⟩
 refine ⟨_, rfl, ?_⟩
 have HA := Aside0.mk hA
 have HSC := Aside0.mk (And.intro hS hC)
 have HB4 := Aside0.mk (below_step HB.out hB4)
 have HK4 := Aside0.mk (blk_below BK.out hB4)
 clear hA hS hC hB4
 refine hK.out _ _ ⟨(blk_cell HK4.out 0).trans rfl, (blk_cell HK4.out 1).trans rfl⟩ (fun hHeld => ?_)
 clear hK K
 refine norm_ (a' := ?_) ?_ ?_
 rotate_left
 ·show Act.put _ (some 7) _ = _
  simp only [Act.put, List.setIfInBounds_toArray, List.set_cons_zero, List.set_cons_succ, i64_w, i32_w]
  rfl
 refine ok_ 7 (some 12) (fun K hK => ?_)
 refine goes_ Tryd.func134 (by kernel_rfl) rfl #[.pointer (some ⟨cb, 0, none⟩), .string ⟨#[c]⟩, .int .i64 ((0 : Nat) : Int), .int .i64 ((a1.size : Nat) : Int)] (by rfl) rfl rfl (by (try simp only [List.map_toArray, List.map_cons, List.map_nil]); first | done | rfl) ?_
 refine (derives_calls cb mb n gv a1 D c 0 a1.size w4 HA.out (Nat.zero_le _) (Nat.le_refl _) (by omega)).mono ?_
 rintro e w5 ⟨rfl, hB5⟩
 refine ⟨_, rfl, ?_⟩
 have HB5 := Aside0.mk (below_step HB4.out hB5)
 have HK5 := Aside0.mk (blk_below HK4.out hB5)
 clear hB5
 refine hK.out _ _ ⟨(blk_cell HK5.out 0).trans rfl, (blk_cell HK5.out 1).trans rfl⟩ (fun hHeld => ?_)
 clear hK K
 refine norm_ (a' := ?_) ?_ ?_
 rotate_left
 ·show Act.put _ (some 12) _ = _
  simp only [Act.put, List.setIfInBounds_toArray, List.set_cons_zero, List.set_cons_succ, i64_w, i32_w]
  rfl
 refine pk 8 4 ?_
 refine done_ (by kernel_rfl) ?_
 go_wp2_with fail
 go_ret
 exact ⟨by rw [Hres.out D HSC.out]; rfl, HB5.out⟩
end Go.Proofs.YtiibnkibckklgaaDoor.P
namespace Go.Proofs.YtiibnkibckklgaaDoor.P
open Go.RowKit Go.Proofs.YtiibnkibckklgaaDoorW.PrintWords Go.Proofs.YtiibnkibckklgaaDoorW.PrintLast Go.Proofs.YtiibnkibckklgaaDoorW.PrintMore
attribute [local go_sem] max2_int min2_int max_two min_two max_three min_three max_four min_four
set_option linter.unusedVariables false
set_option linter.unusedSimpArgs false
/-! ### impl_everySign: function 72 -/
def impl_everySign.l0 : Nat → ByteArray → List (S46) → Int → Int → Option (ByteArray)
 | 0, _, _, _, _ => none
 | k + 1, x3, x9, x10, x11 => if x11 < x10 then (if 0 ≤ x11 then (if x11 < (x9.length : Int) then (if ((rd_T46 x9 x11).f0).size + ((rd_T46 x9 x11).f1).size ≤ 9223372036854775807 then (if x3.size + (((rd_T46 x9 x11).f0) ++ ((rd_T46 x9 x11).f1)).size ≤ 9223372036854775807 then (impl_everySign.l0 k (x3 ++ (((rd_T46 x9 x11).f0) ++ ((rd_T46 x9 x11).f1))) x9 x10 (wrap64 (x11 + 1))) else (none)) else (none)) else (none)) else (none)) else (some x3)
def impl_everySign.f (k : Nat) (a0_0 : ByteArray) (l0_1 : List (S46)) : Option (ByteArray) := impl_everySign.l0 k a0_0 l0_1 (l0_1.length : Int) 0
theorem impl_everySign.mono_l : ∀ k, (∀ y0 y1 y2 y3, LeO (impl_everySign.l0 k y0 y1 y2 y3) (impl_everySign.l0 (k + 1) y0 y1 y2 y3))
 | 0 => fun _ _ _ _ r h => by simp [impl_everySign.l0] at h
 | k + 1 => by
  have ih0 := impl_everySign.mono_l k
  intro y0 y1 y2 y3
  unfold impl_everySign.l0
  repeat' first
  | (with_reducible exact ih0 _ _ _ _)
  | (with_reducible exact LeO.refl _)
  | (with_reducible exact LeO.none _)
  | (with_reducible refine LeO.ite ?_ ?_)
  | (with_reducible refine LeO.bind ?_ (fun _ => ?_))
  | exact ih0 _ _ _ _
  | exact LeO.none _
  | refine LeO.ite ?_ ?_
  | refine LeO.bind ?_ (fun _ => ?_)
theorem impl_everySign.mono : ∀ a0 a1 k, LeO (impl_everySign.f k a0 a1) (impl_everySign.f (k + 1) a0 a1) := by
 intro a0 a1 k
 have ih0 := impl_everySign.mono_l k
 unfold impl_everySign.f
 repeat' first
   | (with_reducible exact ih0 _ _ _ _)
   | (with_reducible exact LeO.refl _)
   | (with_reducible exact LeO.none _)
   | (with_reducible refine LeO.ite ?_ ?_)
   | (with_reducible refine LeO.bind ?_ (fun _ => ?_))
   | exact ih0 _ _ _ _
   | exact LeO.none _
   | refine LeO.ite ?_ ?_
   | refine LeO.bind ?_ (fun _ => ?_)
set_option maxHeartbeats 8000000 in
set_option maxRecDepth 100000 in
theorem impl_everySign.calls (k : Nat) (a0_0 : ByteArray) (A0_1 : Option Addr) (c0_1 : Nat) (l0_1 : List (S46)) (r : ByteArray) (w : World) (hr0_1 : Kd.C k46 w A0_1 l0_1.length l0_1) (hc0_1 : l0_1.length ≤ c0_1) (h : impl_everySign.f k a0_0 l0_1 = some r) :
  Calls Tryd.prog 72 #[.agg #[.string a0_0, .slice A0_1 l0_1.length c0_1]] w fun e w' => e = .returned (.string r) ∧ Below w.heap.size w w' := by
 have hu25 := Tryd.underlying25
 have hu46 := Tryd.underlying46
 have HR0_1 := Aside0.mk hr0_1
 have HC0_1 := Aside0.mk hc0_1
 clear hr0_1 hc0_1
 have HB := Aside0.mk (Below.refl w.heap.size w)
 have H : (impl_everySign.l0 k a0_0 l0_1 (l0_1.length : Int) 0) = some r := h
 clear h
 have H' := Aside0.mk H
 clear H
 go_enter Tryd.func72, Tryd.ntmps72
 go_wp2_with (first | ((with_reducible refine gate_dst (N := 1) rfl ?_); refine box_event ?hg (N := 1) ?hd (cs := #[.string a0_0, .slice A0_1 l0_1.length c0_1]) (t := 25) ?hr ?_; (case hd => rfl); (case hg => rfl); (case hr => first | (go_simp; done) | (go_simp; rfl)); intro gb101 hg w2 hbox hb; refine rn4 (below_step (by repeat (first | (with_reducible first | exact HB.out | apply below_alloc | apply pw_below_drewN | apply below_drew1) | exact HB.out)) hb) (hbox) ((by rw [hg]; exact (below_size (by repeat (first | (with_reducible first | exact HB.out | apply below_alloc | apply pw_below_drewN | apply below_drew1) | exact HB.out))) : w.heap.size ≤ gb101)) ((by rw [hg]; exact (below_size (by repeat (first | (with_reducible first | exact HB.out | apply below_alloc | apply pw_below_drewN | apply below_drew1) | exact HB.out))) : w.heap.size ≤ gb101)) ?_; clear HB; intro HB BK101 GW101 GE101; clear hb hbox hg; have hcz3_0 : w2.cell? ⟨gb101, 0, none⟩ = some (.string a0_0) := (blk_cell BK101.out 0).trans rfl; have hcz3_1 : w2.cell? ⟨gb101, 1, none⟩ = some (.slice A0_1 l0_1.length c0_1) := (blk_cell BK101.out 1).trans rfl; have hfz3_0 := blk_frozen BK101.out 0; have hfz3_1 := blk_frozen BK101.out 1))
 go_loopg [3, 11] k (fun kq v3 v11 w' => ∃ (x3_1 : ByteArray) (x11_1 : Int), v3 = .string x3_1 ∧ v11 = .int .i64 x11_1 ∧ Aside0 (impl_everySign.l0 kq x3_1 l0_1 (l0_1.length : Int) x11_1 = some r) ∧ Aside0 (kq ≤ k) ∧ Aside0 (w'.heap[gb101]? = some (.cells #[.string a0_0, (.slice A0_1 l0_1.length c0_1)] 25 (0, 0))) ∧ Aside0 (Below w.heap.size w w'))
 case atStart => exact ⟨(a0_0), (0), (by first | rfl | (simp; done) | (simp [*]; done)), (by first | rfl | (simp; done) | (simp [*]; done)), H', ⟨Nat.le_refl _⟩, ⟨by (with_reducible repeat (first | refine blk_drewN ?_ _ | refine blk_drew ?_ | refine blk_alloc ?_ _)); exact BK101.out⟩, ⟨by repeat (first | (with_reducible first | exact HB.out | apply below_alloc | apply pw_below_drewN | apply below_drew1 | refine below_set ?_ GE101.out) | exact HB.out)⟩⟩
 case round =>
  clear H'
  try clear p2
  try clear hcz3_0
  try clear hcz3_1
  try clear hfz3_0
  try clear hfz3_1
  obtain ⟨x3_1, x11_1, rfl, rfl, HA, HK1, BK101, HB⟩ := hrel
  cases gk with
  | zero => exact absurd HA.out (by simp [impl_everySign.l0])
  | succ k1 =>
   have H := HA.out
   clear HA
   simp only [impl_everySign.l0] at H
   by_cases c4 : x11_1 < (l0_1.length : Int)
   rotate_left
   ·rw [if_neg c4] at H
    have c4b0 : decide (x11_1 < (l0_1.length : Int)) = false := decide_eq_false c4
    clear c4
    obtain rfl := Option.some.inj H
    go_wp2
    go_ret
    exact ⟨by first | rfl | (simp [errW_none, errW_some] <;> rfl) | (simp [*, errW_none, errW_some] <;> rfl), by repeat (first | (with_reducible first | exact HB.out | apply below_alloc | apply pw_below_drewN | apply below_drew1 | refine below_set ?_ GE101.out) | exact HB.out)⟩
   rw [if_pos c4] at H
   have c4b0 : decide (x11_1 < (l0_1.length : Int)) = true := decide_eq_true c4
   clear c4
   by_cases c5 : 0 ≤ x11_1
   rotate_left
   ·rw [if_neg c5] at H
    exact absurd H (by simp)
   rw [if_pos c5] at H
   have c5b0 : decide (0 ≤ x11_1) = true := decide_eq_true c5
   clear c5
   by_cases c6 : x11_1 < (l0_1.length : Int)
   rotate_left
   ·rw [if_neg c6] at H
    exact absurd H (by simp)
   rw [if_pos c6] at H
   have c6b0 : decide (x11_1 < (l0_1.length : Int)) = true := decide_eq_true c6
   clear c6
   by_cases c7 : ((rd_T46 l0_1 x11_1).f0).size + ((rd_T46 l0_1 x11_1).f1).size ≤ 9223372036854775807
   rotate_left
   ·rw [if_neg c7] at H
    exact absurd H (by simp)
   rw [if_pos c7] at H
   have c7b0 := eq_true c7
   have c7b1 : decide (((rd_T46 l0_1 x11_1).f0).size + ((rd_T46 l0_1 x11_1).f1).size ≤ 9223372036854775807) = true := decide_eq_true c7
   try have c7b2 : (9223372036854775807 < ((rd_T46 l0_1 x11_1).f0).size + ((rd_T46 l0_1 x11_1).f1).size) = False := eq_false (Nat.not_lt.2 c7)
   by_cases c8 : x3_1.size + (((rd_T46 l0_1 x11_1).f0) ++ ((rd_T46 l0_1 x11_1).f1)).size ≤ 9223372036854775807
   rotate_left
   ·rw [if_neg c8] at H
    exact absurd H (by simp)
   rw [if_pos c8] at H
   have c8b0 := eq_true c8
   have c8b1 : decide (x3_1.size + (((rd_T46 l0_1 x11_1).f0) ++ ((rd_T46 l0_1 x11_1).f1)).size ≤ 9223372036854775807) = true := decide_eq_true c8
   try have c8b2 : (9223372036854775807 < x3_1.size + (((rd_T46 l0_1 x11_1).f0) ++ ((rd_T46 l0_1 x11_1).f1)).size) = False := eq_false (Nat.not_lt.2 c8)
   have H' := Aside0.mk H
   clear H
   have p102 : 0 ≤ (x11_1 : Int) := of_decide_eq_true (by first | (with_reducible assumption) | assumption)
   have q102 : x11_1 < (l0_1.length : Int) := of_decide_eq_true (by first | (with_reducible assumption) | assumption)
   obtain ⟨ad102, e102, hx102_0, hx102_1⟩ := at_T46 HR0_1.out x11_1 p102 q102
   cases e102
   replace hx102_0 := (HB.out.cell (World.block_lt_of_cell? w _ hx102_0)).trans hx102_0
   replace hx102_1 := (HB.out.cell (World.block_lt_of_cell? w _ hx102_1)).trans hx102_1
   replace p102 := eq_true p102
   replace q102 := eq_true q102
   go_wp2_with (first | ((with_reducible refine gate_dst (N := 5) rfl ?_); refine box_event ?hg (N := 5) ?hd (cs := #[.string (⟨#[]⟩ : ByteArray), .string (⟨#[]⟩ : ByteArray)]) (t := 46) ?hr ?_; (case hd => rfl); (case hg => rfl); (case hr => first | (go_simp; done) | (go_simp; rfl)); intro gb103 hg w9 hbox hb; refine rn7 (blk_below (g := gb101) (o := .cells #[.string a0_0, .slice (some ad102) l0_1.length c0_1] 25 (0, 0)) (by (with_reducible repeat (first | refine blk_drewN ?_ _ | refine blk_drew ?_ | refine blk_alloc ?_ _)); exact BK101.out) hb) (below_step (by repeat (first | (with_reducible first | exact HB.out | apply below_alloc | apply pw_below_drewN | apply below_drew1 | refine below_set ?_ GE101.out) | exact HB.out)) hb) (hbox) ((by rw [hg]; exact (below_size (by repeat (first | (with_reducible first | exact HB.out | apply below_alloc | apply pw_below_drewN | apply below_drew1 | refine below_set ?_ GE101.out) | exact HB.out))) : w.heap.size ≤ gb103)) ((by rw [hg]; exact (below_size (by repeat (first | (with_reducible first | exact HB.out | apply below_alloc | apply pw_below_drewN | apply below_drew1 | refine below_set ?_ GE101.out) | exact HB.out))) : w.heap.size ≤ gb103)) ((by rw [hg]; exact Nat.ne_of_lt (blk_lt (g := gb101) (o := .cells #[.string a0_0, .slice (some ad102) l0_1.length c0_1] 25 (0, 0)) (by (with_reducible repeat (first | refine blk_drewN ?_ _ | refine blk_drew ?_ | refine blk_alloc ?_ _)); exact BK101.out)) : gb101 ≠ gb103)) ((by rw [hg]; exact Nat.ne_of_gt (blk_lt (g := gb101) (o := .cells #[.string a0_0, .slice (some ad102) l0_1.length c0_1] 25 (0, 0)) (by (with_reducible repeat (first | refine blk_drewN ?_ _ | refine blk_drew ?_ | refine blk_alloc ?_ _)); exact BK101.out)) : gb103 ≠ gb101)) ?_; clear BK101 HB; intro BK101 HB BK103 GW103 GE103 NB101_103 NB103_101; clear hb hbox hg; have hnb10 := NB103_101.out; have hnc10 := NB101_103.out; have hcz11_0 : w9.cell? ⟨gb103, 0, none⟩ = some (.string (⟨#[]⟩ : ByteArray)) := (blk_cell BK103.out 0).trans rfl; have hcz11_1 : w9.cell? ⟨gb103, 1, none⟩ = some (.string (⟨#[]⟩ : ByteArray)) := (blk_cell BK103.out 1).trans rfl; have hfz11_0 := blk_frozen BK103.out 0; have hfz11_1 := blk_frozen BK103.out 1))
   go_roundg k1
   case measure => have := HK1.out; omega
   case rel => exact ⟨(x3_1 ++ (((rd_T46 l0_1 x11_1).f0) ++ ((rd_T46 l0_1 x11_1).f1))), (wrap64 (x11_1 + 1)), (by first | rfl | (simp; done) | (simp [*]; done)), (by first | rfl | (simp; done) | (simp [*]; done)), H', ⟨by have := HK1.out; omega⟩, ⟨by (with_reducible repeat (first | refine blk_drewN ?_ _ | refine blk_drew ?_ | refine blk_alloc ?_ _)); refine blk_far ?_ NB101_103.out _; (with_reducible repeat (first | refine blk_drewN ?_ _ | refine blk_drew ?_ | refine blk_alloc ?_ _)); refine blk_far ?_ NB101_103.out _; (with_reducible repeat (first | refine blk_drewN ?_ _ | refine blk_drew ?_ | refine blk_alloc ?_ _)); exact BK101.out⟩, ⟨by repeat (first | (with_reducible first | exact HB.out | apply below_alloc | apply pw_below_drewN | apply below_drew1 | refine below_set ?_ GE101.out | refine below_set ?_ GE103.out) | exact HB.out)⟩⟩
end Go.Proofs.YtiibnkibckklgaaDoor.P
namespace Go.Proofs.YtiibnkibckklgaaDoor.P
set_option linter.unusedVariables false
set_option linter.unusedSimpArgs false
open Go.RowKit Go.Proofs Go.Shelf Go.Proofs.YtiibnkibckklgaaDoorW.PrintWords
def everyB (s : ByteArray) (l : List RuleS) : ByteArray := l.foldl (fun t x => t ++ (x.f0 ++ x.f1)) s
def TinyG (s : ByteArray) (l : List RuleS) : Prop := s.size ≤ 1000000 ∧ l.length ≤ 1000 ∧ ∀ x ∈ l, x.f0.size ≤ 1000000 ∧ x.f1.size ≤ 1000000
instance instTinyDec (s : ByteArray) (l : List RuleS) : Decidable (TinyG s l) := by unfold TinyG; infer_instance
theorem TinyG.small {s : ByteArray} {l : List RuleS} (h : TinyG s l) : SmallG l := ⟨by have := h.2.1; omega, fun x hx => by have := h.2.2 x hx; omega⟩
theorem everyB_size (s : ByteArray) (l : List RuleS) (n : Nat) (hs : s.size ≤ n) (h : ∀ x ∈ l, x.f0.size ≤ 1000000 ∧ x.f1.size ≤ 1000000) : (everyB s l).size ≤ n + 2000000 * l.length := by
 induction l generalizing s n with
 | nil => simpa [everyB] using hs
 | cons x l ih =>
  have hx := h x List.mem_cons_self
  have := ih (s ++ (x.f0 ++ x.f1)) (n + 2000000) (by rw [ByteArray.size_append, ByteArray.size_append]; omega) (fun y hy => h y (List.mem_cons_of_mem _ hy))
  show (everyB (s ++ (x.f0 ++ x.f1)) l).size ≤ _
  rw [List.length_cons]
  omega
theorem impl_everySign.tot (s : ByteArray) (l : List RuleS) (h : TinyG s l) : Tot (fun k => impl_everySign.f k s l) (fun r => r = everyB s l) := by
 obtain ⟨h1, h2, h3⟩ := h
 have key : ∀ (d i : Nat) (t : ByteArray), i + d = l.length → t.size ≤ 1000000 + 2000000 * i → Tot (fun k => impl_everySign.l0 k t l (l.length : Int) (i : Int)) (fun r => r = everyB t (l.drop i)) := by
  intro d
  induction d with
  | zero =>
   intro i t hi ht
   refine Tot.step (fun k => by rw [impl_everySign.l0]) (Tot.neg (by omega) (Tot.ret ?_))
   rw [List.drop_eq_nil_of_le (by omega)]; rfl
  | succ d ih =>
   intro i t hi ht
   have hx := h3 _ (mem_rd l i (by omega))
   have hd : l.drop i = rd_T46 l (i : Int) :: l.drop (i + 1) := by
    rw [List.drop_eq_getElem_cons (by omega)]
    simp [rd_T46, List.getD_eq_getElem?_getD, show i < l.length by omega]
   rw [hd]
   refine Tot.step (fun k => by rw [impl_everySign.l0]) (Tot.pos (by omega) (Tot.pos (by omega) (Tot.pos (by omega) (Tot.pos (by omega) (Tot.pos (by rw [ByteArray.size_append]; omega) ?_)))))
   rw [w64 (by omega) (by omega)]
   exact ih (i + 1) _ (by omega) (by rw [ByteArray.size_append, ByteArray.size_append]; omega)
 have := key l.length 0 s (by omega) (by omega)
 simpa [impl_everySign.f] using this
def impl_GramBigs.f (a0_0 : ByteArray) (l0_1 : List (S46)) : Option (ByteArray) := if TinyG a0_0 l0_1 then some (if gramOkB a0_0 l0_1 = true then setB isBigB (everyB a0_0 l0_1) else ⟨#[]⟩) else none
def impl_GramSmalls.f (a0_0 : ByteArray) (l0_1 : List (S46)) : Option (ByteArray) := if TinyG a0_0 l0_1 then some (if gramOkB a0_0 l0_1 = true then setB isSmallB (everyB a0_0 l0_1) else ⟨#[]⟩) else none
theorem sets_cell {W w1 : World} (hb : Below W.heap.size W w1) : (∀ b o, b < W.heap.size → w1.cell? ⟨b, o, none⟩ = W.cell? ⟨b, o, none⟩) ∧ (∀ b o, b < W.heap.size → w1.frozen? ⟨b, o, none⟩ = W.frozen? ⟨b, o, none⟩) :=
 ⟨fun b o h => hb.cell (p := ⟨b, o, none⟩) h, fun b o h => hb.frozen (p := ⟨b, o, none⟩) h⟩
set_option maxHeartbeats 1000000 in
theorem impl_GramBigs.calls (a0_0 : ByteArray) (A0_1 : Option Addr) (c0_1 : Nat) (l0_1 : List (S46)) (r : ByteArray) (w : World) (hr0_1 : Kd.C k46 w A0_1 l0_1.length l0_1) (hc0_1 : l0_1.length ≤ c0_1) (h : impl_GramBigs.f a0_0 l0_1 = some r) :
  Calls Tryd.prog 23 #[.agg #[.string a0_0, .slice A0_1 l0_1.length c0_1]] w fun e w' => e = .returned (.string r) ∧ Below w.heap.size w w' := by
 unfold impl_GramBigs.f at h
 by_cases ht : TinyG a0_0 l0_1
 case neg => rw [if_neg ht] at h; cases h
 rw [if_pos ht] at h
 obtain ⟨k, b, hk, rfl⟩ := (impl_GramOk.tot a0_0 l0_1 ht.small).get
 have Hg := Lib.hid (fun W hr => impl_GramOk.calls k a0_0 A0_1 c0_1 l0_1 _ W hr hc0_1 hk)
 obtain ⟨m, e, hm, rfl⟩ := (impl_everySign.tot a0_0 l0_1 ht).get
 have He := Lib.hid (fun W hr => impl_everySign.calls m a0_0 A0_1 c0_1 l0_1 _ W hr hc0_1 hm)
 have hsz := everyB_size a0_0 l0_1 1000000 ht.1 ht.2.2
 have Hs := Lib.hid (fun W => setOf_big (everyB a0_0 l0_1) W (by have := ht.2.1; omega))
 have Hr := Lib.hid hr0_1
 have H := Option.some.inj h
 clear hr0_1 hk hm hsz h ht
 generalize gramOkB a0_0 l0_1 = b at Hg H
 generalize setB isBigB (everyB a0_0 l0_1) = v at Hs H
 generalize everyB a0_0 l0_1 = u at He Hs
 cases b
 ·obtain rfl : (⟨#[]⟩ : ByteArray) = r := by simpa using H
  clear H He Hs
  go_enter Tryd.func23, Tryd.ntmps23
  go_wp2_with (go_at_call 52; refine (Hg.out _ (by repeat (first | exact Hr.out | apply Kd.C_alloc | apply Kd.C_drewN | apply Kd.C_drew))).mono ?_; rintro e w' ⟨rfl, hB⟩)
  go_ret
  exact ⟨rfl, below_then ((Below.refl _ _).alloc (Nat.le_refl _) _) (by simp) (by simpa using hB)⟩
 obtain rfl : v = r := by simpa using H
 clear H
 go_enter Tryd.func23, Tryd.ntmps23
 go_wp2_with (first
  | (go_at_call 52; (refine (Hg.out _ (by repeat (first | exact Hr.out | apply Kd.C_alloc | apply Kd.C_drewN | apply Kd.C_drew))).mono ?_; rintro e w' ⟨rfl, hB⟩; obtain ⟨hc, hf⟩ := sets_cell hB; have hz : w.heap.size < w'.heap.size := Nat.lt_of_lt_of_le (Nat.lt_succ_self _) (by simpa using hB.size); have hW := Lib.hid (show Below w.heap.size w w' from below_then ((Below.refl _ _).alloc (Nat.le_refl _) _) (by simp) (by simpa using hB)); have Hr1 := Lib.hid (Kd.C_below Hr.out hW.out); clear hB))
  | (go_at_call 72; refine (He.out _ (by repeat (first | exact Hr1.out | apply Kd.C_alloc | apply Kd.C_drewN | apply Kd.C_drew))).mono ?_; rintro e w2 ⟨rfl, hB2⟩)
  | (go_at_call 71; refine (Hs.out _).mono ?_; rintro e w3 ⟨rfl, hB3⟩))
 go_ret
 exact ⟨rfl, below_step (below_step hW.out (by simpa using hB2)) (by simpa using hB3)⟩
set_option maxHeartbeats 1000000 in
theorem impl_GramSmalls.calls (a0_0 : ByteArray) (A0_1 : Option Addr) (c0_1 : Nat) (l0_1 : List (S46)) (r : ByteArray) (w : World) (hr0_1 : Kd.C k46 w A0_1 l0_1.length l0_1) (hc0_1 : l0_1.length ≤ c0_1) (h : impl_GramSmalls.f a0_0 l0_1 = some r) :
  Calls Tryd.prog 24 #[.agg #[.string a0_0, .slice A0_1 l0_1.length c0_1]] w fun e w' => e = .returned (.string r) ∧ Below w.heap.size w w' := by
 unfold impl_GramSmalls.f at h
 by_cases ht : TinyG a0_0 l0_1
 case neg => rw [if_neg ht] at h; cases h
 rw [if_pos ht] at h
 obtain ⟨k, b, hk, rfl⟩ := (impl_GramOk.tot a0_0 l0_1 ht.small).get
 have Hg := Lib.hid (fun W hr => impl_GramOk.calls k a0_0 A0_1 c0_1 l0_1 _ W hr hc0_1 hk)
 obtain ⟨m, e, hm, rfl⟩ := (impl_everySign.tot a0_0 l0_1 ht).get
 have He := Lib.hid (fun W hr => impl_everySign.calls m a0_0 A0_1 c0_1 l0_1 _ W hr hc0_1 hm)
 have hsz := everyB_size a0_0 l0_1 1000000 ht.1 ht.2.2
 have Hs := Lib.hid (fun W => setOf_small (everyB a0_0 l0_1) W (by have := ht.2.1; omega))
 have Hr := Lib.hid hr0_1
 have H := Option.some.inj h
 clear hr0_1 hk hm hsz h ht
 generalize gramOkB a0_0 l0_1 = b at Hg H
 generalize setB isSmallB (everyB a0_0 l0_1) = v at Hs H
 generalize everyB a0_0 l0_1 = u at He Hs
 cases b
 ·obtain rfl : (⟨#[]⟩ : ByteArray) = r := by simpa using H
  clear H He Hs
  go_enter Tryd.func24, Tryd.ntmps24
  go_wp2_with (go_at_call 52; refine (Hg.out _ (by repeat (first | exact Hr.out | apply Kd.C_alloc | apply Kd.C_drewN | apply Kd.C_drew))).mono ?_; rintro e w' ⟨rfl, hB⟩)
  go_ret
  exact ⟨rfl, below_then ((Below.refl _ _).alloc (Nat.le_refl _) _) (by simp) (by simpa using hB)⟩
 obtain rfl : v = r := by simpa using H
 clear H
 go_enter Tryd.func24, Tryd.ntmps24
 go_wp2_with (first
  | (go_at_call 52; (refine (Hg.out _ (by repeat (first | exact Hr.out | apply Kd.C_alloc | apply Kd.C_drewN | apply Kd.C_drew))).mono ?_; rintro e w' ⟨rfl, hB⟩; obtain ⟨hc, hf⟩ := sets_cell hB; have hz : w.heap.size < w'.heap.size := Nat.lt_of_lt_of_le (Nat.lt_succ_self _) (by simpa using hB.size); have hW := Lib.hid (show Below w.heap.size w w' from below_then ((Below.refl _ _).alloc (Nat.le_refl _) _) (by simp) (by simpa using hB)); have Hr1 := Lib.hid (Kd.C_below Hr.out hW.out); clear hB))
  | (go_at_call 72; refine (He.out _ (by repeat (first | exact Hr1.out | apply Kd.C_alloc | apply Kd.C_drewN | apply Kd.C_drew))).mono ?_; rintro e w2 ⟨rfl, hB2⟩)
  | (go_at_call 71; refine (Hs.out _).mono ?_; rintro e w3 ⟨rfl, hB3⟩))
 go_ret
 exact ⟨rfl, below_step (below_step hW.out (by simpa using hB2)) (by simpa using hB3)⟩
end Go.Proofs.YtiibnkibckklgaaDoor.P
namespace Go.Proofs.YtiibnkibckklgaaDoor.P
open Go.RowKit Go.Proofs.YtiibnkibckklgaaDoorW.PrintWords Go.Proofs.YtiibnkibckklgaaDoorW.PrintLast Go.Proofs.YtiibnkibckklgaaDoorW.PrintMore
attribute [local go_sem] max2_int min2_int max_two min_two max_three min_three max_four min_four
set_option linter.unusedVariables false
set_option linter.unusedSimpArgs false
theorem q84_1 {p : Prop} (h : p := by repeat (first | (with_reducible first | exact HB.out | apply below_alloc | apply pw_below_drewN | apply below_drew1 | refine below_set ?_ GE101.out) | exact HB.out)) : p := h
theorem q84_2 {p : Prop} (h : p := by (with_reducible repeat (first | refine blk_drewN ?_ _ | refine blk_drew ?_ | refine blk_alloc ?_ _)); exact BK101.out) : p := h
theorem q84_3 {p : Prop} (h : p := by repeat (first | exact (Kd.C_below HR0_1.out HB.out) | (with_reducible refine Kd.C_alloc ?_ _) | (with_reducible refine Kd.C_drewN ?_ _) | (with_reducible refine Kd.C_drew ?_))) : p := h
theorem q84_4 {p : Prop} (h : p := by (try simp only [List.map_toArray, List.map_cons, List.map_nil]); first | done | rfl | (simp only [List.length_drop, List.length_take]; rfl)) : p := h
theorem q84_5 {p : Prop} (h : p := by first | (with_reducible assumption) | assumption) : p := h
theorem q84_6 {p : Prop} (h : p := by first | rfl | (simp; done) | (simp [*]; done)) : p := h
theorem q84_7 {p : Prop} (h : p := by (with_reducible repeat (first | apply Kd.R_alloc | apply Kd.R_drewN | apply Kd.R_drew)); exact HO106.out) : p := h
theorem q84_8 {p : Prop} (h : p := by (with_reducible repeat (first | apply Kd.R_alloc | apply Kd.R_drewN | apply Kd.R_drew)); exact HO_20.out) : p := h
theorem q84_9 {p : Prop} (h : p := by (with_reducible repeat (first | apply Kd.R_alloc | apply Kd.R_drewN | apply Kd.R_drew)); exact HO_5.out) : p := h
/-! ### impl_AllWords: function 47 -/
mutual
noncomputable def impl_AllWords.j0 : Nat → Int → Bool → ByteArray → List (S46) → Option (List ByteArray)
 | 0, _, _, _, _ => none
 | k + 1, x1, x15, x102000, x102001 => if x15 = true then (some ([] : List ByteArray)) else ((impl_GramSmalls.f x102000 x102001).bind fun t107 => ((impl_wordsUpTo.f k t107 x1).bind fun t108 => (impl_AllWords.l0 k (([] : List ByteArray)) t108 (t108.length : Int) 0 x102000 x102001)))
noncomputable def impl_AllWords.l0 : Nat → List ByteArray → List ByteArray → Int → Int → ByteArray → List (S46) → Option (List ByteArray)
 | 0, _, _, _, _, _, _ => none
 | k + 1, x5, x20, x21, x22, x102000, x102001 => if x22 < x21 then (if 0 ≤ x22 then (if x22 < (x20.length : Int) then (if (x5.length : Int) < 60 then ((impl_isDerived.f x102000 x102001 (rdOf ByteArray.empty x20 x22)).bind fun t112 => (if t112 = true then (if x5.length < 8796093022208 then (impl_AllWords.l0 k (x5 ++ [rdOf ByteArray.empty x20 x22]) x20 x21 (wrap64 (x22 + 1)) x102000 x102001) else (none)) else (impl_AllWords.l0 k x5 x20 x21 (wrap64 (x22 + 1)) x102000 x102001))) else (impl_AllWords.l0 k x5 x20 x21 (wrap64 (x22 + 1)) x102000 x102001)) else (none)) else (none)) else (some x5)
end
noncomputable def impl_AllWords.f (k : Nat) (a0_0 : ByteArray) (l0_1 : List (S46)) (a1 : Int) : Option (List ByteArray) := (impl_GramOk.f k a0_0 l0_1).bind fun t102 => (if t102 = true then ((impl_isMost.f a1).bind fun t103 => (impl_AllWords.j0 k a1 (!t103) a0_0 l0_1)) else (impl_AllWords.j0 k a1 true a0_0 l0_1))
theorem impl_AllWords.mono_l : ∀ k, (∀ y0 y1 y2 y3, LeO (impl_AllWords.j0 k y0 y1 y2 y3) (impl_AllWords.j0 (k + 1) y0 y1 y2 y3)) ∧ (∀ y0 y1 y2 y3 y4 y5, LeO (impl_AllWords.l0 k y0 y1 y2 y3 y4 y5) (impl_AllWords.l0 (k + 1) y0 y1 y2 y3 y4 y5))
 | 0 => ⟨fun _ _ _ _ r h => by simp [impl_AllWords.j0] at h, fun _ _ _ _ _ _ r h => by simp [impl_AllWords.l0] at h⟩
 | k + 1 => by
  obtain ⟨ih0, ih1⟩ := impl_AllWords.mono_l k
  refine ⟨?_, ?_⟩
  ·intro y0 y1 y2 y3
   unfold impl_AllWords.j0
   repeat' first
   | (with_reducible exact ih0 _ _ _ _)
   | (with_reducible exact ih1 _ _ _ _ _ _)
   | (with_reducible exact impl_GramOk.mono _ _ _)
   | (with_reducible exact impl_wordsUpTo.mono _ _ _)
   | (with_reducible exact LeO.refl _)
   | (with_reducible exact LeO.none _)
   | (with_reducible refine LeO.ite ?_ ?_)
   | (with_reducible refine LeO.bind ?_ (fun _ => ?_))
   | exact ih0 _ _ _ _
   | exact ih1 _ _ _ _ _ _
   | exact impl_GramOk.mono _ _ _
   | exact impl_wordsUpTo.mono _ _ _
   | exact LeO.none _
   | refine LeO.ite ?_ ?_
   | refine LeO.bind ?_ (fun _ => ?_)
  intro y0 y1 y2 y3 y4 y5
  unfold impl_AllWords.l0
  repeat' first
  | (with_reducible exact ih0 _ _ _ _)
  | (with_reducible exact ih1 _ _ _ _ _ _)
  | (with_reducible exact impl_GramOk.mono _ _ _)
  | (with_reducible exact impl_wordsUpTo.mono _ _ _)
  | (with_reducible exact LeO.refl _)
  | (with_reducible exact LeO.none _)
  | (with_reducible refine LeO.ite ?_ ?_)
  | (with_reducible refine LeO.bind ?_ (fun _ => ?_))
  | exact ih0 _ _ _ _
  | exact ih1 _ _ _ _ _ _
  | exact impl_GramOk.mono _ _ _
  | exact impl_wordsUpTo.mono _ _ _
  | exact LeO.none _
  | refine LeO.ite ?_ ?_
  | refine LeO.bind ?_ (fun _ => ?_)
theorem impl_AllWords.mono : ∀ a0 a1 a2 k, LeO (impl_AllWords.f k a0 a1 a2) (impl_AllWords.f (k + 1) a0 a1 a2) := by
 intro a0 a1 a2 k
 obtain ⟨ih0, ih1⟩ := impl_AllWords.mono_l k
 unfold impl_AllWords.f
 repeat' first
   | (with_reducible exact ih0 _ _ _ _)
   | (with_reducible exact ih1 _ _ _ _ _ _)
   | (with_reducible exact impl_GramOk.mono _ _ _)
   | (with_reducible exact impl_wordsUpTo.mono _ _ _)
   | (with_reducible exact LeO.refl _)
   | (with_reducible exact LeO.none _)
   | (with_reducible refine LeO.ite ?_ ?_)
   | (with_reducible refine LeO.bind ?_ (fun _ => ?_))
   | exact ih0 _ _ _ _
   | exact ih1 _ _ _ _ _ _
   | exact impl_GramOk.mono _ _ _
   | exact impl_wordsUpTo.mono _ _ _
   | exact LeO.none _
   | refine LeO.ite ?_ ?_
   | refine LeO.bind ?_ (fun _ => ?_)
set_option maxHeartbeats 8000000 in
set_option maxRecDepth 100000 in
theorem impl_AllWords.calls (k : Nat) (a0_0 : ByteArray) (A0_1 : Option Addr) (c0_1 : Nat) (l0_1 : List (S46)) (a1 : Int) (r : List ByteArray) (w : World) (hr0_1 : Kd.C k46 w A0_1 l0_1.length l0_1) (hc0_1 : l0_1.length ≤ c0_1) (h : impl_AllWords.f k a0_0 l0_1 a1 = some r) :
  Calls Tryd.prog 47 #[.agg #[.string a0_0, .slice A0_1 l0_1.length c0_1], .int .i64 a1] w fun e w' => ∃ v0_ : Value, e = .returned (v0_) ∧ Kd.R Kd.string 9 w' w.heap.size (fun _ => True) v0_ r ∧ Below w.heap.size w w' := by
 have hu25 := Tryd.underlying25
 have HR0_1 := Aside0.mk hr0_1
 have HC0_1 := Aside0.mk hc0_1
 clear hr0_1 hc0_1
 have HB := Aside0.mk (Below.refl w.heap.size w)
 have H : ((impl_GramOk.f k a0_0 l0_1).bind fun t102 => (if t102 = true then ((impl_isMost.f a1).bind fun t103 => (impl_AllWords.j0 k a1 (!t103) a0_0 l0_1)) else (impl_AllWords.j0 k a1 true a0_0 l0_1))) = some r := h
 clear h
 have HC3 := Aside0.mk H
 clear H
 go_enter Tryd.func47, Tryd.ntmps47
 go_upto_region 1 with (first | ((with_reducible refine gate_dst (N := 2) rfl ?_); refine box_event ?hg (N := 2) ?hd (cs := #[.string a0_0, .slice A0_1 l0_1.length c0_1]) (t := 25) ?hr ?_; (case hd => rfl); (case hg => rfl); (case hr => first | (go_simp; done) | (go_simp; rfl)); intro gb101 hg w4 hbox hb; refine rn4 (below_step q84_1 hb) (hbox) ((by rw [hg]; exact (below_size q84_1) : w.heap.size ≤ gb101)) ((by rw [hg]; exact (below_size q84_1) : w.heap.size ≤ gb101)) ?_; clear HB; intro HB BK101 GW101 GE101; clear hb hbox hg))
 (try simp only [Act.put, List.setIfInBounds_toArray, List.set_cons_zero, List.set_cons_succ])
 go_cut [15] (fun v15 wc => ∃ (kq : Nat) (x15_2 : Bool), v15 = .bool x15_2 ∧ Aside0 (impl_AllWords.j0 kq a1 x15_2 a0_0 l0_1 = some r) ∧ Aside0 (kq ≤ k) ∧ Aside0 (wc.heap[gb101]? = some (.cells #[.string a0_0, (.slice A0_1 l0_1.length c0_1)] 25 (0, 0))) ∧ Aside0 (Below w.heap.size w wc))
 case first =>
  have H := HC3.out
  clear HC3
  replace H := Option.bind_eq_some_iff.mp H
  obtain ⟨t102, A50, H⟩ := H
  replace H : (if t102 = true then ((impl_isMost.f a1).bind fun t103 => (impl_AllWords.j0 k a1 (!t103) a0_0 l0_1)) else (impl_AllWords.j0 k a1 true a0_0 l0_1)) = some r := H
  have A5 := Aside0.mk A50
  clear A50
  by_cases c6 : t102 = true
  ·subst c6
   have H1 : ((impl_isMost.f a1).bind fun t103 => (impl_AllWords.j0 k a1 (!t103) a0_0 l0_1)) = some r := by rw [if_pos rfl] at H; exact H
   clear H
   have H := H1
   clear H1
   replace H := Option.bind_eq_some_iff.mp H
   obtain ⟨t103, A70, H⟩ := H
   replace H : (impl_AllWords.j0 k a1 (!t103) a0_0 l0_1) = some r := H
   have A7 := Aside0.mk A70
   clear A70
   have H' := Aside0.mk H
   clear H
   have hcz8_0 : w4.cell? ⟨gb101, 0, none⟩ = some (.string a0_0) := (blk_cell BK101.out 0).trans rfl
   have hcz8_1 : w4.cell? ⟨gb101, 1, none⟩ = some (.slice A0_1 l0_1.length c0_1) := (blk_cell BK101.out 1).trans rfl
   have hfz8_0 := blk_frozen BK101.out 0
   have hfz8_1 := blk_frozen BK101.out 1
   go_wp2_with (first | ((with_reducible refine gate_callee (f := 52) rfl ?_); refine goesL_ (some 9) rfl rfl Tryd.func52 (by kernel_rfl) rfl #[.agg #[.string a0_0, .slice A0_1 l0_1.length c0_1]] rfl q84_4 ?_; (with_reducible refine (impl_GramOk.calls k a0_0 _ _ l0_1 true _ ?side1 ?side2 A5.out).mono ?_); (case side1 => exact q84_3); (case side2 => exact HC0_1.out); rintro e w9 ⟨rfl, hb⟩; refine ⟨_, rfl, ?_⟩; refine rn2 (blk_below (g := gb101) (o := .cells #[.string a0_0, .slice A0_1 l0_1.length c0_1] 25 (0, 0)) q84_2 hb) (below_step q84_1 hb) ?_; clear BK101 HB; intro BK101 HB; (try clear hb); (try clear hb2); (try clear hk); (try clear hi)) | (go_at_call 95; (with_reducible refine (impl_isMost.calls a1 t103 _ A7.out).mono ?_); rintro e w' ⟨rfl, ⟨nd, rfl⟩⟩))
   go_meet
   case rel => exact ⟨_, (!t103), q84_6, H', ⟨by first | omega | exact Nat.le_refl _⟩, ⟨by (with_reducible repeat (first | refine blk_drewN ?_ _ | refine blk_drew ?_ | refine blk_alloc ?_ _)); exact BK101.out⟩, ⟨by repeat (first | (with_reducible first | exact HB.out | apply below_alloc | apply pw_below_drewN | apply below_drew1 | refine below_set ?_ GE101.out) | exact HB.out)⟩⟩
  replace c6 := Bool.eq_false_iff.mpr c6
  subst c6
  have H1 : (impl_AllWords.j0 k a1 true a0_0 l0_1) = some r := by rw [if_neg (show ¬ (false = true) by decide)] at H; exact H
  clear H
  have H := H1
  clear H1
  have H' := Aside0.mk H
  clear H
  have hcz10_0 : w4.cell? ⟨gb101, 0, none⟩ = some (.string a0_0) := (blk_cell BK101.out 0).trans rfl
  have hcz10_1 : w4.cell? ⟨gb101, 1, none⟩ = some (.slice A0_1 l0_1.length c0_1) := (blk_cell BK101.out 1).trans rfl
  have hfz10_0 := blk_frozen BK101.out 0
  have hfz10_1 := blk_frozen BK101.out 1
  go_wp2_with (first | ((with_reducible refine gate_callee (f := 52) rfl ?_); refine goesL_ (some 9) rfl rfl Tryd.func52 (by kernel_rfl) rfl #[.agg #[.string a0_0, .slice A0_1 l0_1.length c0_1]] rfl q84_4 ?_; (with_reducible refine (impl_GramOk.calls k a0_0 _ _ l0_1 false _ ?side1 ?side2 A5.out).mono ?_); (case side1 => exact q84_3); (case side2 => exact HC0_1.out); rintro e w11 ⟨rfl, hb⟩; refine ⟨_, rfl, ?_⟩; refine rn2 (blk_below (g := gb101) (o := .cells #[.string a0_0, .slice A0_1 l0_1.length c0_1] 25 (0, 0)) q84_2 hb) (below_step q84_1 hb) ?_; clear BK101 HB; intro BK101 HB; (try clear hb); (try clear hb2); (try clear hk); (try clear hi)))
  go_meet
  case rel => exact ⟨_, (true), q84_6, H', ⟨by first | omega | exact Nat.le_refl _⟩, ⟨by (with_reducible repeat (first | refine blk_drewN ?_ _ | refine blk_drew ?_ | refine blk_alloc ?_ _)); exact BK101.out⟩, ⟨by repeat (first | (with_reducible first | exact HB.out | apply below_alloc | apply pw_below_drewN | apply below_drew1 | refine below_set ?_ GE101.out) | exact HB.out)⟩⟩
 case rest =>
  clear HC3
  try clear p2
  try clear c4
  try clear c5
  try clear c6
  try clear hcz10_0
  try clear hcz10_1
  try clear hcz8_0
  try clear hcz8_1
  try clear hfz10_0
  try clear hfz10_1
  try clear hfz8_0
  try clear hfz8_1
  obtain ⟨kq, x15_2, rfl, HA, HJ2, BK101, HB⟩ := hcut
  cases kq with
  | zero => exact absurd HA.out (by simp [impl_AllWords.j0])
  | succ kj2 =>
   have H := HA.out
   clear HA
   simp only [impl_AllWords.j0] at H
   by_cases c12 : x15_2 = true
   ·subst c12
    have H1 : (some ([] : List ByteArray)) = some r := by rw [if_pos rfl] at H; exact H
    clear H
    have H := H1
    clear H1
    obtain rfl := Option.some.inj H
    go_wp2
    go_ret
    exact ⟨_, by first | rfl | (simp [errW_none, errW_some] <;> rfl) | (simp [*, errW_none, errW_some] <;> rfl), by first | exact Kd.R_nil _ _ _ _ _ | exact Kd.N_nil _ _ _ _ _ | exact Kd.V_nil _ _ _ _ _ | exact Kd.Q_nil _ _ _ _ _ | exact Kd.S_nil _ _ _ _ _, by repeat (first | (with_reducible first | exact HB.out | apply below_alloc | apply pw_below_drewN | apply below_drew1 | refine below_set ?_ GE101.out) | exact HB.out)⟩
   replace c12 := Bool.eq_false_iff.mpr c12
   subst c12
   have H1 : ((impl_GramSmalls.f a0_0 l0_1).bind fun t107 => ((impl_wordsUpTo.f kj2 t107 a1).bind fun t108 => (impl_AllWords.l0 kj2 (([] : List ByteArray)) t108 (t108.length : Int) 0 a0_0 l0_1))) = some r := by rw [if_neg (show ¬ (false = true) by decide)] at H; exact H
   clear H
   have H := H1
   clear H1
   obtain ⟨y104, hy104⟩ : ∃ y_ : List ByteArray, y_ = (([] : List ByteArray)) := ⟨_, rfl⟩
   replace H : ((impl_GramSmalls.f a0_0 l0_1).bind fun t107 => ((impl_wordsUpTo.f kj2 t107 a1).bind fun t108 => (impl_AllWords.l0 kj2 y104 t108 (t108.length : Int) 0 a0_0 l0_1))) = some r := by first | (rw [hy104]; with_reducible exact H) | (have H2_ := (Option.bind_some _ _).symm.trans H; rw [hy104]; with_reducible exact H2_) | (have H2_ := (Option.bind_some _ _).symm.trans H; with_reducible exact H2_) | with_reducible exact H | (rw [hy104]; exact H) | exact H
   have Ny104 := Aside0.mk hy104
   clear hy104
   replace H := Option.bind_eq_some_iff.mp H
   obtain ⟨t107, A130, H⟩ := H
   replace H : ((impl_wordsUpTo.f kj2 t107 a1).bind fun t108 => (impl_AllWords.l0 kj2 y104 t108 (t108.length : Int) 0 a0_0 l0_1)) = some r := H
   have A13 := Aside0.mk A130
   clear A130
   replace H := Option.bind_eq_some_iff.mp H
   obtain ⟨t108, A140, H⟩ := H
   replace H : (impl_AllWords.l0 kj2 y104 t108 (t108.length : Int) 0 a0_0 l0_1) = some r := H
   have A14 := Aside0.mk A140
   clear A140
   have H' := Aside0.mk H
   clear H
   go_wp2_with (first | ((with_reducible refine gate_dst (N := 16) rfl ?_); refine Kd.R_lit Kd.string _ 9 ?hg (N := 16) ?hd (xs := ([] : List ByteArray)) (inner := []) (ok := fun _ => True) (okp := fun _ => True) ?hr ?hp (fun _ hk => hk) trivial (Below.refl _ _) (Nat.le_refl _) (by simp) ?_; (case hd => rfl); (case hg => rfl); (case hr => first | (go_simp; done) | (go_simp; rfl)); (case hp => exact (Reps.none _ _)); intro v105 w15 ho16 hb hg_ hnew_; clear hg_ hnew_; (first | rw [← Ny104.out] at ho16 | (simp only [Int.reduceToNat] at ho16; rw [← Ny104.out] at ho16)); refine rn3 (Kd.R_lower ho16 (below_size q84_1)) (blk_below (g := gb101) (o := .cells #[.string a0_0, .slice A0_1 l0_1.length c0_1] 25 (0, 0)) q84_2 hb) (below_step q84_1 hb) ?_; clear BK101 HB; intro HO106 BK101 HB; clear hb ho16; have hcz17_0 : w15.cell? ⟨gb101, 0, none⟩ = some (.string a0_0) := (blk_cell BK101.out 0).trans rfl; have hcz17_1 : w15.cell? ⟨gb101, 1, none⟩ = some (.slice A0_1 l0_1.length c0_1) := (blk_cell BK101.out 1).trans rfl; have hfz17_0 := blk_frozen BK101.out 0; have hfz17_1 := blk_frozen BK101.out 1) | ((with_reducible refine gate_callee (f := 24) rfl ?_); refine goesL_ (some 18) rfl rfl Tryd.func24 (by kernel_rfl) rfl #[.agg #[.string a0_0, .slice A0_1 l0_1.length c0_1]] rfl q84_4 ?_; (with_reducible refine (impl_GramSmalls.calls a0_0 _ _ l0_1 t107 _ ?side1 ?side2 A13.out).mono ?_); (case side1 => exact q84_3); (case side2 => exact HC0_1.out); rintro e w18 ⟨rfl, hb⟩; refine ⟨_, rfl, ?_⟩; refine rn3 (Kd.R_below q84_7 hb) (blk_below (g := gb101) (o := .cells #[.string a0_0, .slice A0_1 l0_1.length c0_1] 25 (0, 0)) q84_2 hb) (below_step q84_1 hb) ?_; clear HO106 BK101 HB; intro HO106 BK101 HB; (try clear hb); (try clear hb2); (try clear hk); (try clear hi)) | ((with_reducible refine gate_callee (f := 96) rfl ?_); refine goesL_ (some 20) rfl rfl Tryd.func96 (by kernel_rfl) rfl #[.string t107, .int .i64 a1] rfl q84_4 ?_; (with_reducible refine (impl_wordsUpTo.calls kj2 t107 a1 t108 _ A14.out).mono ?_); rintro e w19 ⟨v109, rfl, ho0, hb⟩; refine ⟨_, rfl, ?_⟩; refine rn4 (Kd.R_elder' q84_7 (Kd.R_base ho0) hb) (Kd.R_lower (Kd.R_new' ho0 (Kd.R_lt q84_7)) (below_size q84_1)) (blk_below (g := gb101) (o := .cells #[.string a0_0, .slice A0_1 l0_1.length c0_1] 25 (0, 0)) q84_2 hb) (below_step q84_1 hb) ?_; clear HO106 BK101 HB; intro HO106 HO110 BK101 HB; (try clear hb); (try clear hb2); (try clear hk); (try clear hi); (try clear ho0); obtain ⟨Ao20, co20, eo20⟩ := Kd.R_slice HO110.out; subst eo20))
   go_loopg [5, 22] kj2 (fun kq v5 v22 w' => ∃ (x5_2 : List ByteArray) (x22_2 : Int), v22 = .int .i64 x22_2 ∧ Aside0 (impl_AllWords.l0 kq x5_2 t108 (t108.length : Int) x22_2 a0_0 l0_1 = some r) ∧ Aside0 (kq ≤ kj2) ∧ Aside0 (Kd.R Kd.string 9 w' w.heap.size (fun k_ => some k_ ≠ ((.slice Ao20 t108.length co20) : Value).ownBlock) v5 x5_2) ∧ Aside0 (Kd.R Kd.string 9 w' w.heap.size (fun k_ => some k_ ≠ (v5 : Value).ownBlock) (.slice Ao20 t108.length co20) t108) ∧ Aside0 (w'.heap[gb101]? = some (.cells #[.string a0_0, (.slice A0_1 l0_1.length c0_1)] 25 (0, 0))) ∧ Aside0 (Below w.heap.size w w'))
   case atStart => exact ⟨(y104), (0), q84_6, H', ⟨Nat.le_refl _⟩, ⟨by (with_reducible repeat (first | apply Kd.R_alloc | apply Kd.R_drewN | apply Kd.R_drew)); exact Kd.R_mono HO106.out (fun _ hk => hk.2)⟩, ⟨by (with_reducible repeat (first | apply Kd.R_alloc | apply Kd.R_drewN | apply Kd.R_drew)); exact Kd.R_mono HO110.out (fun _ hk => hk.2)⟩, ⟨by (with_reducible repeat (first | refine blk_drewN ?_ _ | refine blk_drew ?_ | refine blk_alloc ?_ _)); exact BK101.out⟩, ⟨by repeat (first | (with_reducible first | exact HB.out | apply below_alloc | apply pw_below_drewN | apply below_drew1 | refine below_set ?_ GE101.out) | exact HB.out)⟩⟩
   case round =>
    clear H'
    try clear c1
    try clear c2
    try clear p2
    try clear c4
    try clear c5
    try clear c6
    try clear c9
    try clear c12
    try clear hcz10_0
    try clear hcz10_1
    try clear hcz17_0
    try clear hcz17_1
    try clear hcz8_0
    try clear hcz8_1
    try clear hfz10_0
    try clear hfz10_1
    try clear hfz17_0
    try clear hfz17_1
    try clear hfz8_0
    try clear hfz8_1
    try clear p2
    obtain ⟨x5_2, x22_2, rfl, HA, HK2, HO_5, HO_20, BK101, HB⟩ := hrel
    cases gk with
    | zero => exact absurd HA.out (by simp [impl_AllWords.l0])
    | succ k2 =>
     have H := HA.out
     clear HA
     simp only [impl_AllWords.l0] at H
     by_cases c21 : x22_2 < (t108.length : Int)
     rotate_left
     ·rw [if_neg c21] at H
      have c21b0 : decide (x22_2 < (t108.length : Int)) = false := decide_eq_false c21
      clear c21
      obtain rfl := Option.some.inj H
      go_wp2
      go_ret
      exact ⟨_, by first | rfl | (simp [errW_none, errW_some] <;> rfl) | (simp [*, errW_none, errW_some] <;> rfl), by (with_reducible repeat (first | apply Kd.R_alloc | apply Kd.R_drewN | apply Kd.R_drew)); exact Kd.R_mono HO_5.out (fun _ hk => trivial), by repeat (first | (with_reducible first | exact HB.out | apply below_alloc | apply pw_below_drewN | apply below_drew1 | refine below_set ?_ GE101.out) | exact HB.out)⟩
     rw [if_pos c21] at H
     have c21b0 : decide (x22_2 < (t108.length : Int)) = true := decide_eq_true c21
     clear c21
     by_cases c22 : 0 ≤ x22_2
     rotate_left
     ·rw [if_neg c22] at H
      exact absurd H (by simp)
     rw [if_pos c22] at H
     have c22b0 : decide (0 ≤ x22_2) = true := decide_eq_true c22
     clear c22
     by_cases c23 : x22_2 < (t108.length : Int)
     rotate_left
     ·rw [if_neg c23] at H
      exact absurd H (by simp)
     rw [if_pos c23] at H
     have c23b0 : decide (x22_2 < (t108.length : Int)) = true := decide_eq_true c23
     clear c23
     by_cases c24 : (x5_2.length : Int) < 60
     rotate_left
     ·rw [if_neg c24] at H
      have c24b0 : decide ((x5_2.length : Int) < 60) = false := decide_eq_false c24
      have c24b1 : decide (x5_2.length < 60) = false := decide_eq_false (by omega)
      clear c24
      have H' := Aside0.mk H
      clear H
      have p111 : 0 ≤ (x22_2 : Int) := of_decide_eq_true q84_5
      have q111 : x22_2 < (t108.length : Int) := of_decide_eq_true q84_5
      obtain ⟨ad111, e111, hx111_0⟩ := Kd.at_string (Kd.R_reads' HO_20.out).2.2 x22_2 p111 q111
      cases e111
      replace p111 := eq_true p111
      replace q111 := eq_true q111
      obtain ⟨Ao35, co35, eo35⟩ := Kd.R_slice HO_5.out
      subst eo35
      go_wp2
      go_roundg k2
      case measure => have := HJ2.out; have := HK2.out; omega
      case rel => exact ⟨(x5_2), (wrap64 (x22_2 + 1)), q84_6, H', ⟨by have := HJ2.out; have := HK2.out; omega⟩, ⟨by (with_reducible repeat (first | apply Kd.R_alloc | apply Kd.R_drewN | apply Kd.R_drew)); exact HO_5.out⟩, ⟨by (with_reducible repeat (first | apply Kd.R_alloc | apply Kd.R_drewN | apply Kd.R_drew)); exact HO_20.out⟩, ⟨by (with_reducible repeat (first | refine blk_drewN ?_ _ | refine blk_drew ?_ | refine blk_alloc ?_ _)); exact BK101.out⟩, ⟨by repeat (first | (with_reducible first | exact HB.out | apply below_alloc | apply pw_below_drewN | apply below_drew1 | refine below_set ?_ GE101.out) | exact HB.out)⟩⟩
     rw [if_pos c24] at H
     have c24b0 : decide ((x5_2.length : Int) < 60) = true := decide_eq_true c24
     have c24b1 : decide (x5_2.length < 60) = true := decide_eq_true (by omega)
     clear c24
     replace H := Option.bind_eq_some_iff.mp H
     obtain ⟨t112, A250, H⟩ := H
     replace H : (if t112 = true then (if x5_2.length < 8796093022208 then (impl_AllWords.l0 k2 (x5_2 ++ [rdOf ByteArray.empty t108 x22_2]) t108 (t108.length : Int) (wrap64 (x22_2 + 1)) a0_0 l0_1) else (none)) else (impl_AllWords.l0 k2 x5_2 t108 (t108.length : Int) (wrap64 (x22_2 + 1)) a0_0 l0_1)) = some r := H
     have A25 := Aside0.mk A250
     clear A250
     by_cases c26 : t112 = true
     ·subst c26
      have H1 : (if x5_2.length < 8796093022208 then (impl_AllWords.l0 k2 (x5_2 ++ [rdOf ByteArray.empty t108 x22_2]) t108 (t108.length : Int) (wrap64 (x22_2 + 1)) a0_0 l0_1) else (none)) = some r := by rw [if_pos rfl] at H; exact H
      clear H
      have H := H1
      clear H1
      by_cases c27 : x5_2.length < 8796093022208
      rotate_left
      ·rw [if_neg c27] at H
       exact absurd H (by simp)
      rw [if_pos c27] at H
      have LMc27 := Aside0.mk c27
      clear c27
      obtain ⟨y113, hy113⟩ : ∃ y_ : List ByteArray, y_ = (x5_2 ++ [rdOf ByteArray.empty t108 x22_2]) := ⟨_, rfl⟩
      replace H : (impl_AllWords.l0 k2 y113 t108 (t108.length : Int) (wrap64 (x22_2 + 1)) a0_0 l0_1) = some r := by first | (rw [hy113]; with_reducible exact H) | (have H2_ := (Option.bind_some _ _).symm.trans H; rw [hy113]; with_reducible exact H2_) | (have H2_ := (Option.bind_some _ _).symm.trans H; with_reducible exact H2_) | with_reducible exact H | (rw [hy113]; exact H) | exact H
      have Ny113 := Aside0.mk hy113
      clear hy113
      have H' := Aside0.mk H
      clear H
      have p111 : 0 ≤ (x22_2 : Int) := of_decide_eq_true q84_5
      have q111 : x22_2 < (t108.length : Int) := of_decide_eq_true q84_5
      obtain ⟨ad111, e111, hx111_0⟩ := Kd.at_string (Kd.R_reads' HO_20.out).2.2 x22_2 p111 q111
      cases e111
      replace p111 := eq_true p111
      replace q111 := eq_true q111
      obtain ⟨Ao28, co28, eo28⟩ := Kd.R_slice HO_5.out
      subst eo28
      have hcz29_0 : wr.cell? ⟨gb101, 0, none⟩ = some (.string a0_0) := (blk_cell BK101.out 0).trans rfl
      have hcz29_1 : wr.cell? ⟨gb101, 1, none⟩ = some (.slice A0_1 l0_1.length c0_1) := (blk_cell BK101.out 1).trans rfl
      have hfz29_0 := blk_frozen BK101.out 0
      have hfz29_1 := blk_frozen BK101.out 1
      go_wp2_with (first | (go_at_call 97; (with_reducible refine (impl_isDerived.calls a0_0 _ _ l0_1 (rdOf ByteArray.empty t108 x22_2) true _ ?side1 ?side2 A25.out).mono ?_); (case side1 => exact q84_3); (case side2 => exact HC0_1.out); rintro e w30 ⟨rfl, hb⟩; refine rn4 (Kd.R_below q84_9 hb) (Kd.R_below q84_8 hb) (blk_below (g := gb101) (o := .cells #[.string a0_0, .slice A0_1 l0_1.length c0_1] 25 (0, 0)) q84_2 hb) (below_step q84_1 hb) ?_; clear HO_5 HO_20 BK101 HB; intro HO_5 HO_20 BK101 HB; (try clear hb); (try clear hb2); (try clear hk); (try clear hi)) | ((with_reducible refine gate_builtin (b := .append) (xs := #[.tmp 34, .tmp 36]) rfl ?_); at_builtin; refine Kd.R_append Kd.string (w0 := w) w.heap.size rfl (.tmp 34) (.tmp 36) 63 9 (.string ⟨#[]⟩) 16 rfl Tryd.underlying63 info9 rfl (by decide) (by omega) (.slice Ao28 x5_2.length co28) x5_2 (rdOf ByteArray.empty t108 x22_2) [.string (rdOf ByteArray.empty t108 x22_2)] (fun k_ => some k_ ≠ (.slice (some ad111) t108.length co20 : Value).ownBlock) (fun _ => False) rfl rfl ?aP (fun _ hk => hk.elim) ?aF ?aO ?aB ?aS ?aL ?_; (case aP => exact rfl); (case aB => exact q84_1); (case aF => exact (fun k_ hk => Kd.fresh' (Kd.R_lt q84_8) k_ hk)); (case aO => exact q84_9); (case aS => exact (below_size q84_1)); (case aL => have := LMc27.out; omega); intro v114 w31 ho hb hg hat; rw [← Ny113.out] at ho; refine rn4 (Kd.R_after (ok := (fun _ => True)) (by (with_reducible repeat (first | apply Kd.R_alloc | apply Kd.R_drewN | apply Kd.R_drew)); exact Kd.R_mono HO_20.out (fun _ hk => ⟨trivial, hk⟩)) hg hat) (blk_grown (g := gb101) (o := .cells #[.string a0_0, .slice A0_1 l0_1.length c0_1] 25 (0, 0)) q84_2 hg (Kd.R_ne HO_5.out BK101.out (by decide))) (hb) (ho) ?_; clear HO_20 BK101 HB HO_5; intro HO_20 BK101 HB HO115; clear ho hb hg hat))
      go_roundg k2
      case measure => have := HJ2.out; have := HK2.out; omega
      case rel => exact ⟨(y113), (wrap64 (x22_2 + 1)), q84_6, H', ⟨by have := HJ2.out; have := HK2.out; omega⟩, ⟨by (with_reducible repeat (first | apply Kd.R_alloc | apply Kd.R_drewN | apply Kd.R_drew)); exact HO115.out⟩, ⟨by (with_reducible repeat (first | apply Kd.R_alloc | apply Kd.R_drewN | apply Kd.R_drew)); exact Kd.R_mono HO_20.out (fun _ hk => hk.2)⟩, ⟨by (with_reducible repeat (first | refine blk_drewN ?_ _ | refine blk_drew ?_ | refine blk_alloc ?_ _)); exact BK101.out⟩, ⟨by repeat (first | (with_reducible first | exact HB.out | apply below_alloc | apply pw_below_drewN | apply below_drew1 | refine below_set ?_ GE101.out) | exact HB.out)⟩⟩
     replace c26 := Bool.eq_false_iff.mpr c26
     subst c26
     have H1 : (impl_AllWords.l0 k2 x5_2 t108 (t108.length : Int) (wrap64 (x22_2 + 1)) a0_0 l0_1) = some r := by rw [if_neg (show ¬ (false = true) by decide)] at H; exact H
     clear H
     have H := H1
     clear H1
     have H' := Aside0.mk H
     clear H
     have p111 : 0 ≤ (x22_2 : Int) := of_decide_eq_true q84_5
     have q111 : x22_2 < (t108.length : Int) := of_decide_eq_true q84_5
     obtain ⟨ad111, e111, hx111_0⟩ := Kd.at_string (Kd.R_reads' HO_20.out).2.2 x22_2 p111 q111
     cases e111
     replace p111 := eq_true p111
     replace q111 := eq_true q111
     obtain ⟨Ao32, co32, eo32⟩ := Kd.R_slice HO_5.out
     subst eo32
     have hcz33_0 : wr.cell? ⟨gb101, 0, none⟩ = some (.string a0_0) := (blk_cell BK101.out 0).trans rfl
     have hcz33_1 : wr.cell? ⟨gb101, 1, none⟩ = some (.slice A0_1 l0_1.length c0_1) := (blk_cell BK101.out 1).trans rfl
     have hfz33_0 := blk_frozen BK101.out 0
     have hfz33_1 := blk_frozen BK101.out 1
     go_wp2_with (first | (go_at_call 97; (with_reducible refine (impl_isDerived.calls a0_0 _ _ l0_1 (rdOf ByteArray.empty t108 x22_2) false _ ?side1 ?side2 A25.out).mono ?_); (case side1 => exact q84_3); (case side2 => exact HC0_1.out); rintro e w34 ⟨rfl, hb⟩; refine rn4 (Kd.R_below q84_9 hb) (Kd.R_below q84_8 hb) (blk_below (g := gb101) (o := .cells #[.string a0_0, .slice A0_1 l0_1.length c0_1] 25 (0, 0)) q84_2 hb) (below_step q84_1 hb) ?_; clear HO_5 HO_20 BK101 HB; intro HO_5 HO_20 BK101 HB; (try clear hb); (try clear hb2); (try clear hk); (try clear hi)))
     go_roundg k2
     case measure => have := HJ2.out; have := HK2.out; omega
     case rel => exact ⟨(x5_2), (wrap64 (x22_2 + 1)), q84_6, H', ⟨by have := HJ2.out; have := HK2.out; omega⟩, ⟨by (with_reducible repeat (first | apply Kd.R_alloc | apply Kd.R_drewN | apply Kd.R_drew)); exact HO_5.out⟩, ⟨by (with_reducible repeat (first | apply Kd.R_alloc | apply Kd.R_drewN | apply Kd.R_drew)); exact HO_20.out⟩, ⟨by (with_reducible repeat (first | refine blk_drewN ?_ _ | refine blk_drew ?_ | refine blk_alloc ?_ _)); exact BK101.out⟩, ⟨by repeat (first | (with_reducible first | exact HB.out | apply below_alloc | apply pw_below_drewN | apply below_drew1 | refine below_set ?_ GE101.out) | exact HB.out)⟩⟩
/-! ### spec_l4Length: function 90 -/
def spec_l4Length.f (a0 : Int) : Option (Bool) := if a0 ≥ 0 then (some (decide (a0 ≤ 4))) else (some false)
set_option maxHeartbeats 8000000 in
set_option maxRecDepth 100000 in
theorem spec_l4Length.calls (a0 : Int) (r : Bool) (w : World) (h : spec_l4Length.f a0 = some r) :
  Calls Tryd.prog 90 #[.int .i64 a0] w fun e w' => e = .returned (.bool r) ∧ Drawn0 w w' := by
 have H : (if a0 ≥ 0 then (some (decide (a0 ≤ 4))) else (some false)) = some r := h
 clear h
 by_cases c2 : a0 ≥ 0
 ·rw [if_pos c2] at H
  have c2b0 : decide (0 ≤ a0) = true := decide_eq_true c2
  clear c2
  obtain rfl := Option.some.inj H
  go_enter Tryd.func90, Tryd.ntmps90
  go_wp2
  go_ret
  exact ⟨by first | rfl | (simp; done) | (simp [*]; done), by repeat (first | exact Drawn0.refl _ | apply Drawn0.step)⟩
 rw [if_neg c2] at H
 have c2b0 : decide (0 ≤ a0) = false := decide_eq_false c2
 clear c2
 obtain rfl := Option.some.inj H
 go_enter Tryd.func90, Tryd.ntmps90
 go_wp2
 go_ret
 exact ⟨by first | rfl | (simp; done) | (simp [*]; done), by repeat (first | exact Drawn0.refl _ | apply Drawn0.step)⟩
/-! ### spec_l1Add: function 121 -/
def spec_l1Add.l0 : Nat → ByteArray → Int → Int → Option (ByteArray)
 | 0, _, _, _ => none
 | k + 1, x0, x1, x5 => if x5 < (x0.size : Int) then (if 0 ≤ x5 then (if (bt x0 x5) < x1 then (spec_l1Add.l0 k x0 x1 (wrap64 (x5 + 1))) else (if (bt x0 x5) = x1 then (some x0) else (if x5 ≤ (x0.size : Int) then ((some (([x1] : List Int) : List Int)).bind fun y101 => (if (x0.extract 0 (x5 : Int).toNat).size + (strOfNums y101).size ≤ 9223372036854775807 then (if ((x0.extract 0 (x5 : Int).toNat) ++ (strOfNums y101)).size + (x0.extract (x5 : Int).toNat x0.size).size ≤ 9223372036854775807 then (some (((x0.extract 0 (x5 : Int).toNat) ++ (strOfNums y101)) ++ (x0.extract (x5 : Int).toNat x0.size))) else (none)) else (none))) else (none)))) else (none)) else (if 0 ≤ x5 then (if x5 ≤ (x0.size : Int) then ((some (([x1] : List Int) : List Int)).bind fun y104 => (if (x0.extract 0 (x5 : Int).toNat).size + (strOfNums y104).size ≤ 9223372036854775807 then (if ((x0.extract 0 (x5 : Int).toNat) ++ (strOfNums y104)).size + (x0.extract (x5 : Int).toNat x0.size).size ≤ 9223372036854775807 then (some (((x0.extract 0 (x5 : Int).toNat) ++ (strOfNums y104)) ++ (x0.extract (x5 : Int).toNat x0.size))) else (none)) else (none))) else (none)) else (none))
def spec_l1Add.f (k : Nat) (a0 : ByteArray) (a1 : Int) : Option (ByteArray) := spec_l1Add.l0 k a0 a1 0
theorem spec_l1Add.mono_l : ∀ k, (∀ y0 y1 y2, LeO (spec_l1Add.l0 k y0 y1 y2) (spec_l1Add.l0 (k + 1) y0 y1 y2))
 | 0 => fun _ _ _ r h => by simp [spec_l1Add.l0] at h
 | k + 1 => by
  have ih0 := spec_l1Add.mono_l k
  intro y0 y1 y2
  unfold spec_l1Add.l0
  repeat' first
  | (with_reducible exact ih0 _ _ _)
  | (with_reducible exact LeO.refl _)
  | (with_reducible exact LeO.none _)
  | (with_reducible refine LeO.ite ?_ ?_)
  | (with_reducible refine LeO.bind ?_ (fun _ => ?_))
  | exact ih0 _ _ _
  | exact LeO.none _
  | refine LeO.ite ?_ ?_
  | refine LeO.bind ?_ (fun _ => ?_)
theorem spec_l1Add.mono : ∀ a0 a1 k, LeO (spec_l1Add.f k a0 a1) (spec_l1Add.f (k + 1) a0 a1) := by
 intro a0 a1 k
 have ih0 := spec_l1Add.mono_l k
 unfold spec_l1Add.f
 repeat' first
   | (with_reducible exact ih0 _ _ _)
   | (with_reducible exact LeO.refl _)
   | (with_reducible exact LeO.none _)
   | (with_reducible refine LeO.ite ?_ ?_)
   | (with_reducible refine LeO.bind ?_ (fun _ => ?_))
   | exact ih0 _ _ _
   | exact LeO.none _
   | refine LeO.ite ?_ ?_
   | refine LeO.bind ?_ (fun _ => ?_)
def spec_l1Add.T6 : Bool × List (List Nat × List Nat) := (true, [([], []), ([], []), ([0, 1], [0, 1]), ([], []), ([3], [3]), ([4], [4]), ([2, 5], [2, 5]), ([], []), ([], []), ([7, 8], [7, 8]), ([6, 9], [6, 9]), ([10, 0, 1, 2, 3, 4, 5, 6, 7, 8, 9, 10], [10])])
def spec_l1Add.B6 : List Nat := [0, 0, 3, 0, 8, 24, 63, 0, 0, 384, 1023, 2047]
theorem spec_l1Add.tab6 : rtab .any (opsOf Tryd.f121 6) = spec_l1Add.T6 := by kernel_rfl
theorem spec_l1Add.bits6 : waitsOk spec_l1Add.T6.2 spec_l1Add.B6 = true := by kernel_rfl
set_option maxHeartbeats 8000000 in
set_option maxRecDepth 100000 in
theorem spec_l1Add.calls (k : Nat) (a0 : ByteArray) (a1 : Int) (r : ByteArray) (w : World) (h : spec_l1Add.f k a0 a1 = some r) :
  Calls Tryd.prog 121 #[.string a0, .int .u8 a1] w fun e w' => e = .returned (.string r) ∧ Below w.heap.size w w' := by
 have HB := Aside0.mk (Below.refl w.heap.size w)
 have H : (spec_l1Add.l0 k a0 a1 0) = some r := h
 clear h
 have H' := Aside0.mk H
 clear H
 go_enter Tryd.func121, Tryd.ntmps121
 go_wp2
 go_loopg [5] k (fun kq v5 w' => ∃ (x5_1 : Int), v5 = .int .i64 x5_1 ∧ Aside0 (spec_l1Add.l0 kq a0 a1 x5_1 = some r) ∧ Aside0 (kq ≤ k) ∧ Aside0 (Below w.heap.size w w'))
 case atStart => exact ⟨(0), (by first | rfl | (simp; done) | (simp [*]; done)), H', ⟨Nat.le_refl _⟩, ⟨by repeat (first | (with_reducible first | exact HB.out | apply below_alloc | apply pw_below_drewN | apply below_drew1) | exact HB.out)⟩⟩
 case round =>
  clear H'
  try clear c1
  try clear p2
  obtain ⟨x5_1, rfl, HA, HK1, HB⟩ := hrel
  cases gk with
  | zero => exact absurd HA.out (by simp [spec_l1Add.l0])
  | succ k1 =>
   have H := HA.out
   clear HA
   simp only [spec_l1Add.l0] at H
   by_cases c3 : x5_1 < (a0.size : Int)
   rotate_left
   ·rw [if_neg c3] at H
    have c3b0 : decide (x5_1 < (a0.size : Int)) = false := decide_eq_false c3
    clear c3
    by_cases c19 : 0 ≤ x5_1
    rotate_left
    ·rw [if_neg c19] at H
     exact absurd H (by simp)
    rw [if_pos c19] at H
    have c19b0 := eq_true c19
    have c19b1 : decide (0 ≤ x5_1) = true := decide_eq_true c19
    clear c19
    by_cases c20 : x5_1 ≤ (a0.size : Int)
    rotate_left
    ·rw [if_neg c20] at H
     exact absurd H (by simp)
    rw [if_pos c20] at H
    have c20b0 := eq_true c20
    have c20b1 : decide (x5_1 ≤ (a0.size : Int)) = true := decide_eq_true c20
    clear c20
    obtain ⟨y104, hy104⟩ : ∃ y_ : List Int, y_ = (([a1] : List Int)) := ⟨_, rfl⟩
    replace H : (if (a0.extract 0 (x5_1 : Int).toNat).size + (strOfNums y104).size ≤ 9223372036854775807 then (if ((a0.extract 0 (x5_1 : Int).toNat) ++ (strOfNums y104)).size + (a0.extract (x5_1 : Int).toNat a0.size).size ≤ 9223372036854775807 then (some (((a0.extract 0 (x5_1 : Int).toNat) ++ (strOfNums y104)) ++ (a0.extract (x5_1 : Int).toNat a0.size))) else (none)) else (none)) = some r := by first | (rw [hy104]; with_reducible exact H) | (have H2_ := (Option.bind_some _ _).symm.trans H; rw [hy104]; with_reducible exact H2_) | (have H2_ := (Option.bind_some _ _).symm.trans H; with_reducible exact H2_) | with_reducible exact H | (rw [hy104]; exact H) | exact H
    have Ny104 := Aside0.mk hy104
    clear hy104
    by_cases c21 : (a0.extract 0 (x5_1 : Int).toNat).size + (strOfNums y104).size ≤ 9223372036854775807
    rotate_left
    ·rw [if_neg c21] at H
     exact absurd H (by simp)
    rw [if_pos c21] at H
    have c21b0 := eq_true c21
    have c21b1 : decide ((a0.extract 0 (x5_1 : Int).toNat).size + (strOfNums y104).size ≤ 9223372036854775807) = true := decide_eq_true c21
    try have c21b2 : (9223372036854775807 < (a0.extract 0 (x5_1 : Int).toNat).size + (strOfNums y104).size) = False := eq_false (Nat.not_lt.2 c21)
    try have c21b3 : ∀ n_ : Nat, (a0.extract 0 (x5_1 : Int).toNat).size + (strOfNums y104).size = n_ → (9223372036854775807 < n_) = False := fun n_ h_ => h_ ▸ c21b2
    have c22b0 := eq_true (of_decide_eq_true (by first | (with_reducible assumption) | assumption) : 0 ≤ x5_1)
    have c23b0 := eq_true (of_decide_eq_true (by first | (with_reducible assumption) | assumption) : x5_1 ≤ (a0.size : Int))
    by_cases c24 : ((a0.extract 0 (x5_1 : Int).toNat) ++ (strOfNums y104)).size + (a0.extract (x5_1 : Int).toNat a0.size).size ≤ 9223372036854775807
    rotate_left
    ·rw [if_neg c24] at H
     exact absurd H (by simp)
    rw [if_pos c24] at H
    have c24b0 := eq_true c24
    have c24b1 : decide (((a0.extract 0 (x5_1 : Int).toNat) ++ (strOfNums y104)).size + (a0.extract (x5_1 : Int).toNat a0.size).size ≤ 9223372036854775807) = true := decide_eq_true c24
    try have c24b2 : (9223372036854775807 < ((a0.extract 0 (x5_1 : Int).toNat) ++ (strOfNums y104)).size + (a0.extract (x5_1 : Int).toNat a0.size).size) = False := eq_false (Nat.not_lt.2 c24)
    try have c24b3 : ∀ n_ : Nat, ((a0.extract 0 (x5_1 : Int).toNat) ++ (strOfNums y104)).size + (a0.extract (x5_1 : Int).toNat a0.size).size = n_ → (9223372036854775807 < n_) = False := fun n_ h_ => h_ ▸ c24b2
    obtain rfl := Option.some.inj H
    try go_wp2
    refine rn1 (below_drew1 HB.out) ?_
    clear HB
    intro HB
    refine start_ (n := 12) (S := fun w' => True) (ds := []) #[false, false, false, false, false, false, false, false, false, false, false, false] (by kernel_rfl) rfl rfl trivial (fun hHeld => ?_); refine with_tabW spec_l1Add.tab6 spec_l1Add.bits6 (fun HT_ HW_ => ?_)
    generalize wr.drew = w25 at HB hHeld ⊢
    refine pz 0 31 HT_ ?_
    refine pz 1 32 HT_ ?_
    refine pz 2 33 HT_ ?_
    refine pz 3 34 HT_ ?_
    refine pz 7 38 HT_ ?_
    refine pz 8 39 HT_ ?_
    refine pz 9 40 HT_ ?_
    refine oz 4 (some 35) HT_ (fun K hK => ?_)
    refine Kd.R_lit_step (Kd.int .u8) _ 5 ?hg (N := 35) ?hd (xs := ([a1] : List Int)) (inner := [.int .u8 a1]) (ok := fun _ => True) (okp := fun _ => True) ?hr ?hp (fun _ hk => hk) trivial (Below.refl _ _) (Nat.le_refl _) (by simp) ?_; (case hd => rfl); (case hg => rfl); (case hr => first | (go_simp; done) | (go_simp; rfl)); (case hp => exact (Reps.one (show Kd.M (Kd.int .u8) _ _ _ a1 [.int .u8 a1] from rfl) (Reps.none _ _)))
    intro v105 w26 ho27 hb hg_ hnew_
    clear hg_ hnew_
    (first | rw [← Ny104.out] at ho27 | (simp only [Int.reduceToNat] at ho27; rw [← Ny104.out] at ho27))
    refine rn2 (Kd.R_lower ho27 (below_size (by repeat (first | (with_reducible first | exact HB.out | apply below_alloc | apply pw_below_drewN | apply below_drew1) | exact HB.out)))) (below_step (by repeat (first | (with_reducible first | exact HB.out | apply below_alloc | apply pw_below_drewN | apply below_drew1) | exact HB.out)) hb) ?_
    clear HB
    intro HO106 HB
    clear hb ho27
    refine hK.out _ _ trivial (fun hHeld => ?_)
    clear hK K
    refine norm_ (a' := ?_) ?_ ?_
    rotate_left
    ·show Act.put _ (some 35) _ = _
     simp only [Act.put, List.setIfInBounds_toArray, List.set_cons_zero, List.set_cons_succ, i64_w, i32_w]
     rfl
    refine oz 5 (some 36) HT_ (fun K hK => ?_)
    have hcv28 := own_string (P := Tryd.prog) Tryd.underlying22 Tryd.underlying5 Tryd.underlying9 (Kd.own_of_R HO106.out)
    refine value_ (w1 := ?_) (v := ?_) (by rfl) rfl ?_ ?_
    rotate_left 2
    ·go_simp
     constructor
     ·rfl
     rfl
    clear hcv28
    refine hK.out _ _ trivial (fun hHeld => ?_)
    clear hK K
    refine norm_ (a' := ?_) ?_ ?_
    rotate_left
    ·show Act.put _ (some 36) _ = _
     simp only [Act.put, List.setIfInBounds_toArray, List.set_cons_zero, List.set_cons_succ, i64_w, i32_w]
     rfl
    refine pz 6 37 HT_ ?_
    refine pz 10 41 HT_ ?_
    refine pz 11 4 HT_ ?_
    refine dz HT_ ?_
    try go_wp2
    go_ret
    exact ⟨by first | rfl | (simp [errW_none, errW_some] <;> rfl) | (simp [*, errW_none, errW_some] <;> rfl), by repeat (first | (with_reducible first | exact HB.out | apply below_alloc | apply pw_below_drewN | apply below_drew1) | exact HB.out)⟩
   rw [if_pos c3] at H
   have c3b0 : decide (x5_1 < (a0.size : Int)) = true := decide_eq_true c3
   clear c3
   by_cases c4 : 0 ≤ x5_1
   rotate_left
   ·rw [if_neg c4] at H
    exact absurd H (by simp)
   rw [if_pos c4] at H
   have c4b0 : decide (0 ≤ x5_1) = true := decide_eq_true c4
   clear c4
   by_cases c6 : (bt a0 x5_1) < a1
   ·rw [if_pos c6] at H
    have c6b0 : decide ((bt a0 x5_1) < a1) = true := decide_eq_true c6
    clear c6
    have H' := Aside0.mk H
    clear H
    have p5 : 0 ≤ (x5_1 : Int) := of_decide_eq_true (by first | (with_reducible assumption) | assumption)
    have q5 : x5_1 < (a0.size : Int) := of_decide_eq_true (by first | (with_reducible assumption) | assumption)
    have hx5 := bt_at a0 x5_1
    replace p5 := eq_true p5
    replace q5 := eq_true q5
    go_wp2
    go_roundg k1
    case measure => have := HK1.out; omega
    case rel => exact ⟨(wrap64 (x5_1 + 1)), (by first | rfl | (simp; done) | (simp [*]; done)), H', ⟨by have := HK1.out; omega⟩, ⟨by repeat (first | (with_reducible first | exact HB.out | apply below_alloc | apply pw_below_drewN | apply below_drew1) | exact HB.out)⟩⟩
   rw [if_neg c6] at H
   have c6b0 : decide ((bt a0 x5_1) < a1) = false := decide_eq_false c6
   clear c6
   by_cases c8 : (bt a0 x5_1) = a1
   ·rw [if_pos c8] at H
    have c8b0 : ((bt a0 x5_1) == a1) = true := beq_iff_eq.mpr c8
    have c8b1 : ((bt a0 x5_1) != a1) = false := bne_eq_false_iff_eq.mpr c8
    clear c8
    obtain rfl := Option.some.inj H
    have p5 : 0 ≤ (x5_1 : Int) := of_decide_eq_true (by first | (with_reducible assumption) | assumption)
    have q5 : x5_1 < (a0.size : Int) := of_decide_eq_true (by first | (with_reducible assumption) | assumption)
    have hx5 := bt_at a0 x5_1
    replace p5 := eq_true p5
    replace q5 := eq_true q5
    have p7 : 0 ≤ (x5_1 : Int) := of_decide_eq_true (by first | (with_reducible assumption) | assumption)
    have q7 : x5_1 < (a0.size : Int) := of_decide_eq_true (by first | (with_reducible assumption) | assumption)
    have hx7 := bt_at a0 x5_1
    replace p7 := eq_true p7
    replace q7 := eq_true q7
    go_wp2
    go_ret
    exact ⟨by first | rfl | (simp [errW_none, errW_some] <;> rfl) | (simp [*, errW_none, errW_some] <;> rfl), by repeat (first | (with_reducible first | exact HB.out | apply below_alloc | apply pw_below_drewN | apply below_drew1) | exact HB.out)⟩
   rw [if_neg c8] at H
   have c8b0 : ((bt a0 x5_1) == a1) = false := beq_eq_false_iff_ne.mpr c8
   have c8b1 : ((bt a0 x5_1) != a1) = true := bne_iff_ne.mpr c8
   have c9b0 := eq_true (of_decide_eq_true (by first | (with_reducible assumption) | assumption) : 0 ≤ x5_1)
   by_cases c10 : x5_1 ≤ (a0.size : Int)
   rotate_left
   ·rw [if_neg c10] at H
    exact absurd H (by simp)
   rw [if_pos c10] at H
   have c10b0 := eq_true c10
   have c10b1 : decide (x5_1 ≤ (a0.size : Int)) = true := decide_eq_true c10
   clear c10
   obtain ⟨y101, hy101⟩ : ∃ y_ : List Int, y_ = (([a1] : List Int)) := ⟨_, rfl⟩
   replace H : (if (a0.extract 0 (x5_1 : Int).toNat).size + (strOfNums y101).size ≤ 9223372036854775807 then (if ((a0.extract 0 (x5_1 : Int).toNat) ++ (strOfNums y101)).size + (a0.extract (x5_1 : Int).toNat a0.size).size ≤ 9223372036854775807 then (some (((a0.extract 0 (x5_1 : Int).toNat) ++ (strOfNums y101)) ++ (a0.extract (x5_1 : Int).toNat a0.size))) else (none)) else (none)) = some r := by first | (rw [hy101]; with_reducible exact H) | (have H2_ := (Option.bind_some _ _).symm.trans H; rw [hy101]; with_reducible exact H2_) | (have H2_ := (Option.bind_some _ _).symm.trans H; with_reducible exact H2_) | with_reducible exact H | (rw [hy101]; exact H) | exact H
   have Ny101 := Aside0.mk hy101
   clear hy101
   by_cases c11 : (a0.extract 0 (x5_1 : Int).toNat).size + (strOfNums y101).size ≤ 9223372036854775807
   rotate_left
   ·rw [if_neg c11] at H
    exact absurd H (by simp)
   rw [if_pos c11] at H
   have c11b0 := eq_true c11
   have c11b1 : decide ((a0.extract 0 (x5_1 : Int).toNat).size + (strOfNums y101).size ≤ 9223372036854775807) = true := decide_eq_true c11
   try have c11b2 : (9223372036854775807 < (a0.extract 0 (x5_1 : Int).toNat).size + (strOfNums y101).size) = False := eq_false (Nat.not_lt.2 c11)
   try have c11b3 : ∀ n_ : Nat, (a0.extract 0 (x5_1 : Int).toNat).size + (strOfNums y101).size = n_ → (9223372036854775807 < n_) = False := fun n_ h_ => h_ ▸ c11b2
   have c12b0 := eq_true (of_decide_eq_true (by first | (with_reducible assumption) | assumption) : 0 ≤ x5_1)
   have c13b0 := eq_true (of_decide_eq_true (by first | (with_reducible assumption) | assumption) : x5_1 ≤ (a0.size : Int))
   by_cases c14 : ((a0.extract 0 (x5_1 : Int).toNat) ++ (strOfNums y101)).size + (a0.extract (x5_1 : Int).toNat a0.size).size ≤ 9223372036854775807
   rotate_left
   ·rw [if_neg c14] at H
    exact absurd H (by simp)
   rw [if_pos c14] at H
   have c14b0 := eq_true c14
   have c14b1 : decide (((a0.extract 0 (x5_1 : Int).toNat) ++ (strOfNums y101)).size + (a0.extract (x5_1 : Int).toNat a0.size).size ≤ 9223372036854775807) = true := decide_eq_true c14
   try have c14b2 : (9223372036854775807 < ((a0.extract 0 (x5_1 : Int).toNat) ++ (strOfNums y101)).size + (a0.extract (x5_1 : Int).toNat a0.size).size) = False := eq_false (Nat.not_lt.2 c14)
   try have c14b3 : ∀ n_ : Nat, ((a0.extract 0 (x5_1 : Int).toNat) ++ (strOfNums y101)).size + (a0.extract (x5_1 : Int).toNat a0.size).size = n_ → (9223372036854775807 < n_) = False := fun n_ h_ => h_ ▸ c14b2
   obtain rfl := Option.some.inj H
   have p5 : 0 ≤ (x5_1 : Int) := of_decide_eq_true (by first | (with_reducible assumption) | assumption)
   have q5 : x5_1 < (a0.size : Int) := of_decide_eq_true (by first | (with_reducible assumption) | assumption)
   have hx5 := bt_at a0 x5_1
   replace p5 := eq_true p5
   replace q5 := eq_true q5
   have p7 : 0 ≤ (x5_1 : Int) := of_decide_eq_true (by first | (with_reducible assumption) | assumption)
   have q7 : x5_1 < (a0.size : Int) := of_decide_eq_true (by first | (with_reducible assumption) | assumption)
   have hx7 := bt_at a0 x5_1
   replace p7 := eq_true p7
   replace q7 := eq_true q7
   try go_wp2
   refine rn1 (below_drew1 HB.out) ?_
   clear HB
   intro HB
   refine start_ (n := 12) (S := fun w' => True) (ds := []) #[false, false, false, false, false, false, false, false, false, false, false, false] (by kernel_rfl) rfl rfl trivial (fun hHeld => ?_); refine with_tabW spec_l1Add.tab6 spec_l1Add.bits6 (fun HT_ HW_ => ?_)
   generalize wr.drew = w15 at HB hHeld ⊢
   refine pz 0 31 HT_ ?_
   refine pz 1 32 HT_ ?_
   refine pz 2 33 HT_ ?_
   refine pz 3 34 HT_ ?_
   refine pz 7 38 HT_ ?_
   refine pz 8 39 HT_ ?_
   refine pz 9 40 HT_ ?_
   refine oz 4 (some 35) HT_ (fun K hK => ?_)
   refine Kd.R_lit_step (Kd.int .u8) _ 5 ?hg (N := 35) ?hd (xs := ([a1] : List Int)) (inner := [.int .u8 a1]) (ok := fun _ => True) (okp := fun _ => True) ?hr ?hp (fun _ hk => hk) trivial (Below.refl _ _) (Nat.le_refl _) (by simp) ?_; (case hd => rfl); (case hg => rfl); (case hr => first | (go_simp; done) | (go_simp; rfl)); (case hp => exact (Reps.one (show Kd.M (Kd.int .u8) _ _ _ a1 [.int .u8 a1] from rfl) (Reps.none _ _)))
   intro v102 w16 ho17 hb hg_ hnew_
   clear hg_ hnew_
   (first | rw [← Ny101.out] at ho17 | (simp only [Int.reduceToNat] at ho17; rw [← Ny101.out] at ho17))
   refine rn2 (Kd.R_lower ho17 (below_size (by repeat (first | (with_reducible first | exact HB.out | apply below_alloc | apply pw_below_drewN | apply below_drew1) | exact HB.out)))) (below_step (by repeat (first | (with_reducible first | exact HB.out | apply below_alloc | apply pw_below_drewN | apply below_drew1) | exact HB.out)) hb) ?_
   clear HB
   intro HO103 HB
   clear hb ho17
   refine hK.out _ _ trivial (fun hHeld => ?_)
   clear hK K
   refine norm_ (a' := ?_) ?_ ?_
   rotate_left
   ·show Act.put _ (some 35) _ = _
    simp only [Act.put, List.setIfInBounds_toArray, List.set_cons_zero, List.set_cons_succ, i64_w, i32_w]
    rfl
   refine oz 5 (some 36) HT_ (fun K hK => ?_)
   have hcv18 := own_string (P := Tryd.prog) Tryd.underlying22 Tryd.underlying5 Tryd.underlying9 (Kd.own_of_R HO103.out)
   refine value_ (w1 := ?_) (v := ?_) (by rfl) rfl ?_ ?_
   rotate_left 2
   ·go_simp
    constructor
    ·rfl
    rfl
   clear hcv18
   refine hK.out _ _ trivial (fun hHeld => ?_)
   clear hK K
   refine norm_ (a' := ?_) ?_ ?_
   rotate_left
   ·show Act.put _ (some 36) _ = _
    simp only [Act.put, List.setIfInBounds_toArray, List.set_cons_zero, List.set_cons_succ, i64_w, i32_w]
    rfl
   refine pz 6 37 HT_ ?_
   refine pz 10 41 HT_ ?_
   refine pz 11 4 HT_ ?_
   refine dz HT_ ?_
   try go_wp2
   go_ret
   exact ⟨by first | rfl | (simp [errW_none, errW_some] <;> rfl) | (simp [*, errW_none, errW_some] <;> rfl), by repeat (first | (with_reducible first | exact HB.out | apply below_alloc | apply pw_below_drewN | apply below_drew1) | exact HB.out)⟩
/-! ### spec_l1Signs: function 73 -/
mutual
def spec_l1Signs.l0 : Nat → Bool → ByteArray → ByteArray → Int → ByteArray → List (S46) → Option (ByteArray)
 | 0, _, _, _, _, _, _ => none
 | k + 1, x1, x5, x6, x7, x102000, x102001 => if x7 < (x102001.length : Int) then (if 0 ≤ x7 then (if x6.size + ((rd_T46 x102001 x7).f0).size ≤ 9223372036854775807 then (if (x6 ++ ((rd_T46 x102001 x7).f0)).size + ((rd_T46 x102001 x7).f1).size ≤ 9223372036854775807 then (spec_l1Signs.l0 k x1 x5 ((x6 ++ ((rd_T46 x102001 x7).f0)) ++ ((rd_T46 x102001 x7).f1)) (wrap64 (x7 + 1)) x102000 x102001) else (none)) else (none)) else (none)) else (spec_l1Signs.l1 k x1 x5 x6 0)
def spec_l1Signs.l1 : Nat → Bool → ByteArray → ByteArray → Int → Option (ByteArray)
 | 0, _, _, _, _ => none
 | k + 1, x1, x5, x6, x8 => if x8 < (x6.size : Int) then (if 0 ≤ x8 then ((spec_l1Big.f (bt x6 x8)).bind fun t104 => (if (t104 == x1) = true then ((spec_l1Add.f k x5 (bt x6 x8)).bind fun t105 => (spec_l1Signs.l1 k x1 t105 x6 (wrap64 (x8 + 1)))) else (spec_l1Signs.l1 k x1 x5 x6 (wrap64 (x8 + 1))))) else (none)) else (some x5)
end
def spec_l1Signs.f (k : Nat) (a0_0 : ByteArray) (l0_1 : List (S46)) (a1 : Bool) : Option (ByteArray) := spec_l1Signs.l0 k a1 (⟨#[]⟩ : ByteArray) a0_0 0 a0_0 l0_1
theorem spec_l1Signs.mono_l : ∀ k, (∀ y0 y1 y2 y3 y4 y5, LeO (spec_l1Signs.l0 k y0 y1 y2 y3 y4 y5) (spec_l1Signs.l0 (k + 1) y0 y1 y2 y3 y4 y5)) ∧ (∀ y0 y1 y2 y3, LeO (spec_l1Signs.l1 k y0 y1 y2 y3) (spec_l1Signs.l1 (k + 1) y0 y1 y2 y3))
 | 0 => ⟨fun _ _ _ _ _ _ r h => by simp [spec_l1Signs.l0] at h, fun _ _ _ _ r h => by simp [spec_l1Signs.l1] at h⟩
 | k + 1 => by
  obtain ⟨ih0, ih1⟩ := spec_l1Signs.mono_l k
  refine ⟨?_, ?_⟩
  ·intro y0 y1 y2 y3 y4 y5
   unfold spec_l1Signs.l0
   repeat' first
   | (with_reducible exact ih0 _ _ _ _ _ _)
   | (with_reducible exact ih1 _ _ _ _)
   | (with_reducible exact spec_l1Add.mono _ _ _)
   | (with_reducible exact LeO.refl _)
   | (with_reducible exact LeO.none _)
   | (with_reducible refine LeO.ite ?_ ?_)
   | (with_reducible refine LeO.bind ?_ (fun _ => ?_))
   | exact ih0 _ _ _ _ _ _
   | exact ih1 _ _ _ _
   | exact spec_l1Add.mono _ _ _
   | exact LeO.none _
   | refine LeO.ite ?_ ?_
   | refine LeO.bind ?_ (fun _ => ?_)
  intro y0 y1 y2 y3
  unfold spec_l1Signs.l1
  repeat' first
  | (with_reducible exact ih0 _ _ _ _ _ _)
  | (with_reducible exact ih1 _ _ _ _)
  | (with_reducible exact spec_l1Add.mono _ _ _)
  | (with_reducible exact LeO.refl _)
  | (with_reducible exact LeO.none _)
  | (with_reducible refine LeO.ite ?_ ?_)
  | (with_reducible refine LeO.bind ?_ (fun _ => ?_))
  | exact ih0 _ _ _ _ _ _
  | exact ih1 _ _ _ _
  | exact spec_l1Add.mono _ _ _
  | exact LeO.none _
  | refine LeO.ite ?_ ?_
  | refine LeO.bind ?_ (fun _ => ?_)
theorem spec_l1Signs.mono : ∀ a0 a1 a2 k, LeO (spec_l1Signs.f k a0 a1 a2) (spec_l1Signs.f (k + 1) a0 a1 a2) := by
 intro a0 a1 a2 k
 obtain ⟨ih0, ih1⟩ := spec_l1Signs.mono_l k
 unfold spec_l1Signs.f
 repeat' first
   | (with_reducible exact ih0 _ _ _ _ _ _)
   | (with_reducible exact ih1 _ _ _ _)
   | (with_reducible exact spec_l1Add.mono _ _ _)
   | (with_reducible exact LeO.refl _)
   | (with_reducible exact LeO.none _)
   | (with_reducible refine LeO.ite ?_ ?_)
   | (with_reducible refine LeO.bind ?_ (fun _ => ?_))
   | exact ih0 _ _ _ _ _ _
   | exact ih1 _ _ _ _
   | exact spec_l1Add.mono _ _ _
   | exact LeO.none _
   | refine LeO.ite ?_ ?_
   | refine LeO.bind ?_ (fun _ => ?_)
set_option maxHeartbeats 8000000 in
set_option maxRecDepth 100000 in
theorem spec_l1Signs.calls (k : Nat) (a0_0 : ByteArray) (A0_1 : Option Addr) (c0_1 : Nat) (l0_1 : List (S46)) (a1 : Bool) (r : ByteArray) (w : World) (hr0_1 : Kd.C k46 w A0_1 l0_1.length l0_1) (hc0_1 : l0_1.length ≤ c0_1) (h : spec_l1Signs.f k a0_0 l0_1 a1 = some r) :
  Calls Tryd.prog 73 #[.agg #[.string a0_0, .slice A0_1 l0_1.length c0_1], .bool a1] w fun e w' => e = .returned (.string r) ∧ Below w.heap.size w w' := by
 have hu25 := Tryd.underlying25
 have HR0_1 := Aside0.mk hr0_1
 have HC0_1 := Aside0.mk hc0_1
 clear hr0_1 hc0_1
 have HB := Aside0.mk (Below.refl w.heap.size w)
 have H : (spec_l1Signs.l0 k a1 (⟨#[]⟩ : ByteArray) a0_0 0 a0_0 l0_1) = some r := h
 clear h
 have H' := Aside0.mk H
 clear H
 go_enter Tryd.func73, Tryd.ntmps73
 go_wp2_with (first | ((with_reducible refine gate_dst (N := 2) rfl ?_); refine box_event ?hg (N := 2) ?hd (cs := #[.string a0_0, .slice A0_1 l0_1.length c0_1]) (t := 25) ?hr ?_; (case hd => rfl); (case hg => rfl); (case hr => first | (go_simp; done) | (go_simp; rfl)); intro gb101 hg w3 hbox hb; refine rn4 (below_step (by repeat (first | (with_reducible first | exact HB.out | apply below_alloc | apply pw_below_drewN | apply below_drew1) | exact HB.out)) hb) (hbox) ((by rw [hg]; exact (below_size (by repeat (first | (with_reducible first | exact HB.out | apply below_alloc | apply pw_below_drewN | apply below_drew1) | exact HB.out))) : w.heap.size ≤ gb101)) ((by rw [hg]; exact (below_size (by repeat (first | (with_reducible first | exact HB.out | apply below_alloc | apply pw_below_drewN | apply below_drew1) | exact HB.out))) : w.heap.size ≤ gb101)) ?_; clear HB; intro HB BK101 GW101 GE101; clear hb hbox hg; have hcz4_0 : w3.cell? ⟨gb101, 0, none⟩ = some (.string a0_0) := (blk_cell BK101.out 0).trans rfl; have hcz4_1 : w3.cell? ⟨gb101, 1, none⟩ = some (.slice A0_1 l0_1.length c0_1) := (blk_cell BK101.out 1).trans rfl; have hfz4_0 := blk_frozen BK101.out 0; have hfz4_1 := blk_frozen BK101.out 1))
 repeat (go_quiet (first | ((with_reducible refine gate_dst (N := 2) rfl ?_); refine box_event ?hg (N := 2) ?hd (cs := #[.string a0_0, .slice A0_1 l0_1.length c0_1]) (t := 25) ?hr ?_; (case hd => rfl); (case hg => rfl); (case hr => first | (go_simp; done) | (go_simp; rfl)); intro gb101 hg w3 hbox hb; refine rn4 (below_step (by repeat (first | (with_reducible first | exact HB.out | apply below_alloc | apply pw_below_drewN | apply below_drew1) | exact HB.out)) hb) (hbox) ((by rw [hg]; exact (below_size (by repeat (first | (with_reducible first | exact HB.out | apply below_alloc | apply pw_below_drewN | apply below_drew1) | exact HB.out))) : w.heap.size ≤ gb101)) ((by rw [hg]; exact (below_size (by repeat (first | (with_reducible first | exact HB.out | apply below_alloc | apply pw_below_drewN | apply below_drew1) | exact HB.out))) : w.heap.size ≤ gb101)) ?_; clear HB; intro HB BK101 GW101 GE101; clear hb hbox hg; have hcz4_0 : w3.cell? ⟨gb101, 0, none⟩ = some (.string a0_0) := (blk_cell BK101.out 0).trans rfl; have hcz4_1 : w3.cell? ⟨gb101, 1, none⟩ = some (.slice A0_1 l0_1.length c0_1) := (blk_cell BK101.out 1).trans rfl; have hfz4_0 := blk_frozen BK101.out 0; have hfz4_1 := blk_frozen BK101.out 1)); try go_wp2_with (first | ((with_reducible refine gate_dst (N := 2) rfl ?_); refine box_event ?hg (N := 2) ?hd (cs := #[.string a0_0, .slice A0_1 l0_1.length c0_1]) (t := 25) ?hr ?_; (case hd => rfl); (case hg => rfl); (case hr => first | (go_simp; done) | (go_simp; rfl)); intro gb101 hg w3 hbox hb; refine rn4 (below_step (by repeat (first | (with_reducible first | exact HB.out | apply below_alloc | apply pw_below_drewN | apply below_drew1) | exact HB.out)) hb) (hbox) ((by rw [hg]; exact (below_size (by repeat (first | (with_reducible first | exact HB.out | apply below_alloc | apply pw_below_drewN | apply below_drew1) | exact HB.out))) : w.heap.size ≤ gb101)) ((by rw [hg]; exact (below_size (by repeat (first | (with_reducible first | exact HB.out | apply below_alloc | apply pw_below_drewN | apply below_drew1) | exact HB.out))) : w.heap.size ≤ gb101)) ?_; clear HB; intro HB BK101 GW101 GE101; clear hb hbox hg; have hcz4_0 : w3.cell? ⟨gb101, 0, none⟩ = some (.string a0_0) := (blk_cell BK101.out 0).trans rfl; have hcz4_1 : w3.cell? ⟨gb101, 1, none⟩ = some (.slice A0_1 l0_1.length c0_1) := (blk_cell BK101.out 1).trans rfl; have hfz4_0 := blk_frozen BK101.out 0; have hfz4_1 := blk_frozen BK101.out 1)))
 go_loopg [6, 7] k (fun kq v6 v7 w' => ∃ (x6_1 : ByteArray) (x7_1 : Int), v6 = .string x6_1 ∧ v7 = .int .i64 x7_1 ∧ Aside0 (spec_l1Signs.l0 kq a1 (⟨#[]⟩ : ByteArray) x6_1 x7_1 a0_0 l0_1 = some r) ∧ Aside0 (kq ≤ k) ∧ Aside0 (w'.heap[gb101]? = some (.cells #[.string a0_0, (.slice A0_1 l0_1.length c0_1)] 25 (0, 0))) ∧ Aside0 (Below w.heap.size w w'))
 case atStart => exact ⟨(a0_0), (0), (by first | rfl | (simp; done) | (simp [*]; done)), (by first | rfl | (simp; done) | (simp [*]; done)), H', ⟨Nat.le_refl _⟩, ⟨by (with_reducible repeat (first | refine blk_drewN ?_ _ | refine blk_drew ?_ | refine blk_alloc ?_ _)); exact BK101.out⟩, ⟨by repeat (first | (with_reducible first | exact HB.out | apply below_alloc | apply pw_below_drewN | apply below_drew1 | refine below_set ?_ GE101.out) | exact HB.out)⟩⟩
 case round =>
  clear H'
  try clear p2
  try clear hcz4_0
  try clear hcz4_1
  try clear hfz4_0
  try clear hfz4_1
  obtain ⟨x6_1, x7_1, rfl, rfl, HA, HK1, BK101, HB⟩ := hrel
  cases gk with
  | zero => exact absurd HA.out (by simp [spec_l1Signs.l0])
  | succ k1 =>
   have H := HA.out
   clear HA
   simp only [spec_l1Signs.l0] at H
   by_cases c5 : x7_1 < (l0_1.length : Int)
   ·rw [if_pos c5] at H
    have c5b0 : decide (x7_1 < (l0_1.length : Int)) = true := decide_eq_true c5
    clear c5
    by_cases c6 : 0 ≤ x7_1
    rotate_left
    ·rw [if_neg c6] at H
     exact absurd H (by simp)
    rw [if_pos c6] at H
    have c6b0 : decide (0 ≤ x7_1) = true := decide_eq_true c6
    clear c6
    by_cases c7 : x6_1.size + ((rd_T46 l0_1 x7_1).f0).size ≤ 9223372036854775807
    rotate_left
    ·rw [if_neg c7] at H
     exact absurd H (by simp)
    rw [if_pos c7] at H
    have c7b0 := eq_true c7
    have c7b1 : decide (x6_1.size + ((rd_T46 l0_1 x7_1).f0).size ≤ 9223372036854775807) = true := decide_eq_true c7
    try have c7b2 : (9223372036854775807 < x6_1.size + ((rd_T46 l0_1 x7_1).f0).size) = False := eq_false (Nat.not_lt.2 c7)
    by_cases c8 : (x6_1 ++ ((rd_T46 l0_1 x7_1).f0)).size + ((rd_T46 l0_1 x7_1).f1).size ≤ 9223372036854775807
    rotate_left
    ·rw [if_neg c8] at H
     exact absurd H (by simp)
    rw [if_pos c8] at H
    have c8b0 := eq_true c8
    have c8b1 : decide ((x6_1 ++ ((rd_T46 l0_1 x7_1).f0)).size + ((rd_T46 l0_1 x7_1).f1).size ≤ 9223372036854775807) = true := decide_eq_true c8
    try have c8b2 : (9223372036854775807 < (x6_1 ++ ((rd_T46 l0_1 x7_1).f0)).size + ((rd_T46 l0_1 x7_1).f1).size) = False := eq_false (Nat.not_lt.2 c8)
    have H' := Aside0.mk H
    clear H
    have hcz9_0 : wr.cell? ⟨gb101, 0, none⟩ = some (.string a0_0) := (blk_cell BK101.out 0).trans rfl
    have hcz9_1 : wr.cell? ⟨gb101, 1, none⟩ = some (.slice A0_1 l0_1.length c0_1) := (blk_cell BK101.out 1).trans rfl
    have hfz9_0 := blk_frozen BK101.out 0
    have hfz9_1 := blk_frozen BK101.out 1
    have p102 : 0 ≤ (x7_1 : Int) := of_decide_eq_true (by first | (with_reducible assumption) | assumption)
    have q102 : x7_1 < (l0_1.length : Int) := of_decide_eq_true (by first | (with_reducible assumption) | assumption)
    obtain ⟨ad102, e102, hx102_0, hx102_1⟩ := at_T46 HR0_1.out x7_1 p102 q102
    cases e102
    replace hx102_0 := (HB.out.cell (World.block_lt_of_cell? w _ hx102_0)).trans hx102_0
    replace hx102_1 := (HB.out.cell (World.block_lt_of_cell? w _ hx102_1)).trans hx102_1
    replace p102 := eq_true p102
    replace q102 := eq_true q102
    have p103 : 0 ≤ (x7_1 : Int) := of_decide_eq_true (by first | (with_reducible assumption) | assumption)
    have q103 : x7_1 < (l0_1.length : Int) := of_decide_eq_true (by first | (with_reducible assumption) | assumption)
    obtain ⟨ad103, e103, hx103_0, hx103_1⟩ := at_T46 HR0_1.out x7_1 p103 q103
    obtain rfl : ad102 = ad103 := (by injection e103)
    replace hx103_0 := (HB.out.cell (World.block_lt_of_cell? w _ hx103_0)).trans hx103_0
    replace hx103_1 := (HB.out.cell (World.block_lt_of_cell? w _ hx103_1)).trans hx103_1
    replace p103 := eq_true p103
    replace q103 := eq_true q103
    go_wp2
    repeat (go_quiet (fail); try go_wp2)
    go_roundg k1
    case measure => have := HK1.out; omega
    case rel => exact ⟨((x6_1 ++ ((rd_T46 l0_1 x7_1).f0)) ++ ((rd_T46 l0_1 x7_1).f1)), (wrap64 (x7_1 + 1)), (by first | rfl | (simp; done) | (simp [*]; done)), (by first | rfl | (simp; done) | (simp [*]; done)), H', ⟨by have := HK1.out; omega⟩, ⟨by (with_reducible repeat (first | refine blk_drewN ?_ _ | refine blk_drew ?_ | refine blk_alloc ?_ _)); exact BK101.out⟩, ⟨by repeat (first | (with_reducible first | exact HB.out | apply below_alloc | apply pw_below_drewN | apply below_drew1 | refine below_set ?_ GE101.out) | exact HB.out)⟩⟩
   rw [if_neg c5] at H
   have c5b0 : decide (x7_1 < (l0_1.length : Int)) = false := decide_eq_false c5
   clear c5
   have H' := Aside0.mk H
   clear H
   have hcz10_0 : wr.cell? ⟨gb101, 0, none⟩ = some (.string a0_0) := (blk_cell BK101.out 0).trans rfl
   have hcz10_1 : wr.cell? ⟨gb101, 1, none⟩ = some (.slice A0_1 l0_1.length c0_1) := (blk_cell BK101.out 1).trans rfl
   have hfz10_0 := blk_frozen BK101.out 0
   have hfz10_1 := blk_frozen BK101.out 1
   go_wp2
   repeat (go_quiet (fail); try go_wp2)
   go_loopg [5, 8] k1 (fun kq v5 v8 w' => ∃ (x5_2 : ByteArray) (x8_2 : Int), v5 = .string x5_2 ∧ v8 = .int .i64 x8_2 ∧ Aside0 (spec_l1Signs.l1 kq a1 x5_2 x6_1 x8_2 = some r) ∧ Aside0 (kq ≤ k1) ∧ Aside0 (w'.heap[gb101]? = some (.cells #[.string a0_0, (.slice A0_1 l0_1.length c0_1)] 25 (0, 0))) ∧ Aside0 (Below w.heap.size w w'))
   case atStart => exact ⟨((⟨#[]⟩ : ByteArray)), (0), (by first | rfl | (simp; done) | (simp [*]; done)), (by first | rfl | (simp; done) | (simp [*]; done)), H', ⟨Nat.le_refl _⟩, ⟨by (with_reducible repeat (first | refine blk_drewN ?_ _ | refine blk_drew ?_ | refine blk_alloc ?_ _)); exact BK101.out⟩, ⟨by repeat (first | (with_reducible first | exact HB.out | apply below_alloc | apply pw_below_drewN | apply below_drew1 | refine below_set ?_ GE101.out) | exact HB.out)⟩⟩
   case round =>
    clear H'
    try clear p1
    try clear q1
    try clear hx1
    try clear p2
    try clear c5
    try clear c5b0
    try clear c6
    try clear c6b0
    try clear p6
    try clear c7
    try clear c7b0
    try clear c7b1
    try clear c7b2
    try clear c8
    try clear c8b0
    try clear c8b1
    try clear c8b2
    try clear p10
    try clear q10
    try clear hx10
    try clear hcz10_0
    try clear hcz10_1
    try clear hcz4_0
    try clear hcz4_1
    try clear hcz9_0
    try clear hcz9_1
    try clear hfz10_0
    try clear hfz10_1
    try clear hfz4_0
    try clear hfz4_1
    try clear hfz9_0
    try clear hfz9_1
    try clear hx102_0
    try clear hx102_1
    try clear hx103_0
    try clear hx103_1
    try clear p102
    try clear p103
    try clear p2
    try clear q102
    try clear q103
    obtain ⟨x5_2, x8_2, rfl, rfl, HA, HK2, BK101, HB⟩ := hrel
    cases gk with
    | zero => exact absurd HA.out (by simp [spec_l1Signs.l1])
    | succ k2 =>
     have H := HA.out
     clear HA
     simp only [spec_l1Signs.l1] at H
     by_cases c11 : x8_2 < (x6_1.size : Int)
     rotate_left
     ·rw [if_neg c11] at H
      have c11b0 : decide (x8_2 < (x6_1.size : Int)) = false := decide_eq_false c11
      clear c11
      obtain rfl := Option.some.inj H
      go_wp2
      repeat (go_quiet (fail); try go_wp2)
      go_ret
      exact ⟨by first | rfl | (simp [errW_none, errW_some] <;> rfl) | (simp [*, errW_none, errW_some] <;> rfl), by repeat (first | (with_reducible first | exact HB.out | apply below_alloc | apply pw_below_drewN | apply below_drew1 | refine below_set ?_ GE101.out) | exact HB.out)⟩
     rw [if_pos c11] at H
     have c11b0 : decide (x8_2 < (x6_1.size : Int)) = true := decide_eq_true c11
     clear c11
     by_cases c12 : 0 ≤ x8_2
     rotate_left
     ·rw [if_neg c12] at H
      exact absurd H (by simp)
     rw [if_pos c12] at H
     have c12b0 : decide (0 ≤ x8_2) = true := decide_eq_true c12
     clear c12
     replace H := Option.bind_eq_some_iff.mp H
     obtain ⟨t104, A140, H⟩ := H
     replace H : (if (t104 == a1) = true then ((spec_l1Add.f k2 x5_2 (bt x6_1 x8_2)).bind fun t105 => (spec_l1Signs.l1 k2 a1 t105 x6_1 (wrap64 (x8_2 + 1)))) else (spec_l1Signs.l1 k2 a1 x5_2 x6_1 (wrap64 (x8_2 + 1)))) = some r := H
     have A14 := Aside0.mk A140
     clear A140
     by_cases c15 : (t104 == a1) = true
     ·rw [if_pos c15] at H
      have c15b0 : (t104 == a1) = true := c15
      (try (have c15b1 : decide (t104 = a1) = true := by simpa using c15))
      (try (have c15b2 : (t104 == a1) = true := by simpa using c15))
      clear c15
      replace H := Option.bind_eq_some_iff.mp H
      obtain ⟨t105, A170, H⟩ := H
      replace H : (spec_l1Signs.l1 k2 a1 t105 x6_1 (wrap64 (x8_2 + 1))) = some r := H
      have A17 := Aside0.mk A170
      clear A170
      have H' := Aside0.mk H
      clear H
      have p13 : 0 ≤ (x8_2 : Int) := of_decide_eq_true (by first | (with_reducible assumption) | assumption)
      have q13 : x8_2 < (x6_1.size : Int) := of_decide_eq_true (by first | (with_reducible assumption) | assumption)
      have hx13 := bt_at x6_1 x8_2
      replace p13 := eq_true p13
      replace q13 := eq_true q13
      go_wp2_with (first | (go_at_call 120; (with_reducible refine (spec_l1Big.calls (bt x6_1 x8_2) t104 _ A14.out).mono ?_); rintro e w' ⟨rfl, ⟨nd, rfl⟩⟩; (try first | exact ⟨rfl, _, World.drewN_drewN _ _ _⟩ | exact ⟨rfl, _, Eq.trans (World.drewN_drewN _ _ _) (congrArg (World.drewN _) (Nat.add_assoc _ _ _))⟩); have p16 : 0 ≤ (x8_2 : Int) := of_decide_eq_true (by first | (with_reducible assumption) | assumption); have q16 : x8_2 < (x6_1.size : Int) := of_decide_eq_true (by first | (with_reducible assumption) | assumption); have hx16 := bt_at x6_1 x8_2; replace p16 := eq_true p16; replace q16 := eq_true q16) | (go_at_call 121; (with_reducible refine (spec_l1Add.calls k2 x5_2 (bt x6_1 x8_2) t105 _ A17.out).mono ?_); rintro e w18 ⟨rfl, hb⟩; refine rn2 (blk_below (g := gb101) (o := .cells #[.string a0_0, .slice A0_1 l0_1.length c0_1] 25 (0, 0)) (by (with_reducible repeat (first | refine blk_drewN ?_ _ | refine blk_drew ?_ | refine blk_alloc ?_ _)); exact BK101.out) hb) (below_step (by repeat (first | (with_reducible first | exact HB.out | apply below_alloc | apply pw_below_drewN | apply below_drew1 | refine below_set ?_ GE101.out) | exact HB.out)) hb) ?_; clear BK101 HB; intro BK101 HB; (try clear hb); (try clear hb2); (try clear hk); (try clear hi)))
      repeat (go_quiet (first | (go_at_call 120; (with_reducible refine (spec_l1Big.calls (bt x6_1 x8_2) t104 _ A14.out).mono ?_); rintro e w' ⟨rfl, ⟨nd, rfl⟩⟩; (try first | exact ⟨rfl, _, World.drewN_drewN _ _ _⟩ | exact ⟨rfl, _, Eq.trans (World.drewN_drewN _ _ _) (congrArg (World.drewN _) (Nat.add_assoc _ _ _))⟩); have p16 : 0 ≤ (x8_2 : Int) := of_decide_eq_true (by first | (with_reducible assumption) | assumption); have q16 : x8_2 < (x6_1.size : Int) := of_decide_eq_true (by first | (with_reducible assumption) | assumption); have hx16 := bt_at x6_1 x8_2; replace p16 := eq_true p16; replace q16 := eq_true q16) | (go_at_call 121; (with_reducible refine (spec_l1Add.calls k2 x5_2 (bt x6_1 x8_2) t105 _ A17.out).mono ?_); rintro e w18 ⟨rfl, hb⟩; refine rn2 (blk_below (g := gb101) (o := .cells #[.string a0_0, .slice A0_1 l0_1.length c0_1] 25 (0, 0)) (by (with_reducible repeat (first | refine blk_drewN ?_ _ | refine blk_drew ?_ | refine blk_alloc ?_ _)); exact BK101.out) hb) (below_step (by repeat (first | (with_reducible first | exact HB.out | apply below_alloc | apply pw_below_drewN | apply below_drew1 | refine below_set ?_ GE101.out) | exact HB.out)) hb) ?_; clear BK101 HB; intro BK101 HB; (try clear hb); (try clear hb2); (try clear hk); (try clear hi))); try go_wp2_with (first | (go_at_call 120; (with_reducible refine (spec_l1Big.calls (bt x6_1 x8_2) t104 _ A14.out).mono ?_); rintro e w' ⟨rfl, ⟨nd, rfl⟩⟩; (try first | exact ⟨rfl, _, World.drewN_drewN _ _ _⟩ | exact ⟨rfl, _, Eq.trans (World.drewN_drewN _ _ _) (congrArg (World.drewN _) (Nat.add_assoc _ _ _))⟩); have p16 : 0 ≤ (x8_2 : Int) := of_decide_eq_true (by first | (with_reducible assumption) | assumption); have q16 : x8_2 < (x6_1.size : Int) := of_decide_eq_true (by first | (with_reducible assumption) | assumption); have hx16 := bt_at x6_1 x8_2; replace p16 := eq_true p16; replace q16 := eq_true q16) | (go_at_call 121; (with_reducible refine (spec_l1Add.calls k2 x5_2 (bt x6_1 x8_2) t105 _ A17.out).mono ?_); rintro e w18 ⟨rfl, hb⟩; refine rn2 (blk_below (g := gb101) (o := .cells #[.string a0_0, .slice A0_1 l0_1.length c0_1] 25 (0, 0)) (by (with_reducible repeat (first | refine blk_drewN ?_ _ | refine blk_drew ?_ | refine blk_alloc ?_ _)); exact BK101.out) hb) (below_step (by repeat (first | (with_reducible first | exact HB.out | apply below_alloc | apply pw_below_drewN | apply below_drew1 | refine below_set ?_ GE101.out) | exact HB.out)) hb) ?_; clear BK101 HB; intro BK101 HB; (try clear hb); (try clear hb2); (try clear hk); (try clear hi))))
      go_roundg k2
      case measure => have := HK1.out; have := HK2.out; omega
      case rel => exact ⟨(t105), (wrap64 (x8_2 + 1)), (by first | rfl | (simp; done) | (simp [*]; done)), (by first | rfl | (simp; done) | (simp [*]; done)), H', ⟨by have := HK1.out; have := HK2.out; omega⟩, ⟨by (with_reducible repeat (first | refine blk_drewN ?_ _ | refine blk_drew ?_ | refine blk_alloc ?_ _)); exact BK101.out⟩, ⟨by repeat (first | (with_reducible first | exact HB.out | apply below_alloc | apply pw_below_drewN | apply below_drew1 | refine below_set ?_ GE101.out) | exact HB.out)⟩⟩
     rw [if_neg c15] at H
     have c15b0 : (t104 == a1) = false := by simpa using c15
     (try (have c15b1 : decide (t104 = a1) = false := by simpa using c15))
     (try (have c15b2 : (t104 == a1) = false := by simpa using c15))
     (try (have c15b3 : ¬ (t104 = a1) := by simpa using c15))
     clear c15
     have H' := Aside0.mk H
     clear H
     have p13 : 0 ≤ (x8_2 : Int) := of_decide_eq_true (by first | (with_reducible assumption) | assumption)
     have q13 : x8_2 < (x6_1.size : Int) := of_decide_eq_true (by first | (with_reducible assumption) | assumption)
     have hx13 := bt_at x6_1 x8_2
     replace p13 := eq_true p13
     replace q13 := eq_true q13
     go_wp2_with (first | (go_at_call 120; (with_reducible refine (spec_l1Big.calls (bt x6_1 x8_2) t104 _ A14.out).mono ?_); rintro e w' ⟨rfl, ⟨nd, rfl⟩⟩; (try first | exact ⟨rfl, _, World.drewN_drewN _ _ _⟩ | exact ⟨rfl, _, Eq.trans (World.drewN_drewN _ _ _) (congrArg (World.drewN _) (Nat.add_assoc _ _ _))⟩)))
     repeat (go_quiet (first | (go_at_call 120; (with_reducible refine (spec_l1Big.calls (bt x6_1 x8_2) t104 _ A14.out).mono ?_); rintro e w' ⟨rfl, ⟨nd, rfl⟩⟩; (try first | exact ⟨rfl, _, World.drewN_drewN _ _ _⟩ | exact ⟨rfl, _, Eq.trans (World.drewN_drewN _ _ _) (congrArg (World.drewN _) (Nat.add_assoc _ _ _))⟩))); try go_wp2_with (first | (go_at_call 120; (with_reducible refine (spec_l1Big.calls (bt x6_1 x8_2) t104 _ A14.out).mono ?_); rintro e w' ⟨rfl, ⟨nd, rfl⟩⟩; (try first | exact ⟨rfl, _, World.drewN_drewN _ _ _⟩ | exact ⟨rfl, _, Eq.trans (World.drewN_drewN _ _ _) (congrArg (World.drewN _) (Nat.add_assoc _ _ _))⟩))))
     go_roundg k2
     case measure => have := HK1.out; have := HK2.out; omega
     case rel => exact ⟨(x5_2), (wrap64 (x8_2 + 1)), (by first | rfl | (simp; done) | (simp [*]; done)), (by first | rfl | (simp; done) | (simp [*]; done)), H', ⟨by have := HK1.out; have := HK2.out; omega⟩, ⟨by (with_reducible repeat (first | refine blk_drewN ?_ _ | refine blk_drew ?_ | refine blk_alloc ?_ _)); exact BK101.out⟩, ⟨by repeat (first | (with_reducible first | exact HB.out | apply below_alloc | apply pw_below_drewN | apply below_drew1 | refine below_set ?_ GE101.out) | exact HB.out)⟩⟩
/-! ### spec_l4Step: function 184 -/
def spec_l4Step.f (l0 : List (List (List Bool))) (a1 : ByteArray) (a2 : Int) (a3 : Int) (a4 : Int) : Option (Bool) := (spec_l1Small.f a2).bind fun t101 => (if t101 = true then (if a4 = (wrap64 (a3 + 1)) then (if 0 ≤ a3 then (if a3 < (a1.size : Int) then (some ((bt a1 a3) == a2)) else (none)) else (none)) else (some false)) else (if 0 ≤ ((a2 - 65) % 256) then (if ((a2 - 65) % 256) < (l0.length : Int) then (if 0 ≤ a3 then (if a3 < ((rd_L12 l0 ((a2 - 65) % 256)).length : Int) then (if 0 ≤ a4 then (if a4 < ((rd_L11 (rd_L12 l0 ((a2 - 65) % 256)) a3).length : Int) then (some (rdOf false (rd_L11 (rd_L12 l0 ((a2 - 65) % 256)) a3) a4)) else (none)) else (none)) else (none)) else (none)) else (none)) else (none)))
set_option maxHeartbeats 8000000 in
set_option maxRecDepth 100000 in
theorem spec_l4Step.calls (A0 : Option Addr) (c0 : Nat) (l0 : List (List (List Bool))) (a1 : ByteArray) (a2 : Int) (a3 : Int) (a4 : Int) (r : Bool) (w : World) (hr0 : Kd.C (Kd.slice 139 (Kd.slice 4 Kd.bool)) w A0 l0.length l0) (hc0 : l0.length ≤ c0) (h : spec_l4Step.f l0 a1 a2 a3 a4 = some r) :
  Calls Tryd.prog 184 #[.slice A0 l0.length c0, .string a1, .int .u8 a2, .int .i64 a3, .int .i64 a4] w fun e w' => e = .returned (.bool r) ∧ Drawn0 w w' := by
 have HR0 := Aside0.mk hr0
 have HC0 := Aside0.mk hc0
 clear hr0 hc0
 have H : ((spec_l1Small.f a2).bind fun t101 => (if t101 = true then (if a4 = (wrap64 (a3 + 1)) then (if 0 ≤ a3 then (if a3 < (a1.size : Int) then (some ((bt a1 a3) == a2)) else (none)) else (none)) else (some false)) else (if 0 ≤ ((a2 - 65) % 256) then (if ((a2 - 65) % 256) < (l0.length : Int) then (if 0 ≤ a3 then (if a3 < ((rd_L12 l0 ((a2 - 65) % 256)).length : Int) then (if 0 ≤ a4 then (if a4 < ((rd_L11 (rd_L12 l0 ((a2 - 65) % 256)) a3).length : Int) then (some (rdOf false (rd_L11 (rd_L12 l0 ((a2 - 65) % 256)) a3) a4)) else (none)) else (none)) else (none)) else (none)) else (none)) else (none)))) = some r := h
 clear h
 replace H := Option.bind_eq_some_iff.mp H
 obtain ⟨t101, A60, H⟩ := H
 replace H : (if t101 = true then (if a4 = (wrap64 (a3 + 1)) then (if 0 ≤ a3 then (if a3 < (a1.size : Int) then (some ((bt a1 a3) == a2)) else (none)) else (none)) else (some false)) else (if 0 ≤ ((a2 - 65) % 256) then (if ((a2 - 65) % 256) < (l0.length : Int) then (if 0 ≤ a3 then (if a3 < ((rd_L12 l0 ((a2 - 65) % 256)).length : Int) then (if 0 ≤ a4 then (if a4 < ((rd_L11 (rd_L12 l0 ((a2 - 65) % 256)) a3).length : Int) then (some (rdOf false (rd_L11 (rd_L12 l0 ((a2 - 65) % 256)) a3) a4)) else (none)) else (none)) else (none)) else (none)) else (none)) else (none))) = some r := H
 have A6 := Aside0.mk A60
 clear A60
 by_cases c7 : t101 = true
 ·subst c7
  have H1 : (if a4 = (wrap64 (a3 + 1)) then (if 0 ≤ a3 then (if a3 < (a1.size : Int) then (some ((bt a1 a3) == a2)) else (none)) else (none)) else (some false)) = some r := by rw [if_pos rfl] at H; exact H
  clear H
  have H := H1
  clear H1
  by_cases c8 : a4 = (wrap64 (a3 + 1))
  ·rw [if_pos c8] at H
   have c8b0 : (a4 == (wrap64 (a3 + 1))) = true := beq_iff_eq.mpr c8
   have c8b1 : (a4 != (wrap64 (a3 + 1))) = false := bne_eq_false_iff_eq.mpr c8
   clear c8
   by_cases c9 : 0 ≤ a3
   ·rw [if_pos c9] at H
    have c9b0 : decide (0 ≤ a3) = true := decide_eq_true c9
    clear c9
    by_cases c10 : a3 < (a1.size : Int)
    ·rw [if_pos c10] at H
     have c10b0 : decide (a3 < (a1.size : Int)) = true := decide_eq_true c10
     clear c10
     obtain rfl := Option.some.inj H
     go_enter Tryd.func184, Tryd.ntmps184
     go_wp2_with (first | ((with_reducible refine gate_callee (f := 108) rfl ?_); refine goesL_ (some 12) rfl rfl Tryd.func108 (by kernel_rfl) rfl #[.int .u8 a2] rfl (by (try simp only [List.map_toArray, List.map_cons, List.map_nil]); first | done | rfl | (simp only [List.length_drop, List.length_take]; rfl)) ?_; (with_reducible refine (spec_l1Small.calls a2 true _ A6.out).mono ?_); rintro e w' ⟨rfl, ⟨nd, rfl⟩⟩; refine ⟨_, rfl, ?_⟩; have p11 : 0 ≤ (a3 : Int) := of_decide_eq_true (by first | (with_reducible assumption) | assumption); have q11 : a3 < (a1.size : Int) := of_decide_eq_true (by first | (with_reducible assumption) | assumption); have hx11 := bt_at a1 a3; replace p11 := eq_true p11; replace q11 := eq_true q11))
     go_ret
     exact ⟨by first | rfl | (simp; done) | (simp [*]; done), by repeat (first | exact Drawn0.refl _ | apply Drawn0.step)⟩
    rw [if_neg c10] at H
    exact absurd H (by simp)
   rw [if_neg c9] at H
   exact absurd H (by simp)
  rw [if_neg c8] at H
  have c8b0 : (a4 == (wrap64 (a3 + 1))) = false := beq_eq_false_iff_ne.mpr c8
  have c8b1 : (a4 != (wrap64 (a3 + 1))) = true := bne_iff_ne.mpr c8
  obtain rfl := Option.some.inj H
  go_enter Tryd.func184, Tryd.ntmps184
  go_wp2_with (first | ((with_reducible refine gate_callee (f := 108) rfl ?_); refine goesL_ (some 12) rfl rfl Tryd.func108 (by kernel_rfl) rfl #[.int .u8 a2] rfl (by (try simp only [List.map_toArray, List.map_cons, List.map_nil]); first | done | rfl | (simp only [List.length_drop, List.length_take]; rfl)) ?_; (with_reducible refine (spec_l1Small.calls a2 true _ A6.out).mono ?_); rintro e w' ⟨rfl, ⟨nd, rfl⟩⟩; refine ⟨_, rfl, ?_⟩))
  go_ret
  exact ⟨by first | rfl | (simp; done) | (simp [*]; done), by repeat (first | exact Drawn0.refl _ | apply Drawn0.step)⟩
 replace c7 := Bool.eq_false_iff.mpr c7
 subst c7
 have H1 : (if 0 ≤ ((a2 - 65) % 256) then (if ((a2 - 65) % 256) < (l0.length : Int) then (if 0 ≤ a3 then (if a3 < ((rd_L12 l0 ((a2 - 65) % 256)).length : Int) then (if 0 ≤ a4 then (if a4 < ((rd_L11 (rd_L12 l0 ((a2 - 65) % 256)) a3).length : Int) then (some (rdOf false (rd_L11 (rd_L12 l0 ((a2 - 65) % 256)) a3) a4)) else (none)) else (none)) else (none)) else (none)) else (none)) else (none)) = some r := by rw [if_neg (show ¬ (false = true) by decide)] at H; exact H
 clear H
 have H := H1
 clear H1
 obtain ⟨ji12, hji12⟩ : ∃ j_ : Int, ((a2 - 65) % 256) = j_ := ⟨_, rfl⟩
 replace H : (if 0 ≤ (ji12) then (if (ji12) < (l0.length : Int) then (if 0 ≤ a3 then (if a3 < ((rd_L12 l0 (ji12)).length : Int) then (if 0 ≤ a4 then (if a4 < ((rd_L11 (rd_L12 l0 (ji12)) a3).length : Int) then (some (rdOf false (rd_L11 (rd_L12 l0 (ji12)) a3) a4)) else (none)) else (none)) else (none)) else (none)) else (none)) else (none)) = some r := by first | (rw [hji12] at H; exact H) | (simp only [hji12] at H ⊢; exact H)
 (try rw [hji12] at A6)
 by_cases c13 : 0 ≤ (ji12)
 rotate_left
 ·rw [if_neg c13] at H
  exact absurd H (by simp)
 rw [if_pos c13] at H
 have c13b0 : decide (0 ≤ (ji12)) = true := decide_eq_true c13
 clear c13
 by_cases c14 : (ji12) < (l0.length : Int)
 rotate_left
 ·rw [if_neg c14] at H
  exact absurd H (by simp)
 rw [if_pos c14] at H
 have c14b0 : decide ((ji12) < (l0.length : Int)) = true := decide_eq_true c14
 clear c14
 by_cases c15 : 0 ≤ a3
 rotate_left
 ·rw [if_neg c15] at H
  exact absurd H (by simp)
 rw [if_pos c15] at H
 have c15b0 : decide (0 ≤ a3) = true := decide_eq_true c15
 clear c15
 by_cases c16 : a3 < ((rd_L12 l0 (ji12)).length : Int)
 rotate_left
 ·rw [if_neg c16] at H
  exact absurd H (by simp)
 rw [if_pos c16] at H
 have c16b0 : decide (a3 < ((rd_L12 l0 (ji12)).length : Int)) = true := decide_eq_true c16
 clear c16
 by_cases c17 : 0 ≤ a4
 ·rw [if_pos c17] at H
  have c17b0 : decide (0 ≤ a4) = true := decide_eq_true c17
  clear c17
  by_cases c18 : a4 < ((rd_L11 (rd_L12 l0 (ji12)) a3).length : Int)
  ·rw [if_pos c18] at H
   have c18b0 : decide (a4 < ((rd_L11 (rd_L12 l0 (ji12)) a3).length : Int)) = true := decide_eq_true c18
   clear c18
   obtain rfl := Option.some.inj H
   go_enter Tryd.func184, Tryd.ntmps184
   go_wp2_with (first | ((with_reducible refine gate_callee (f := 108) rfl ?_); refine goesL_ (some 12) rfl rfl Tryd.func108 (by kernel_rfl) rfl #[.int .u8 a2] rfl (by (try simp only [List.map_toArray, List.map_cons, List.map_nil]); first | done | rfl | (simp only [List.length_drop, List.length_take]; rfl)) ?_; (with_reducible refine (spec_l1Small.calls a2 false _ A6.out).mono ?_); rintro e w' ⟨rfl, ⟨nd, rfl⟩⟩; refine ⟨_, rfl, ?_⟩; have p102 : 0 ≤ ((ji12) : Int) := of_decide_eq_true (by first | (with_reducible assumption) | assumption); have q102 : (ji12) < (l0.length : Int) := of_decide_eq_true (by first | (with_reducible assumption) | assumption); obtain ⟨ad102, A102_0, c102_0, e102, hx102_0, hl102_0, hi102_0⟩ := at_L12 HR0.out (ji12) p102 q102; cases e102; have HR102_0 := Aside0.mk hi102_0; have HC102_0 := Aside0.mk hl102_0; clear hi102_0 hl102_0; replace p102 := eq_true p102; replace q102 := eq_true q102; have p103 : 0 ≤ (a3 : Int) := of_decide_eq_true (by first | (with_reducible assumption) | assumption); have q103 : a3 < ((rd_L12 l0 (ji12)).length : Int) := of_decide_eq_true (by first | (with_reducible assumption) | assumption); obtain ⟨ad103, A103_0, c103_0, e103, hx103_0, hl103_0, hi103_0⟩ := at_L11 HR102_0.out a3 p103 q103; cases e103; have HR103_0 := Aside0.mk hi103_0; have HC103_0 := Aside0.mk hl103_0; clear hi103_0 hl103_0; replace p103 := eq_true p103; replace q103 := eq_true q103; have p104 : 0 ≤ (a4 : Int) := of_decide_eq_true (by first | (with_reducible assumption) | assumption); have q104 : a4 < ((rd_L11 (rd_L12 l0 (ji12)) a3).length : Int) := of_decide_eq_true (by first | (with_reducible assumption) | assumption); obtain ⟨ad104, e104, hx104_0⟩ := Kd.at_bool HR103_0.out a4 p104 q104; cases e104; replace p104 := eq_true p104; replace q104 := eq_true q104))
   go_ret
   exact ⟨by first | rfl | (simp; done) | (simp only [← hji12] <;> (first | rfl | simp)) | (simp [*]; done), by repeat (first | exact Drawn0.refl _ | apply Drawn0.step)⟩
  rw [if_neg c18] at H
  exact absurd H (by simp)
 rw [if_neg c17] at H
 exact absurd H (by simp)
/-! ### spec_l4Ends: function 154 -/
mutual
def spec_l4Ends.l0 : Nat → List (List (List Bool)) → ByteArray → ByteArray → Int → List Int → Int → Option (List Int)
 | 0, _, _, _, _, _, _ => none
 | k + 1, x0, x1, x2, x3, x9, x10 => if x10 ≤ (x1.size : Int) then (if 0 < (x2.size : Int) then ((spec_l4Step.f x0 x1 (bt x2 0) x3 x10).bind fun t107 => (if t107 = true then (if 1 ≤ (x2.size : Int) then ((spec_l4Ends.f k x0 x1 (x2.extract 1 x2.size) x10).bind fun t108 => (spec_l4Ends.l1 k x0 x1 x2 x3 x9 x10 t108 0)) else (none)) else (spec_l4Ends.l0 k x0 x1 x2 x3 x9 (wrap64 (x10 + 1))))) else (none)) else (some x9)
def spec_l4Ends.l1 : Nat → List (List (List Bool)) → ByteArray → ByteArray → Int → List Int → Int → List Int → Int → Option (List Int)
 | 0, _, _, _, _, _, _, _, _ => none
 | k + 1, x0, x1, x2, x3, x9, x10, x11, x12 => if x12 < (x11.length : Int) then (if 0 ≤ x12 then (if x9.length < 17592186044416 then (spec_l4Ends.l1 k x0 x1 x2 x3 (x9 ++ [rd x11 x12]) x10 x11 (wrap64 (x12 + 1))) else (none)) else (none)) else (spec_l4Ends.l0 k x0 x1 x2 x3 x9 (wrap64 (x10 + 1)))
def spec_l4Ends.f : Nat → List (List (List Bool)) → ByteArray → ByteArray → Int → Option (List Int)
 | 0, _, _, _, _ => none
 | k + 1, l0, a1, a2, a3 => if a2.toList = ([] : List UInt8) then (some (([a3] : List Int))) else (spec_l4Ends.l0 k l0 a1 a2 a3 (([] : List Int)) a3)
end
theorem spec_l4Ends.mono_l : ∀ k, (∀ y0 y1 y2 y3, LeO (spec_l4Ends.f k y0 y1 y2 y3) (spec_l4Ends.f (k + 1) y0 y1 y2 y3)) ∧ (∀ y0 y1 y2 y3 y4 y5, LeO (spec_l4Ends.l0 k y0 y1 y2 y3 y4 y5) (spec_l4Ends.l0 (k + 1) y0 y1 y2 y3 y4 y5)) ∧ (∀ y0 y1 y2 y3 y4 y5 y6 y7, LeO (spec_l4Ends.l1 k y0 y1 y2 y3 y4 y5 y6 y7) (spec_l4Ends.l1 (k + 1) y0 y1 y2 y3 y4 y5 y6 y7))
 | 0 => ⟨fun _ _ _ _ r h => by simp [spec_l4Ends.f] at h, fun _ _ _ _ _ _ r h => by simp [spec_l4Ends.l0] at h, fun _ _ _ _ _ _ _ _ r h => by simp [spec_l4Ends.l1] at h⟩
 | k + 1 => by
  obtain ⟨ih0, ih1, ih2⟩ := spec_l4Ends.mono_l k
  refine ⟨?_, ?_, ?_⟩
  ·intro y0 y1 y2 y3
   unfold spec_l4Ends.f
   repeat' first
   | (with_reducible exact ih0 _ _ _ _)
   | (with_reducible exact ih1 _ _ _ _ _ _)
   | (with_reducible exact ih2 _ _ _ _ _ _ _ _)
   | (with_reducible exact LeO.refl _)
   | (with_reducible exact LeO.none _)
   | (with_reducible refine LeO.ite ?_ ?_)
   | (with_reducible refine LeO.bind ?_ (fun _ => ?_))
   | exact ih0 _ _ _ _
   | exact ih1 _ _ _ _ _ _
   | exact ih2 _ _ _ _ _ _ _ _
   | exact LeO.none _
   | refine LeO.ite ?_ ?_
   | refine LeO.bind ?_ (fun _ => ?_)
  ·intro y0 y1 y2 y3 y4 y5
   unfold spec_l4Ends.l0
   repeat' first
   | (with_reducible exact ih0 _ _ _ _)
   | (with_reducible exact ih1 _ _ _ _ _ _)
   | (with_reducible exact ih2 _ _ _ _ _ _ _ _)
   | (with_reducible exact LeO.refl _)
   | (with_reducible exact LeO.none _)
   | (with_reducible refine LeO.ite ?_ ?_)
   | (with_reducible refine LeO.bind ?_ (fun _ => ?_))
   | exact ih0 _ _ _ _
   | exact ih1 _ _ _ _ _ _
   | exact ih2 _ _ _ _ _ _ _ _
   | exact LeO.none _
   | refine LeO.ite ?_ ?_
   | refine LeO.bind ?_ (fun _ => ?_)
  intro y0 y1 y2 y3 y4 y5 y6 y7
  unfold spec_l4Ends.l1
  repeat' first
  | (with_reducible exact ih0 _ _ _ _)
  | (with_reducible exact ih1 _ _ _ _ _ _)
  | (with_reducible exact ih2 _ _ _ _ _ _ _ _)
  | (with_reducible exact LeO.refl _)
  | (with_reducible exact LeO.none _)
  | (with_reducible refine LeO.ite ?_ ?_)
  | (with_reducible refine LeO.bind ?_ (fun _ => ?_))
  | exact ih0 _ _ _ _
  | exact ih1 _ _ _ _ _ _
  | exact ih2 _ _ _ _ _ _ _ _
  | exact LeO.none _
  | refine LeO.ite ?_ ?_
  | refine LeO.bind ?_ (fun _ => ?_)
theorem spec_l4Ends.mono : ∀ a0 a1 a2 a3 k, LeO (spec_l4Ends.f k a0 a1 a2 a3) (spec_l4Ends.f (k + 1) a0 a1 a2 a3) := by
 intro a0 a1 a2 a3 k
 obtain ⟨ih0, ih1, ih2⟩ := spec_l4Ends.mono_l k
 exact ih0 a0 a1 a2 a3
set_option maxHeartbeats 8000000 in
set_option maxRecDepth 100000 in
theorem spec_l4Ends.calls (k : Nat) : ∀ (A0 : Option Addr) (c0 : Nat) (l0 : List (List (List Bool))) (a1 : ByteArray) (a2 : ByteArray) (a3 : Int) (r : List Int) (w : World) (hr0 : Kd.C (Kd.slice 139 (Kd.slice 4 Kd.bool)) w A0 l0.length l0) (hc0 : l0.length ≤ c0) (h : spec_l4Ends.f k l0 a1 a2 a3 = some r),
  Calls Tryd.prog 154 #[.slice A0 l0.length c0, .string a1, .string a2, .int .i64 a3] w fun e w' => ∃ v0_ : Value, e = .returned (v0_) ∧ Kd.R (Kd.int .i64) 3 w' w.heap.size (fun _ => True) v0_ r ∧ Below w.heap.size w w' := by
 induction k using Nat.strongRecOn with
 | _ k ih =>
 intro A0 c0 l0 a1 a2 a3 r w hr0 hc0 h
 cases k with
 | zero => exact absurd h (by simp [spec_l4Ends.f])
 | succ k =>
 simp only [spec_l4Ends.f] at h
 have HR0 := Aside0.mk hr0
 have HC0 := Aside0.mk hc0
 clear hr0 hc0
 have HB := Aside0.mk (Below.refl w.heap.size w)
 have H : (if a2.toList = ([] : List UInt8) then (some (([a3] : List Int))) else (spec_l4Ends.l0 k l0 a1 a2 a3 (([] : List Int)) a3)) = some r := h
 clear h
 by_cases c5 : a2.toList = ([] : List UInt8)
 ·rw [if_pos c5] at H
  have c5b0 : (a2.toList == ([] : List UInt8)) = true := beq_iff_eq.mpr c5
  have c5b1 : (a2.toList != ([] : List UInt8)) = false := bne_eq_false_iff_eq.mpr c5
  clear c5
  obtain ⟨y101, hy101⟩ : ∃ y_ : List Int, y_ = (([a3] : List Int)) := ⟨_, rfl⟩
  replace H : (some y101) = some r := by first | (rw [hy101]; with_reducible exact H) | (have H2_ := (Option.bind_some _ _).symm.trans H; rw [hy101]; with_reducible exact H2_) | (have H2_ := (Option.bind_some _ _).symm.trans H; with_reducible exact H2_) | with_reducible exact H | (rw [hy101]; exact H) | exact H
  have Ny101 := Aside0.mk hy101
  clear hy101
  obtain rfl := Option.some.inj H
  go_enter Tryd.func154, Tryd.ntmps154
  go_wp2_with (first | ((with_reducible refine gate_dst (N := 16) rfl ?_); refine Kd.R_lit (Kd.int .i64) _ 3 ?hg (N := 16) ?hd (xs := ([a3] : List Int)) (inner := [.int .i64 a3]) (ok := fun _ => True) (okp := fun _ => True) ?hr ?hp (fun _ hk => hk) trivial (Below.refl _ _) (Nat.le_refl _) (by simp) ?_; (case hd => rfl); (case hg => rfl); (case hr => first | (go_simp; done) | (go_simp; rfl)); (case hp => exact (Reps.one (show Kd.M (Kd.int .i64) _ _ _ a3 [.int .i64 a3] from rfl) (Reps.none _ _))); intro v102 w6 ho7 hb hg_ hnew_; clear hg_ hnew_; (first | rw [← Ny101.out] at ho7 | (simp only [Int.reduceToNat] at ho7; rw [← Ny101.out] at ho7)); refine rn2 (Kd.R_lower ho7 (below_size (by repeat (first | (with_reducible first | exact HB.out | apply below_alloc | apply pw_below_drewN | apply below_drew1) | exact HB.out)))) (below_step (by repeat (first | (with_reducible first | exact HB.out | apply below_alloc | apply pw_below_drewN | apply below_drew1) | exact HB.out)) hb) ?_; clear HB; intro HO103 HB; clear hb ho7))
  go_ret
  exact ⟨_, by first | rfl | (simp [errW_none, errW_some] <;> rfl) | (simp [*, errW_none, errW_some] <;> rfl), by (with_reducible repeat (first | apply Kd.R_alloc | apply Kd.R_drewN | apply Kd.R_drew)); exact HO103.out, by repeat (first | (with_reducible first | exact HB.out | apply below_alloc | apply pw_below_drewN | apply below_drew1) | exact HB.out)⟩
 rw [if_neg c5] at H
 have c5b0 : (a2.toList == ([] : List UInt8)) = false := beq_eq_false_iff_ne.mpr c5
 have c5b1 : (a2.toList != ([] : List UInt8)) = true := bne_iff_ne.mpr c5
 obtain ⟨y104, hy104⟩ : ∃ y_ : List Int, y_ = (([] : List Int)) := ⟨_, rfl⟩
 replace H : (spec_l4Ends.l0 k l0 a1 a2 a3 y104 a3) = some r := by first | (rw [hy104]; with_reducible exact H) | (have H2_ := (Option.bind_some _ _).symm.trans H; rw [hy104]; with_reducible exact H2_) | (have H2_ := (Option.bind_some _ _).symm.trans H; with_reducible exact H2_) | with_reducible exact H | (rw [hy104]; exact H) | exact H
 have Ny104 := Aside0.mk hy104
 clear hy104
 have H' := Aside0.mk H
 clear H
 go_enter Tryd.func154, Tryd.ntmps154
 go_wp2_with (first | ((with_reducible refine gate_dst (N := 17) rfl ?_); refine Kd.R_lit (Kd.int .i64) _ 3 ?hg (N := 17) ?hd (xs := ([] : List Int)) (inner := []) (ok := fun _ => True) (okp := fun _ => True) ?hr ?hp (fun _ hk => hk) trivial (Below.refl _ _) (Nat.le_refl _) (by simp) ?_; (case hd => rfl); (case hg => rfl); (case hr => first | (go_simp; done) | (go_simp; rfl)); (case hp => exact (Reps.none _ _)); intro v105 w8 ho9 hb hg_ hnew_; clear hg_ hnew_; (first | rw [← Ny104.out] at ho9 | (simp only [Int.reduceToNat] at ho9; rw [← Ny104.out] at ho9)); refine rn2 (Kd.R_lower ho9 (below_size (by repeat (first | (with_reducible first | exact HB.out | apply below_alloc | apply pw_below_drewN | apply below_drew1) | exact HB.out)))) (below_step (by repeat (first | (with_reducible first | exact HB.out | apply below_alloc | apply pw_below_drewN | apply below_drew1) | exact HB.out)) hb) ?_; clear HB; intro HO106 HB; clear hb ho9))
 go_loopg [9, 10] k (fun kq v9 v10 w' => ∃ (x9_1 : List Int) (x10_1 : Int), v10 = .int .i64 x10_1 ∧ Aside0 (spec_l4Ends.l0 kq l0 a1 a2 a3 x9_1 x10_1 = some r) ∧ Aside0 (kq ≤ k) ∧ Aside0 (Kd.R (Kd.int .i64) 3 w' w.heap.size (fun _ => True) v9 x9_1) ∧ Aside0 (Below w.heap.size w w'))
 case atStart => exact ⟨(y104), (a3), (by first | rfl | (simp; done) | (simp [*]; done)), H', ⟨Nat.le_refl _⟩, ⟨by (with_reducible repeat (first | apply Kd.R_alloc | apply Kd.R_drewN | apply Kd.R_drew)); exact HO106.out⟩, ⟨by repeat (first | (with_reducible first | exact HB.out | apply below_alloc | apply pw_below_drewN | apply below_drew1) | exact HB.out)⟩⟩
 case round =>
  clear H'
  try clear c1
  try clear p2
  try clear c5
  try clear c5b0
  try clear c5b1
  obtain ⟨x9_1, x10_1, rfl, HA, HK1, HO_9, HB⟩ := hrel
  cases gk with
  | zero => exact absurd HA.out (by simp [spec_l4Ends.l0])
  | succ k1 =>
   have H := HA.out
   clear HA
   simp only [spec_l4Ends.l0] at H
   by_cases c10 : x10_1 ≤ (a1.size : Int)
   rotate_left
   ·rw [if_neg c10] at H
    have c10b0 : decide (x10_1 ≤ (a1.size : Int)) = false := decide_eq_false c10
    clear c10
    obtain rfl := Option.some.inj H
    go_wp2
    go_ret
    exact ⟨_, by first | rfl | (simp [errW_none, errW_some] <;> rfl) | (simp [*, errW_none, errW_some] <;> rfl), by (with_reducible repeat (first | apply Kd.R_alloc | apply Kd.R_drewN | apply Kd.R_drew)); exact HO_9.out, by repeat (first | (with_reducible first | exact HB.out | apply below_alloc | apply pw_below_drewN | apply below_drew1) | exact HB.out)⟩
   rw [if_pos c10] at H
   have c10b0 : decide (x10_1 ≤ (a1.size : Int)) = true := decide_eq_true c10
   clear c10
   by_cases c11 : 0 < (a2.size : Int)
   rotate_left
   ·rw [if_neg c11] at H
    exact absurd H (by simp)
   rw [if_pos c11] at H
   have c11b0 : decide (0 < (a2.size : Int)) = true := decide_eq_true c11
   have c11b1 : decide (0 < a2.size) = true := decide_eq_true (by omega)
   clear c11
   replace H := Option.bind_eq_some_iff.mp H
   obtain ⟨t107, A130, H⟩ := H
   replace H : (if t107 = true then (if 1 ≤ (a2.size : Int) then ((spec_l4Ends.f k1 l0 a1 (a2.extract 1 a2.size) x10_1).bind fun t108 => (spec_l4Ends.l1 k1 l0 a1 a2 a3 x9_1 x10_1 t108 0)) else (none)) else (spec_l4Ends.l0 k1 l0 a1 a2 a3 x9_1 (wrap64 (x10_1 + 1)))) = some r := H
   have A13 := Aside0.mk A130
   clear A130
   by_cases c14 : t107 = true
   rotate_left
   ·replace c14 := Bool.eq_false_iff.mpr c14
    subst c14
    have H1 : (spec_l4Ends.l0 k1 l0 a1 a2 a3 x9_1 (wrap64 (x10_1 + 1))) = some r := by rw [if_neg (show ¬ (false = true) by decide)] at H; exact H
    clear H
    have H := H1
    clear H1
    have H' := Aside0.mk H
    clear H
    have p12 : 0 ≤ (0 : Int) := (by omega)
    have q12 : 0 < a2.size := (by have : (0 : Int) < (a2.size : Int) := of_decide_eq_true (by first | (with_reducible assumption) | assumption); omega)
    have hx12 : ∀ h : 0 < a2.size, ((a2[0]'h).toNat : Int) = bt a2 0 := bt_at a2 0
    clear p12
    have qi12 : (0 < (a2.size : Int)) = True := eq_true (of_decide_eq_true (by first | (with_reducible assumption) | assumption))
    replace q12 := eq_true q12
    go_wp2_with (first | ((with_reducible refine gate_callee (f := 184) rfl ?_); refine goesL_ (some 31) rfl rfl Tryd.func184 (by kernel_rfl) rfl #[.slice A0 l0.length c0, .string a1, .int .u8 (bt a2 0), .int .i64 a3, .int .i64 x10_1] rfl (by (try simp only [List.map_toArray, List.map_cons, List.map_nil]); first | done | rfl | (simp only [List.length_drop, List.length_take]; rfl)) ?_; (with_reducible refine (spec_l4Step.calls _ _ l0 a1 (bt a2 0) a3 x10_1 false _ ?side1 ?side2 A13.out).mono ?_); (case side1 => repeat (first | exact (Kd.C_below HR0.out HB.out) | (with_reducible refine Kd.C_alloc ?_ _) | (with_reducible refine Kd.C_drewN ?_ _) | (with_reducible refine Kd.C_drew ?_))); (case side2 => exact HC0.out); rintro e w' ⟨rfl, ⟨nd, rfl⟩⟩; refine ⟨_, rfl, ?_⟩))
    go_roundg k1
    case measure => have := HK1.out; omega
    case rel => exact ⟨(x9_1), (wrap64 (x10_1 + 1)), (by first | rfl | (simp; done) | (simp [*]; done)), H', ⟨by have := HK1.out; omega⟩, ⟨by (with_reducible repeat (first | apply Kd.R_alloc | apply Kd.R_drewN | apply Kd.R_drew)); exact HO_9.out⟩, ⟨by repeat (first | (with_reducible first | exact HB.out | apply below_alloc | apply pw_below_drewN | apply below_drew1) | exact HB.out)⟩⟩
   subst c14
   have H1 : (if 1 ≤ (a2.size : Int) then ((spec_l4Ends.f k1 l0 a1 (a2.extract 1 a2.size) x10_1).bind fun t108 => (spec_l4Ends.l1 k1 l0 a1 a2 a3 x9_1 x10_1 t108 0)) else (none)) = some r := by rw [if_pos rfl] at H; exact H
   clear H
   have H := H1
   clear H1
   by_cases c15 : 1 ≤ (a2.size : Int)
   rotate_left
   ·rw [if_neg c15] at H
    exact absurd H (by simp)
   rw [if_pos c15] at H
   have c15b0 := eq_true c15
   have c15b1 : decide (1 ≤ (a2.size : Int)) = true := decide_eq_true c15
   clear c15
   replace H := Option.bind_eq_some_iff.mp H
   obtain ⟨t108, A160, H⟩ := H
   replace H : (spec_l4Ends.l1 k1 l0 a1 a2 a3 x9_1 x10_1 t108 0) = some r := H
   have A16 := Aside0.mk A160
   clear A160
   have H' := Aside0.mk H
   clear H
   have p12 : 0 ≤ (0 : Int) := (by omega)
   have q12 : 0 < a2.size := (by have : (0 : Int) < (a2.size : Int) := of_decide_eq_true (by first | (with_reducible assumption) | assumption); omega)
   have hx12 : ∀ h : 0 < a2.size, ((a2[0]'h).toNat : Int) = bt a2 0 := bt_at a2 0
   clear p12
   have qi12 : (0 < (a2.size : Int)) = True := eq_true (of_decide_eq_true (by first | (with_reducible assumption) | assumption))
   replace q12 := eq_true q12
   go_wp2_with (first | ((with_reducible refine gate_callee (f := 184) rfl ?_); refine goesL_ (some 31) rfl rfl Tryd.func184 (by kernel_rfl) rfl #[.slice A0 l0.length c0, .string a1, .int .u8 (bt a2 0), .int .i64 a3, .int .i64 x10_1] rfl (by (try simp only [List.map_toArray, List.map_cons, List.map_nil]); first | done | rfl | (simp only [List.length_drop, List.length_take]; rfl)) ?_; (with_reducible refine (spec_l4Step.calls _ _ l0 a1 (bt a2 0) a3 x10_1 true _ ?side1 ?side2 A13.out).mono ?_); (case side1 => repeat (first | exact (Kd.C_below HR0.out HB.out) | (with_reducible refine Kd.C_alloc ?_ _) | (with_reducible refine Kd.C_drewN ?_ _) | (with_reducible refine Kd.C_drew ?_))); (case side2 => exact HC0.out); rintro e w' ⟨rfl, ⟨nd, rfl⟩⟩; refine ⟨_, rfl, ?_⟩) | ((with_reducible refine gate_callee (f := 154) rfl ?_); refine goesL_ (some 38) rfl rfl Tryd.func154 (by kernel_rfl) rfl #[.slice A0 l0.length c0, .string a1, .string (a2.extract 1 a2.size), .int .i64 x10_1] rfl (by (try simp only [List.map_toArray, List.map_cons, List.map_nil]); first | done | rfl | (simp only [List.length_drop, List.length_take]; rfl)) ?_; (with_reducible refine (ih k1 (by have := HK1.out; omega) _ _ l0 a1 (a2.extract 1 a2.size) x10_1 t108 _ ?side1 ?side2 A16.out).mono ?_); (case side1 => repeat (first | exact (Kd.C_below HR0.out (by repeat (first | (with_reducible first | exact HB.out | apply below_alloc | apply pw_below_drewN | apply below_drew1) | exact HB.out))) | (with_reducible refine Kd.C_alloc ?_ _) | (with_reducible refine Kd.C_drewN ?_ _) | (with_reducible refine Kd.C_drew ?_))); (case side2 => exact HC0.out); rintro e w17 ⟨v109, rfl, ho0, hb⟩; refine ⟨_, rfl, ?_⟩; refine rn3 (Kd.R_elder' (by (with_reducible repeat (first | apply Kd.R_alloc | apply Kd.R_drewN | apply Kd.R_drew)); exact HO_9.out) (Kd.R_base ho0) hb) (Kd.R_lower (Kd.R_new' ho0 (Kd.R_lt (by (with_reducible repeat (first | apply Kd.R_alloc | apply Kd.R_drewN | apply Kd.R_drew)); exact HO_9.out))) (below_size (by repeat (first | (with_reducible first | exact HB.out | apply below_alloc | apply pw_below_drewN | apply below_drew1) | exact HB.out)))) (below_step (by repeat (first | (with_reducible first | exact HB.out | apply below_alloc | apply pw_below_drewN | apply below_drew1) | exact HB.out)) hb) ?_; clear HO_9 HB; intro HO_9 HO110 HB; (try clear hb); (try clear hb2); (try clear hk); (try clear hi); (try clear ho0)))
   go_loopg [9, 12] k1 (fun kq v9 v12 w' => ∃ (x9_2 : List Int) (x12_2 : Int), v12 = .int .i64 x12_2 ∧ Aside0 (spec_l4Ends.l1 kq l0 a1 a2 a3 x9_2 x10_1 t108 x12_2 = some r) ∧ Aside0 (kq ≤ k1) ∧ Aside0 (Kd.R (Kd.int .i64) 3 w' w.heap.size (fun k_ => some k_ ≠ (v109 : Value).ownBlock) v9 x9_2) ∧ Aside0 (Kd.R (Kd.int .i64) 3 w' w.heap.size (fun k_ => some k_ ≠ (v9 : Value).ownBlock) v109 t108) ∧ Aside0 (Below w.heap.size w w'))
   case atStart => exact ⟨(x9_1), (0), (by first | rfl | (simp; done) | (simp [*]; done)), H', ⟨Nat.le_refl _⟩, ⟨by (with_reducible repeat (first | apply Kd.R_alloc | apply Kd.R_drewN | apply Kd.R_drew)); exact Kd.R_mono HO_9.out (fun _ hk => hk.2)⟩, ⟨by (with_reducible repeat (first | apply Kd.R_alloc | apply Kd.R_drewN | apply Kd.R_drew)); exact Kd.R_mono HO110.out (fun _ hk => hk.2)⟩, ⟨by repeat (first | (with_reducible first | exact HB.out | apply below_alloc | apply pw_below_drewN | apply below_drew1) | exact HB.out)⟩⟩
   case round =>
    clear H'
    try clear c1
    try clear p1
    try clear q1
    try clear hx1
    try clear qi1
    try clear p2
    try clear c5
    try clear c5b0
    try clear c5b1
    try clear p6
    try clear c10
    try clear c10b0
    try clear c11
    try clear c11b0
    try clear c11b1
    try clear p12
    try clear q12
    try clear hx12
    try clear qi12
    try clear c14
    try clear c15
    try clear c15b0
    try clear c15b1
    try clear p12
    try clear p2
    try clear q12
    obtain ⟨x9_2, x12_2, rfl, HA, HK2, HO_9, HO_11, HB⟩ := hrel
    cases gk with
    | zero => exact absurd HA.out (by simp [spec_l4Ends.l1])
    | succ k2 =>
     have H := HA.out
     clear HA
     simp only [spec_l4Ends.l1] at H
     by_cases c18 : x12_2 < (t108.length : Int)
     rotate_left
     ·rw [if_neg c18] at H
      have c18b0 : decide (x12_2 < (t108.length : Int)) = false := decide_eq_false c18
      clear c18
      have H' := Aside0.mk H
      clear H
      obtain ⟨Ao23, co23, eo23⟩ := Kd.R_slice HO_11.out
      subst eo23
      go_wp2
      go_roundg k2
      case measure => have := HK1.out; have := HK2.out; omega
      case rel => exact ⟨(x9_2), (wrap64 (x10_1 + 1)), (by first | rfl | (simp; done) | (simp [*]; done)), H', ⟨by have := HK1.out; have := HK2.out; omega⟩, ⟨by (with_reducible repeat (first | apply Kd.R_alloc | apply Kd.R_drewN | apply Kd.R_drew)); exact Kd.R_mono HO_9.out (fun _ hk => trivial)⟩, ⟨by repeat (first | (with_reducible first | exact HB.out | apply below_alloc | apply pw_below_drewN | apply below_drew1) | exact HB.out)⟩⟩
     rw [if_pos c18] at H
     have c18b0 : decide (x12_2 < (t108.length : Int)) = true := decide_eq_true c18
     clear c18
     by_cases c19 : 0 ≤ x12_2
     rotate_left
     ·rw [if_neg c19] at H
      exact absurd H (by simp)
     rw [if_pos c19] at H
     have c19b0 : decide (0 ≤ x12_2) = true := decide_eq_true c19
     clear c19
     by_cases c20 : x9_2.length < 17592186044416
     rotate_left
     ·rw [if_neg c20] at H
      exact absurd H (by simp)
     rw [if_pos c20] at H
     have LMc20 := Aside0.mk c20
     clear c20
     obtain ⟨y112, hy112⟩ : ∃ y_ : List Int, y_ = (x9_2 ++ [rd t108 x12_2]) := ⟨_, rfl⟩
     replace H : (spec_l4Ends.l1 k2 l0 a1 a2 a3 y112 x10_1 t108 (wrap64 (x12_2 + 1))) = some r := by first | (rw [hy112]; with_reducible exact H) | (have H2_ := (Option.bind_some _ _).symm.trans H; rw [hy112]; with_reducible exact H2_) | (have H2_ := (Option.bind_some _ _).symm.trans H; with_reducible exact H2_) | with_reducible exact H | (rw [hy112]; exact H) | exact H
     have Ny112 := Aside0.mk hy112
     clear hy112
     have H' := Aside0.mk H
     clear H
     obtain ⟨Ao21, co21, eo21⟩ := Kd.R_slice HO_11.out
     subst eo21
     have p111 : 0 ≤ (x12_2 : Int) := of_decide_eq_true (by first | (with_reducible assumption) | assumption)
     have q111 : x12_2 < (t108.length : Int) := of_decide_eq_true (by first | (with_reducible assumption) | assumption)
     obtain ⟨ad111, e111, hx111_0⟩ := Kd.at_int (Kd.R_reads' HO_11.out).2.2 x12_2 p111 q111
     cases e111
     replace p111 := eq_true p111
     replace q111 := eq_true q111
     go_wp2_with (first | ((with_reducible refine gate_builtin (b := .append) (xs := #[.tmp 45, .tmp 50]) rfl ?_); at_builtin; refine Kd.R_append (Kd.int .i64) (w0 := w) w.heap.size rfl (.tmp 45) (.tmp 50) 117 3 (.int .i64 0) 8 rfl Tryd.underlying117 info3 rfl (by decide) (by omega) u9 x9_2 (rd t108 x12_2) [.int .i64 (rd t108 x12_2)] (fun k_ => some k_ ≠ (.slice (some ad111) t108.length co21 : Value).ownBlock) (fun _ => False) rfl rfl ?aP (fun _ hk => hk.elim) ?aF ?aO ?aB ?aS ?aL ?_; (case aP => exact rfl); (case aB => exact (by repeat (first | (with_reducible first | exact HB.out | apply below_alloc | apply pw_below_drewN | apply below_drew1) | exact HB.out))); (case aF => exact (fun k_ hk => Kd.fresh' (Kd.R_lt (by (with_reducible repeat (first | apply Kd.R_alloc | apply Kd.R_drewN | apply Kd.R_drew)); exact HO_11.out)) k_ hk)); (case aO => exact (by (with_reducible repeat (first | apply Kd.R_alloc | apply Kd.R_drewN | apply Kd.R_drew)); exact HO_9.out)); (case aS => exact (below_size (by repeat (first | (with_reducible first | exact HB.out | apply below_alloc | apply pw_below_drewN | apply below_drew1) | exact HB.out)))); (case aL => have := LMc20.out; omega); intro v113 w22 ho hb hg hat; rw [← Ny112.out] at ho; refine rn3 (Kd.R_after (ok := (fun _ => True)) (by (with_reducible repeat (first | apply Kd.R_alloc | apply Kd.R_drewN | apply Kd.R_drew)); exact Kd.R_mono HO_11.out (fun _ hk => ⟨trivial, hk⟩)) hg hat) (hb) (ho) ?_; clear HO_11 HB HO_9; intro HO_11 HB HO114; clear ho hb hg hat))
     go_roundg k2
     case measure => have := HK1.out; have := HK2.out; omega
     case rel => exact ⟨(y112), (wrap64 (x12_2 + 1)), (by first | rfl | (simp; done) | (simp [*]; done)), H', ⟨by have := HK1.out; have := HK2.out; omega⟩, ⟨by (with_reducible repeat (first | apply Kd.R_alloc | apply Kd.R_drewN | apply Kd.R_drew)); exact HO114.out⟩, ⟨by (with_reducible repeat (first | apply Kd.R_alloc | apply Kd.R_drewN | apply Kd.R_drew)); exact Kd.R_mono HO_11.out (fun _ hk => hk.2)⟩, ⟨by repeat (first | (with_reducible first | exact HB.out | apply below_alloc | apply pw_below_drewN | apply below_drew1) | exact HB.out)⟩⟩
end Go.Proofs.YtiibnkibckklgaaDoor.P
namespace Go.Proofs.YtiibnkibckklgaaDoor.P
set_option linter.unusedVariables false
set_option linter.unusedSimpArgs false
open Go.RowKit Go.Proofs.YtiibnkibckklgaaDoorW.PrintWords
abbrev Cube (α : Type) := Nat → Nat → Nat → α
def cubeL {α : Type} (n : Nat) (F : Cube α) : List (List (List α)) := (List.range 5).map fun i => (List.range n).map fun k => (List.range n).map fun j => F i k j
structure Grid (W : World) (B n ob oc : Nat) (rb rc : Nat → Nat) (cb : Nat → Nat → Nat) (F : Cube Bool) : Prop where
 top : ∀ i, i < 5 → W.cell? ⟨ob, i, none⟩ = some (.slice (some ⟨rb i, 0, none⟩) n (rc i))
 row : ∀ i k, i < 5 → k < n → W.cell? ⟨rb i, k, none⟩ = some (.slice (some ⟨cb i k, 0, none⟩) n n)
 bits : ∀ i k, i < 5 → k < n → W.rowIs (cb i k) 4 n (fun j => .bool (F i k j))
 inj : ∀ i k i' k', i < 5 → k < n → i' < 5 → k' < n → cb i k = cb i' k' → i = i' ∧ k = k'
 top' : ∀ i k, i < 5 → k < n → cb i k ≠ ob
 row' : ∀ i k i', i < 5 → k < n → i' < 5 → cb i k ≠ rb i'
 new : ∀ i k, i < 5 → k < n → B ≤ cb i k
 caps : 5 ≤ oc ∧ ∀ i, i < 5 → n ≤ rc i
 lt : ob < W.heap.size ∧ (∀ i, i < 5 → rb i < W.heap.size)
theorem cell_eq {w w' : World} {b o : Nat} (h : w'.heap[b]? = w.heap[b]?) : w'.cell? ⟨b, o, none⟩ = w.cell? ⟨b, o, none⟩ := World.cell?_of_block (w := w) (w' := w') h
theorem Grid.below {W W' : World} {B n ob oc : Nat} {rb rc : Nat → Nat} {cb : Nat → Nat → Nat} {F : Cube Bool} (h : Grid W B n ob oc rb rc cb F) (hb : Below W.heap.size W W') : Grid W' B n ob oc rb rc cb F :=
 ⟨fun i hi => (cell_eq (hb.block ob h.lt.1)).trans (h.top i hi), fun i k hi hk => (cell_eq (hb.block _ (h.lt.2 i hi))).trans (h.row i k hi hk), fun i k hi hk => (h.bits i k hi hk).of_block (hb.block _ (h.bits i k hi hk).lt), h.inj, h.top', h.row', h.new, h.caps, ⟨Nat.lt_of_lt_of_le h.lt.1 hb.size, fun i hi => Nat.lt_of_lt_of_le (h.lt.2 i hi) hb.size⟩⟩
def setF {α : Type} (F : Cube α) (i k j : Nat) (v : α) : Cube α := fun i' k' j' => if i' = i ∧ k' = k ∧ j' = j then v else F i' k' j'
theorem Grid.set {W : World} {B n ob oc : Nat} {rb rc : Nat → Nat} {cb : Nat → Nat → Nat} {F : Cube Bool} (h : Grid W B n ob oc rb rc cb F) {i k j : Nat} (hi : i < 5) (hk : k < n) (v : Bool) : Grid (W.setCell ⟨cb i k, j, none⟩ (.bool v)) B n ob oc rb rc cb (setF F i k j v) := by
 have far : ∀ b, b ≠ cb i k → (W.setCell ⟨cb i k, j, none⟩ (.bool v)).heap[b]? = W.heap[b]? := fun b hb => Below.heap_setCell W ⟨cb i k, j, none⟩ (.bool v) b hb
 refine ⟨fun i' hi' => (cell_eq (far ob (fun e => h.top' i k hi hk e.symm))).trans (h.top i' hi'), fun i' k' hi' hk' => (cell_eq (far _ (fun e => h.row' i k i' hi hk hi' e.symm))).trans (h.row i' k' hi' hk'), fun i' k' hi' hk' => ?_, h.inj, h.top', h.row', h.new, h.caps, ⟨by simpa using h.lt.1, fun i hi => by simpa using h.lt.2 i hi⟩⟩
 by_cases e : i' = i ∧ k' = k
 ·obtain ⟨rfl, rfl⟩ := e
  refine ((h.bits i' k' hi hk).set j (.bool v)).congr fun j' _ => ?_
  unfold setF
  by_cases ej : j' = j
  ·subst ej; simp
  simp [ej]
 have hne : cb i' k' ≠ cb i k := fun he => e (h.inj i' k' i k hi' hk' hi hk he)
 refine ((h.bits i' k' hi' hk').of_block (far _ hne)).congr fun j' _ => ?_
 unfold setF
 rw [if_neg (fun h => e ⟨h.1, h.2.1⟩)]
theorem add_zero_addr (b j : Nat) : (⟨b, 0, none⟩ : Addr).add j = ⟨b, j, none⟩ := by simp [Addr.add]; exact fun h => h.symm
theorem Grid.reads {W : World} {B n ob oc : Nat} {rb rc : Nat → Nat} {cb : Nat → Nat → Nat} {F : Cube Bool} (h : Grid W B n ob oc rb rc cb F) (hn : n ≤ 1000000) : Kd.C (Kd.slice 139 (Kd.slice 4 Kd.bool)) W (some ⟨ob, 0, none⟩) (cubeL n F).length (cubeL n F) := by
 have hl : (cubeL n F).length = 5 := by unfold cubeL; rw [List.length_map, List.length_range]
 refine ⟨rfl, by omega, fun _ => ⟨_, rfl, fun i p hp => ?_⟩⟩
 unfold cubeL at hp
 rw [List.getElem?_map] at hp
 obtain ⟨i', hi', rfl⟩ := Option.map_eq_some_iff.1 hp
 obtain ⟨hil, rfl⟩ := List.getElem?_eq_some_iff.1 hi'
 rw [List.length_range] at hil
 rw [List.getElem_range]
 refine ⟨[.slice (some ⟨rb i, 0, none⟩) n (rc i)], rfl, ⟨some ⟨rb i, 0, none⟩, rc i, by simp, by simpa using h.caps.2 i hil, ?_⟩, fun q u hu => ?_⟩
 ·refine ⟨rfl, by simp; omega, fun _ => ⟨_, rfl, fun k p hp => ?_⟩⟩
  rw [List.getElem?_map] at hp
  obtain ⟨k', hk', rfl⟩ := Option.map_eq_some_iff.1 hp
  obtain ⟨hkl, rfl⟩ := List.getElem?_eq_some_iff.1 hk'
  rw [List.length_range] at hkl
  rw [List.getElem_range]
  refine ⟨[.slice (some ⟨cb i k, 0, none⟩) n n], rfl, ⟨some ⟨cb i k, 0, none⟩, n, by simp, by simp, ?_⟩, fun q u hu => ?_⟩
  ·refine ⟨rfl, by simp; omega, fun _ => ⟨_, rfl, fun j p hp => ?_⟩⟩
   rw [List.getElem?_map] at hp
   obtain ⟨j', hj', rfl⟩ := Option.map_eq_some_iff.1 hp
   obtain ⟨hjl, rfl⟩ := List.getElem?_eq_some_iff.1 hj'
   rw [List.length_range] at hjl
   rw [List.getElem_range]
   refine ⟨[.bool (F i k j)], rfl, rfl, fun q u hu => ?_⟩
   cases q with
   | succ q => simp at hu
   | zero =>
    simp at hu
    subst hu
    rw [show j * Kd.bool.sz + 0 = j from Nat.mul_one j, add_zero_addr]
    exact (h.bits i k hil hkl).cell hjl
  cases q with
  | succ q => simp at hu
  | zero =>
   simp at hu
   subst hu
   rw [show k * (Kd.slice 4 Kd.bool).sz + 0 = k from Nat.mul_one k, add_zero_addr]
   exact h.row i k hil hkl
 cases q with
 | succ q => simp at hu
 | zero =>
  simp at hu
  subst hu
  rw [show i * (Kd.slice 139 (Kd.slice 4 Kd.bool)).sz + 0 = i from Nat.mul_one i, add_zero_addr]
  exact h.top i hil
/-! ### plain: l4Step, l4Ends -/
theorem rd_cube1 {n : Nat} {F : Cube Bool} {i : Nat} (hi : i < 5) : rd_L12 (cubeL n F) ((i : Nat) : Int) = (List.range n).map fun k => (List.range n).map fun j => F i k j := by
 unfold rd_L12 cubeL
 rw [List.getD_eq_getElem?_getD, List.getElem?_map, show ((i : Nat) : Int).toNat = i by omega, List.getElem?_range hi]
 rfl
theorem rd_cube2 {n : Nat} {g : Nat → Nat → Bool} {k : Nat} (hk : k < n) : rd_L11 ((List.range n).map fun k => (List.range n).map fun j => g k j) ((k : Nat) : Int) = (List.range n).map fun j => g k j := by
 unfold rd_L11
 rw [List.getD_eq_getElem?_getD, List.getElem?_map, show ((k : Nat) : Int).toNat = k by omega, List.getElem?_range hk]
 rfl
theorem rd_cube3 {n : Nat} {g : Nat → Bool} {j : Nat} (hj : j < n) : rdOf false ((List.range n).map fun j => g j) ((j : Nat) : Int) = g j := by
 unfold rdOf
 rw [List.getD_eq_getElem?_getD, List.getElem?_map, show ((j : Nat) : Int).toNat = j by omega, List.getElem?_range hj]
 rfl
def chF (n : Nat) (F : Cube Bool) : Chart := fun c i j => isBigB c = true ∧ i < n ∧ j < n ∧ F (c.toNat - 65) i j = true
open Classical in
theorem spec_l4Step.is {t : ByteArray} {F : Cube Bool} (ht : t.size ≤ 1000) {c : UInt8} (hc : isSignB c = true) {i j : Nat} (hij : i ≤ j) (hj : j ≤ t.size) :
  spec_l4Step.f (cubeL (t.size + 1) F) t (c.toNat : Int) i j = some (decide (DerP (chF (t.size + 1) F) t.data.toList c i j)) := by
 unfold spec_l4Step.f
 rw [spec_l1Small.is]
 simp only [Option.bind_some]
 by_cases hs : isSmallB c = true
 ·rw [if_pos hs, w64 (by omega) (by omega)]
  by_cases e : j = i + 1
  ·subst e
   have hil : i < t.data.toList.length := by rw [← size_toList]; omega
   rw [if_pos (by omega), if_pos (by omega), if_pos (by omega), bt_get t i (by omega)]
   congr 1
   rw [Bool.eq_iff_iff, decide_eq_true_iff]
   unfold DerP
   rw [if_pos hs, List.getElem?_eq_getElem hil, beq_iff_eq]
   constructor
   ·intro h
    exact ⟨rfl, by rw [show t.data.toList[i] = c from UInt8.toNat_inj.1 (by omega)]⟩
   rintro ⟨_, h⟩
   rw [Option.some.inj h]
  rw [if_neg (by omega)]
  congr 1
  symm
  rw [decide_eq_false_iff_not]
  unfold DerP
  rw [if_pos hs]
  exact fun h => e h.1
 have hb : isBigB c = true := by
  rw [isSignB_eq, Bool.or_eq_true] at hc
  exact hc.resolve_right hs
 have hci := (isBigB_iff c).1 hb
 rw [if_neg hs]
 obtain ⟨q, hq⟩ : ∃ q, q = c.toNat - 65 := ⟨_, rfl⟩
 have e1 : ((c.toNat : Int) - 65) % 256 = (q : Int) := by omega
 have hl : (cubeL (t.size + 1) F).length = 5 := by unfold cubeL; rw [List.length_map, List.length_range]
 rw [e1, if_pos (by omega), if_pos (by omega), if_pos (by omega), rd_cube1 (by omega), if_pos (by rw [List.length_map, List.length_range]; omega), if_pos (by omega), rd_cube2 (by omega), if_pos (by rw [List.length_map, List.length_range]; omega), rd_cube3 (by omega)]
 congr 1
 rw [Bool.eq_iff_iff, decide_eq_true_iff]
 unfold DerP chF
 rw [if_neg hs, ← hq]
 exact ⟨fun h => ⟨hb, by omega, by omega, h⟩, fun h => h.2.2.2⟩
theorem pow_le_4 {n m : Nat} (h : m ≤ 4) (hn : 1 ≤ n) (hn2 : n ≤ 1001) : n ^ m ≤ 1004006004001 := by
 calc n ^ m ≤ n ^ 4 := Nat.pow_le_pow_right hn h
  _ ≤ 1001 ^ 4 := Nat.pow_le_pow_left hn2 4
  _ = 1004006004001 := by decide
open Classical in
theorem spec_l4Ends.tot {t : ByteArray} {F : Cube Bool} (ht : t.size ≤ 1000) : ∀ (r : List UInt8), r.length ≤ 4 → (∀ c ∈ r, isSignB c = true) → ∀ (i : Nat), i ≤ t.size →
  Tot (fun k => spec_l4Ends.f k (cubeL (t.size + 1) F) t (ofL r) i) (fun E => (∀ x ∈ E, ∃ m : Nat, x = (m : Int) ∧ i ≤ m ∧ m ≤ t.size) ∧ (∀ m : Nat, m ≤ t.size → ((m : Int) ∈ E ↔ SplitP (chF (t.size + 1) F) t.data.toList r i m)) ∧ E.length ≤ (t.size + 1) ^ r.length) := by
 intro r
 induction r with
 | nil =>
  intro _ _ i hi
  refine Tot.step (fun k => by rw [spec_l4Ends.f]) (Tot.pos (by rw [bytes_toList]; rfl) (Tot.ret ⟨?_, ?_, ?_⟩))
  ·intro x hx; rw [List.mem_singleton.1 hx]; exact ⟨i, rfl, Nat.le_refl _, hi⟩
  ·intro m hm
   rw [List.mem_singleton]
   show _ ↔ i = m
   omega
  exact Nat.le_of_eq (by simp)
 | cons c r ih =>
  intro hl hs i hi
  have hl' : r.length ≤ 3 := by simp at hl; omega
  have hsz : (ofL (c :: r)).size = r.length + 1 := by rw [ofL_size]; rfl
  have hb0 : bt (ofL (c :: r)) 0 = (c.toNat : Int) := bt_get (ofL (c :: r)) 0 (by omega)
  have hex : (ofL (c :: r)).extract 1 (ofL (c :: r)).size = ofL r := by
   rw [ex_ofL, ofL_list, hsz]
   unfold part
   simp
  have hih := ih (by omega) (fun d hd => hs d (List.mem_cons_of_mem _ hd))
  have hpow : (t.size + 1) ^ (r.length + 1) ≤ 1004006004001 := pow_le_4 (by omega) (by omega) (by omega)
  have hps : (t.size + 1) ^ (r.length + 1) = (t.size + 1) ^ r.length * (t.size + 1) := Nat.pow_succ ..
  -- the places one by one
  have run : ∀ (d m : Nat), m + d = t.size + 1 → i ≤ m → ∀ acc : List Int, (∀ x ∈ acc, ∃ q : Nat, x = (q : Int) ∧ i ≤ q ∧ q ≤ t.size) → (∀ q : Nat, q ≤ t.size → ((q : Int) ∈ acc ↔ ∃ p, i ≤ p ∧ p < m ∧ p ≤ q ∧ DerP (chF (t.size + 1) F) t.data.toList c i p ∧ SplitP (chF (t.size + 1) F) t.data.toList r p q)) → acc.length ≤ (t.size + 1) ^ r.length * m →
    Tot (fun k => spec_l4Ends.l0 k (cubeL (t.size + 1) F) t (ofL (c :: r)) (i : Int) acc (m : Int)) (fun E => (∀ x ∈ E, ∃ m : Nat, x = (m : Int) ∧ i ≤ m ∧ m ≤ t.size) ∧ (∀ m : Nat, m ≤ t.size → ((m : Int) ∈ E ↔ SplitP (chF (t.size + 1) F) t.data.toList (c :: r) i m)) ∧ E.length ≤ (t.size + 1) ^ (r.length + 1)) := by
   intro d
   induction d with
   | zero =>
    intro m hm him acc h1 h2 h3
    refine Tot.step (fun k => by rw [spec_l4Ends.l0]) (Tot.neg (by omega) (Tot.ret ⟨h1, ?_, ?_⟩))
    ·intro q hq
     rw [h2 q hq]
     constructor
     ·rintro ⟨p, a, b, b2, e, f⟩
      exact ⟨p, a, b2, e, f⟩
     rintro ⟨p, a, b, e, f⟩
     exact ⟨p, a, by omega, b, e, f⟩
    obtain rfl : m = t.size + 1 := by omega
    rw [hps]
    exact h3
   | succ d ihd =>
    intro m hm him acc h1 h2 h3
    refine Tot.step (fun k => by rw [spec_l4Ends.l0]) (Tot.pos (by omega) (Tot.pos (by omega) ?_))
    rw [hb0, spec_l4Step.is ht (hs c List.mem_cons_self) him (show m ≤ t.size by omega)]
    simp only [Option.bind_some]
    have hgrow : (t.size + 1) ^ r.length * m + (t.size + 1) ^ r.length ≤ (t.size + 1) ^ r.length * (m + 1) := Nat.le_of_eq (Nat.mul_succ _ _).symm
    have htop : (t.size + 1) ^ r.length * (m + 1) ≤ (t.size + 1) ^ r.length * (t.size + 1) := Nat.mul_le_mul_left _ (by omega)
    refine Tot.ite (fun hd => ?_) (fun hd => ?_)
    ·have hd := of_decide_eq_true hd
     refine Tot.pos (by omega) ?_
     rw [hex]
     refine Tot.bind (hih m (by omega)) fun R hR => ?_
     have app : ∀ (e q : Nat), q + e = R.length → Tot (fun k => spec_l4Ends.l1 k (cubeL (t.size + 1) F) t (ofL (c :: r)) (i : Int) (acc ++ R.take q) (m : Int) R (q : Int)) (fun E => (∀ x ∈ E, ∃ m : Nat, x = (m : Int) ∧ i ≤ m ∧ m ≤ t.size) ∧ (∀ m : Nat, m ≤ t.size → ((m : Int) ∈ E ↔ SplitP (chF (t.size + 1) F) t.data.toList (c :: r) i m)) ∧ E.length ≤ (t.size + 1) ^ (r.length + 1)) := by
      intro e
      induction e with
      | zero =>
       intro q hq
       refine Tot.step (fun k => by rw [spec_l4Ends.l1]) (Tot.neg (by omega) ?_)
       rw [List.take_of_length_le (by omega), w64 (by omega) (by omega)]
       refine ihd (m + 1) (by omega) (by omega) (acc ++ R) ?_ ?_ ?_
       ·intro x hx
        rcases List.mem_append.1 hx with hx | hx
        ·exact h1 x hx
        obtain ⟨p, rfl, a, b⟩ := hR.1 x hx
        exact ⟨p, rfl, by omega, b⟩
       ·intro q hq
        rw [List.mem_append, h2 q hq, hR.2.1 q hq]
        constructor
        ·rintro (⟨p, a, b, b2, e, f⟩ | h)
         ·exact ⟨p, a, by omega, b2, e, f⟩
         exact ⟨m, him, by omega, h.le, hd, h⟩
        rintro ⟨p, a, b, b2, e, f⟩
        by_cases hpm : p = m
        ·subst hpm; exact Or.inr f
        exact Or.inl ⟨p, a, by omega, b2, e, f⟩
       rw [List.length_append]
       have := hR.2.2
       omega
      | succ e ihe =>
       intro q hq
       have hql : q < R.length := by omega
       have hlen : (acc ++ R.take q).length ≤ (t.size + 1) ^ r.length * (m + 1) := by
        rw [List.length_append, List.length_take]
        have := hR.2.2
        omega
       refine Tot.step (fun k => by rw [spec_l4Ends.l1]) (Tot.pos (by omega) (Tot.pos (by omega) (Tot.pos (by omega) ?_)))
       rw [w64 (by omega) (by omega)]
       have e2 : acc ++ R.take q ++ [rd R (q : Int)] = acc ++ R.take (q + 1) := by
        rw [List.take_succ_eq_append_getElem hql, List.append_assoc]
        congr 2
        unfold rd
        rw [List.getD_eq_getElem?_getD, show ((q : Nat) : Int).toNat = q by omega, List.getElem?_eq_getElem hql]; rfl
       rw [e2]
       exact ihe (q + 1) (by omega)
     have := app R.length 0 (by omega)
     rw [List.take_zero, List.append_nil] at this
     exact this
    have hd := fun h => hd (decide_eq_true h)
    rw [w64 (by omega) (by omega)]
    refine ihd (m + 1) (by omega) (by omega) acc h1 ?_ (by omega)
    intro q hq
    rw [h2 q hq]
    constructor
    ·rintro ⟨p, a, b, b2, e, f⟩
     exact ⟨p, a, by omega, b2, e, f⟩
    rintro ⟨p, a, b, b2, e, f⟩
    by_cases hpm : p = m
    ·subst hpm; exact absurd e hd
    exact ⟨p, a, by omega, b2, e, f⟩
  refine Tot.step (fun k => by rw [spec_l4Ends.f]) (Tot.neg (by rw [bytes_toList]; intro h; cases h) ?_)
  refine run (t.size + 1 - i) i (by omega) (Nat.le_refl _) [] (by simp) ?_ (by simp)
  intro q hq
  constructor
  ·intro h; cases h
  rintro ⟨p, a, b, _⟩; omega
end Go.Proofs.YtiibnkibckklgaaDoor.P
namespace Go.Proofs.YtiibnkibckklgaaDoor.P
open Go.RowKit Go.Proofs.YtiibnkibckklgaaDoorW.PrintWords Go.Proofs.YtiibnkibckklgaaDoorW.PrintLast Go.Proofs.YtiibnkibckklgaaDoorW.PrintMore
set_option linter.unusedVariables false
set_option linter.unusedSimpArgs false
theorem info_bool : (Tryd.prog.info? 4).map (fun i => (i.zero, i.size, i.bytes)) = some (some (.bool false), 1, 1) := by kernel_rfl
theorem info_bools : (Tryd.prog.info? 139).map (fun i => (i.zero, i.size, i.bytes)) = some (some (.slice none 0 0), 1, 24) := by kernel_rfl
theorem info_bools2 : (Tryd.prog.info? 140).map (fun i => (i.zero, i.size, i.bytes)) = some (some (.slice none 0 0), 1, 24) := by kernel_rfl
structure RowB (W : World) (B n k : Nat) (v : Value) (cb : Nat → Nat) : Prop where
 own : W.ownsRow B 139 1 v k ((List.range k).map fun j => .slice (some ⟨cb j, 0, none⟩) n n)
 bits : ∀ j, j < k → W.rowIs (cb j) 4 n (fun _ => .bool false)
 new : ∀ j, j < k → B ≤ cb j
 inj : ∀ j j', j < k → j' < k → cb j = cb j' → j = j'
structure RowC (W : World) (B n i : Nat) (v : Value) (rv : Nat → Value) (cb : Nat → Nat → Nat) : Prop where
 own : W.ownsRow B 140 1 v i ((List.range i).map rv)
 rows : ∀ j, j < i → RowB W B n n (rv j) (cb j)
 inj : ∀ j k j' k', j < i → k < n → j' < i → k' < n → cb j k = cb j' k' → j = j'
theorem ownBlock_ne {W : World} {B : Nat} {e t : TypeId} {sz n m : Nat} {v : Value} {xs : List Value} {f : Nat → Value} (ho : W.ownsRow B e sz v m xs) {b : Nat} (hb : W.rowIs b t n f) (ht : t ≠ e) : some b ≠ v.ownBlock := by
 intro h
 obtain ⟨cells, hc⟩ := own_typed ho b h.symm
 obtain ⟨c, h1, _⟩ := hb
 rw [h1] at hc
 injection hc with hc
 injection hc with _ hc
 exact ht hc
theorem RowB.grown {W W' : World} {B n k : Nat} {v : Value} {cb : Nat → Nat} (h : RowB W B n k v cb) {row : Option Nat} (hg : W.grownBy W' row) (h1 : ∀ b, v.ownBlock = some b → some b ≠ row) (h2 : ∀ j, j < k → some (cb j) ≠ row) : RowB W' B n k v cb :=
 ⟨own_move h.own (fun b hb => hg.block b (own_lt h.own b hb) (h1 b hb)), fun j hj => (h.bits j hj).of_block (hg.block _ (h.bits j hj).lt (h2 j hj)), h.new, h.inj⟩
theorem below_grown' {w w' : World} (h : Below w.heap.size w w') : w.grownBy w' none := ⟨h.os, h.tape, h.output, h.size, fun i hi _ => h.block i hi⟩
theorem RowB.below {W W' : World} {B n k : Nat} {v : Value} {cb : Nat → Nat} (h : RowB W B n k v cb) (hb : Below W.heap.size W W') : RowB W' B n k v cb := h.grown (below_grown' hb) (by simp) (by simp)
theorem RowC.grown {W W' : World} {B n i : Nat} {v : Value} {rv : Nat → Value} {cb : Nat → Nat → Nat} (h : RowC W B n i v rv cb) {row : Option Nat} (hg : W.grownBy W' row) (h0 : ∀ b, v.ownBlock = some b → some b ≠ row) (h1 : ∀ j, j < i → ∀ b, (rv j).ownBlock = some b → some b ≠ row) (h2 : ∀ j k, j < i → k < n → some (cb j k) ≠ row) : RowC W' B n i v rv cb :=
 ⟨own_move h.own (fun b hb => hg.block b (own_lt h.own b hb) (h0 b hb)), fun j hj => (h.rows j hj).grown hg (h1 j hj) (fun k hk => h2 j k hj hk), h.inj⟩
theorem RowC.below {W W' : World} {B n i : Nat} {v : Value} {rv : Nat → Value} {cb : Nat → Nat → Nat} (h : RowC W B n i v rv cb) (hb : Below W.heap.size W W') : RowC W' B n i v rv cb := h.grown (below_grown' hb) (by simp) (by simp) (by simp)
theorem rowC_start {W : World} {B n : Nat} (hB : B ≤ W.heap.size) (rv : Nat → Value) (cb : Nat → Nat → Nat) : RowC (W.alloc (.cells #[] 140)) B n 0 (.slice (some ⟨W.heap.size, 0, none⟩) 0 0) rv cb :=
 ⟨⟨rfl, .inr ⟨W.heap.size, 0, #[], rfl, hB, blk_new _ _, Nat.le_refl _, Nat.zero_le _, rfl, rfl⟩⟩, fun j hj => absurd hj (Nat.not_lt_zero _), fun j k j' k' hj => absurd hj (Nat.not_lt_zero _)⟩
theorem rowB_start {W : World} {B n : Nat} (hB : B ≤ W.heap.size) (cb : Nat → Nat) : RowB (W.alloc (.cells #[] 139)) B n 0 (.slice (some ⟨W.heap.size, 0, none⟩) 0 0) cb :=
 ⟨⟨rfl, .inr ⟨W.heap.size, 0, #[], rfl, hB, blk_new _ _, Nat.le_refl _, Nat.zero_le _, rfl, rfl⟩⟩, fun j hj => absurd hj (Nat.not_lt_zero _), fun j hj => absurd hj (Nat.not_lt_zero _), fun j j' hj => absurd hj (Nat.not_lt_zero _)⟩
theorem range_push {α : Type} (k : Nat) (f g : Nat → α) (h : ∀ j, j < k → f j = g j) : (List.range (k + 1)).map f = (List.range k).map g ++ [f k] := by
 rw [List.range_succ, List.map_append]
 congr 1
 exact List.map_congr_left fun j hj => h j (List.mem_range.1 hj)
theorem rowB_push {W W' : World} {B n k : Nat} {v v' : Value} {cb : Nat → Nat} (h : RowB W B n k v cb) (hB : B ≤ W.heap.size) (hown : W'.ownsRow B 139 1 v' (k + 1) (((List.range k).map fun j => .slice (some ⟨cb j, 0, none⟩) n n) ++ [.slice (some ⟨W.heap.size, 0, none⟩) n n]))
  (hg : (W.alloc (.cells (madeCells #[.bool false] n) 4)).grownBy W' v.ownBlock) : RowB W' B n (k + 1) v' (fun j => if j = k then W.heap.size else cb j) := by
 have hnew := World.rowIs_made W (.bool false) n 4
 have hb := below_alloc (Below.refl W.heap.size W) (.cells (madeCells #[.bool false] n) 4)
 have h' := h.below hb
 refine ⟨?_, fun j hj => ?_, fun j hj => ?_, fun j j' hj hj' e => ?_⟩
 ·rw [range_push k _ (fun j => Value.slice (some ⟨cb j, 0, none⟩) n n) (fun j hj => by simp only [if_neg (Nat.ne_of_lt hj)])]
  simpa using hown
 ·by_cases e : j = k
  ·subst e
   simp only [if_true]
   exact hnew.of_block (hg.block _ hnew.lt (ownBlock_ne h'.own hnew (by decide)))
  simp only [if_neg e]
  exact (h'.bits j (by omega)).of_block (hg.block _ (h'.bits j (by omega)).lt (ownBlock_ne h'.own (h'.bits j (by omega)) (by decide)))
 ·by_cases e : j = k
  ·simp only [if_pos e]; exact hB
  simp only [if_neg e]; exact h.new j (by omega)
 by_cases e1 : j = k
 ·by_cases e2 : j' = k
  ·omega
  simp only [if_pos e1, if_neg e2] at e
  have := (h.bits j' (by omega)).lt
  omega
 by_cases e2 : j' = k
 ·simp only [if_neg e1, if_pos e2] at e
  have := (h.bits j (by omega)).lt
  omega
 simp only [if_neg e1, if_neg e2] at e
 exact h.inj j j' (by omega) (by omega) e
theorem rowC_push {W W' : World} {B n i : Nat} {v v' v8 : Value} {rv : Nat → Value} {cb : Nat → Nat → Nat} {cb' : Nat → Nat} (h : RowC W B n i v rv cb) (h8 : RowB W B n n v8 cb') (ha : ∀ k', k' < n → ∀ j, j < i → ∀ k2, k2 < n → cb' k' ≠ cb j k2)
  (hown : W'.ownsRow B 140 1 v' (i + 1) (((List.range i).map rv) ++ [v8])) (hg : W.grownBy W' v.ownBlock) : RowC W' B n (i + 1) v' (fun j => if j = i then v8 else rv j) (fun j => if j = i then cb' else cb j) := by
 have hne : ∀ {m : Nat} {u : Value} {xs : List Value} {b : Nat}, W.ownsRow B 139 1 u m xs → u.ownBlock = some b → some b ≠ v.ownBlock := by
  intro m u xs b ho hb e
  obtain ⟨c1, h1⟩ := own_typed ho b hb
  obtain ⟨c2, h2⟩ := own_typed h.own b e.symm
  rw [h1] at h2
  injection h2 with h2
  injection h2 with _ h2
  exact absurd h2 (by decide)
 refine ⟨?_, fun j hj => ?_, fun j k j' k' hj hk hj' hk' e => ?_⟩
 ·rw [range_push i _ rv (fun j hj => by simp only [if_neg (Nat.ne_of_lt hj)])]
  simpa using hown
 ·by_cases e : j = i
  ·simp only [if_pos e]
   exact h8.grown hg (fun b hb => hne h8.own hb) (fun j hj => ownBlock_ne h.own (h8.bits j hj) (by decide))
  simp only [if_neg e]
  have hr := h.rows j (by omega)
  exact hr.grown hg (fun b hb => hne hr.own hb) (fun q hq => ownBlock_ne h.own (hr.bits q hq) (by decide))
 by_cases e1 : j = i
 ·by_cases e2 : j' = i
  ·omega
  simp only [if_pos e1, if_neg e2] at e
  exact absurd e (ha k hk j' (by omega) k' hk')
 by_cases e2 : j' = i
 ·simp only [if_neg e1, if_pos e2] at e
  exact absurd e.symm (ha k' hk' j (by omega) k hk)
 simp only [if_neg e1, if_neg e2] at e
 exact h.inj j k j' k' (by omega) hk (by omega) hk' e
def blkOf : Value → Nat
 | .slice (some a) _ _ => a.block
 | _ => 0
def capOf : Value → Nat
 | .slice _ _ c => c
 | _ => 0
theorem own_cells {W : World} {B : Nat} {e : TypeId} {v : Value} {m : Nat} {xs : List Value} (h : W.ownsRow B e 1 v m xs) (hm : 1 ≤ m) : v = .slice (some ⟨blkOf v, 0, none⟩) m (capOf v) ∧ m ≤ capOf v ∧ blkOf v < W.heap.size ∧ ∀ i u, xs[i]? = some u → W.cell? ⟨blkOf v, i, none⟩ = some u := by
 obtain ⟨hl, h | ⟨g, cap, cur, rfl, _, hb, h1, _, h3, h4⟩⟩ := h
 ·omega
 refine ⟨rfl, h1, (Array.getElem?_eq_some_iff.1 hb).1, fun i u hu => ?_⟩
 refine (blk_cell hb i).trans ?_
 rw [← h4, List.getElem?_take] at hu
 split at hu
 ·simpa using hu
 cases hu
theorem grid_of_rows {W : World} {B n : Nat} {v : Value} {rv : Nat → Value} {cb : Nat → Nat → Nat} (h : RowC W B n 5 v rv cb) (hn : 1 ≤ n) : v = .slice (some ⟨blkOf v, 0, none⟩) 5 (capOf v) ∧ Grid W B n (blkOf v) (capOf v) (fun i => blkOf (rv i)) (fun i => capOf (rv i)) cb (fun _ _ _ => false) := by
 have ho := own_cells h.own (by omega)
 have hr := fun i hi => own_cells (h.rows i hi).own hn
 have hblk : ∀ {u : Value} {m c : Nat}, u = .slice (some ⟨blkOf u, 0, none⟩) m c → u.ownBlock = some (blkOf u) := fun {u m c} e => by
  generalize blkOf u = q at e
  subst e; rfl
 refine ⟨ho.1, ⟨fun i hi => ?_, fun i k hi hk => ?_, fun i k hi hk => (h.rows i hi).bits k hk, fun i k i' k' hi hk hi' hk' e => ?_, fun i k hi hk e => ?_, fun i k i' hi hk hi' e => ?_, fun i k hi hk => (h.rows i hi).new k hk, ⟨ho.2.1, fun i hi => (hr i hi).2.1⟩, ⟨ho.2.2.1, fun i hi => (hr i hi).2.2.1⟩⟩⟩
 ·refine ho.2.2.2 i _ ?_
  rw [List.getElem?_map, List.getElem?_range hi]
  exact congrArg some (hr i hi).1
 ·refine (hr i hi).2.2.2 k _ ?_
  rw [List.getElem?_map, List.getElem?_range hk]; rfl
 ·have e1 := h.inj i k i' k' hi hk hi' hk' e
  subst e1
  exact ⟨rfl, (h.rows i hi).inj k k' hk hk' e⟩
 ·exact ownBlock_ne h.own ((h.rows i hi).bits k hk) (by decide) (by rw [e]; exact (hblk ho.1).symm)
 exact ownBlock_ne (h.rows i' hi').own ((h.rows i hi).bits k hk) (by decide) (by rw [e]; exact (hblk (hr i' hi').1).symm)
theorem BInv.all {R : Prods} {t : List UInt8} {f0 f1 f : Chart} {ch : Bool} {done done' : (UInt8 × List UInt8) → Nat → Nat → Prop} (h : BInv R t f0 f ch done) {p : UInt8 × List UInt8} {i : Nat} (h01 : ∀ c i j, f0 c i j → f1 c i j) (hE : ∀ j, SplitP f1 t p.2 i j → j ≤ t.length → done p i j)
  (hd : ∀ p' i' j', done' p' i' j' → done p' i' j' ∨ (p' = p ∧ i' = i ∧ j' ≤ t.length)) : BInv R t f0 f ch done' := by
 refine ⟨h.sound, h.le, fun e => ⟨(h.same e).1, fun p' i' j' hp hs => ?_⟩, h.less⟩
 rcases hd p' i' j' hp with hp | ⟨rfl, rfl, hj⟩
 ·exact (h.same e).2 p' i' j' hp hs
 exact (h.same e).2 p' i' j' (hE j' (hs.mono h01) hj) hs
theorem big_of_index {c c' : UInt8} (h : isBigB c = true) (h' : isBigB c' = true) (e : c'.toNat - 65 = c.toNat - 65) : c' = c := by
 have h1 := (isBigB_iff c).1 h
 have h2 := (isBigB_iff c').1 h'
 exact UInt8.toNat_inj.1 (by omega)
theorem chF_set {n : Nat} {F : Cube Bool} {c : UInt8} {i j : Nat} (hc : isBigB c = true) (hi : i < n) (hj : j < n) : chF n (setF F (c.toNat - 65) i j true) = putC (chF n F) c i j := by
 funext c' i' j'
 apply propext
 unfold chF putC setF
 constructor
 ·rintro ⟨h1, h2, h3, h4⟩
  split at h4
  ·rename_i e
   exact Or.inl ⟨big_of_index hc h1 e.1, e.2.1, e.2.2⟩
  exact Or.inr ⟨h1, h2, h3, h4⟩
 rintro (⟨rfl, rfl, rfl⟩ | ⟨h1, h2, h3, h4⟩)
 ·exact ⟨hc, hi, hj, by simp⟩
 refine ⟨h1, h2, h3, ?_⟩
 split
 ·rfl
 exact h4
theorem chF_empty (n : Nat) (c : UInt8) (i j : Nat) : ¬ chF n (fun _ _ _ => false) c i j := fun h => by have := h.2.2.2; cases this
structure EndsAt (W : World) (v : Value) (E : List Int) (eb : Nat) (cb : Nat → Nat → Nat) (n : Nat) : Prop where
 val : ∃ a c, v = .slice a E.length c ∧ (0 < E.length → a = some ⟨eb, 0, none⟩)
 cells : ∀ j, j < E.length → W.cell? ⟨eb, j, none⟩ = some (.int .i64 (E.getD j 0))
 apart : ∀ i k, i < 5 → k < n → eb ≠ cb i k
theorem ends_at {W W' : World} {B n ob oc : Nat} {rb rc : Nat → Nat} {cb : Nat → Nat → Nat} {F : Cube Bool} {v : Value} {E : List Int} {ok : Nat → Prop} (hG : Grid W B n ob oc rb rc cb F) (hR : Kd.R (Kd.int .i64) 3 W' W.heap.size ok v E) (hB : Below W.heap.size W W') : ∃ eb, EndsAt W' v E eb cb n := by
 have ho := Kd.own_of_R hR
 by_cases h0 : E.length = 0
 ·obtain ⟨a, c, hv⟩ := Kd.R_slice hR
  exact ⟨W'.heap.size, ⟨a, c, hv, fun h => by omega⟩, fun j hj => by omega, fun i k hi hk e => by
   have := (hG.bits i k hi hk).lt
   have := hB.size
   omega⟩
 have hc := own_cells ho (by omega)
 have hb : v.ownBlock = some (blkOf v) := by
  have h1 := hc.1
  generalize blkOf v = q at h1
  generalize capOf v = q2 at h1
  subst h1; rfl
 refine ⟨blkOf v, ⟨_, _, hc.1, fun _ => rfl⟩, fun j hj => ?_, fun i k hi hk e => ?_⟩
 ·refine hc.2.2.2 j _ ?_
  simp [encs, List.getD_eq_getElem?_getD, hj]
 have h1 := own_base ho _ hb
 have h2 := (hG.bits i k hi hk).lt
 omega
theorem EndsAt.move {W W' : World} {v : Value} {E : List Int} {eb n : Nat} {cb : Nat → Nat → Nat} (h : EndsAt W v E eb cb n) (hm : W'.heap[eb]? = W.heap[eb]?) : EndsAt W' v E eb cb n :=
 ⟨h.val, fun j hj => (cell_eq hm).trans (h.cells j hj), h.apart⟩
structure ChartPost (w w' : World) (l : List RuleS) (t : ByteArray) (e : Ending) : Prop where
 out : ∃ ob oc rb rc cb F, e = .returned (.slice (some ⟨ob, 0, none⟩) 5 oc) ∧ Grid w' w.heap.size (t.size + 1) ob oc rb rc cb F ∧ Sound (prods l) t.data.toList (chF (t.size + 1) F) ∧ Closed (prods l) t.data.toList (chF (t.size + 1) F) ∧ Below w.heap.size w w'
set_option maxHeartbeats 8000000 in
set_option maxRecDepth 100000 in
theorem chart4_calls (s : ByteArray) (A : Option Addr) (cp : Nat) (l : List RuleS) (t : ByteArray) (w : World) (hr : Kd.C k46 w A l.length l) (hcp : l.length ≤ cp) (hG : gramOkB s l = true) (ht : t.size ≤ 1000) :
  Calls Tryd.prog 131 #[.agg #[.string s, .slice A l.length cp], .string t] w fun e w' => ChartPost w w' l t e := by
 have HR := Aside0.mk hr
 have HG := Aside0.mk (gramOkB_good hG)
 clear hr hG
 have hl8 : l.length ≤ 8 := HG.out.few
 have htl : t.data.toList.length = t.size := (size_toList t).symm
 have Htl := Aside0.mk htl
 clear htl
 have HB0 := Aside0.mk (Below.refl w.heap.size w)
 go_enter Tryd.func131, Tryd.ntmps131
 go_upto_region 1 with (first | ((with_reducible refine gate_dst (N := 2) rfl ?_); refine box_event ?hg (N := 2) ?hd (cs := #[.string s, .slice A l.length cp]) (t := 25) ?hr ?_; (case hd => rfl); (case hg => rfl); (case hr => first | (go_simp; done) | (go_simp; rfl)); intro gb hgb w2 hbox hb; have HK := Aside0.mk hbox; have HGB := Aside0.mk (Nat.le_of_eq hgb.symm); have HB := Aside0.mk (below_step HB0.out hb); clear hb hbox hgb HB0))
 go_wp2_with fail
 obtain ⟨n, hn⟩ : ∃ n : Nat, n = t.size + 1 := ⟨_, rfl⟩
 have Hn := Aside0.mk hn
 have hnz : (t.size : Int) + 1 = (n : Int) := by omega
 rw [hnz]
 have hn1 : n ≤ 1001 := by omega
 have hn0 : 1 ≤ n := by omega
 clear hn hnz
 have HB2 := Aside0.mk (HB.out.size)
 go_loopg [6, 7] 5 (fun gk v6 v7 wr => ∃ (i : Nat) (rv : Nat → Value) (cb : Nat → Nat → Nat), v7 = .int .i64 i ∧ Aside0 (Below w.heap.size w wr ∧ wr.heap[gb]? = some (.cells #[.string s, .slice A l.length cp] 25 (0, 0))) ∧ Aside0 (RowC wr w.heap.size n i v6 rv cb) ∧ Aside0 (gk = 5 - i ∧ i ≤ 5))
 case atStart => exact ⟨0, fun _ => .bool false, fun _ _ => 0, rfl, ⟨below_alloc HB.out _, blk_alloc HK.out _⟩, ⟨rowC_start HB2.out _ _⟩, ⟨rfl, by omega⟩⟩
 case round =>
  obtain ⟨i, rv, cb, rfl, HS, HC, HI⟩ := hrel
  by_cases hi : i < 5
  case neg =>
   obtain rfl : i = 5 := by have := HI.out; omega
   have hgr := grid_of_rows HC.out hn0
   generalize blkOf u6 = ob at hgr
   generalize capOf u6 = oc at hgr
   obtain ⟨e6, hgr⟩ := hgr
   subst e6
   generalize (fun i => blkOf (rv i)) = rb at hgr
   generalize (fun i => capOf (rv i)) = rc at hgr
   have HG0 := Aside0.mk hgr
   have HS0 := HS
   clear hgr HC HI HB HK HB2 HS
   go_wp2_with fail
   go_loopg [10] (2 * openN t.size (chF n (fun _ _ _ => false)) + 1) (fun gk v10 wr => ∃ (mo : Bool) (F : Cube Bool), v10 = .bool mo ∧ Aside0 (Below w.heap.size w wr ∧ wr.heap[gb]? = some (.cells #[.string s, .slice A l.length cp] 25 (0, 0))) ∧ Aside0 (Grid wr w.heap.size n ob oc rb rc cb F) ∧ Aside0 (Sound (prods l) t.data.toList (chF n F)) ∧ Aside0 (mo = false → Closed (prods l) t.data.toList (chF n F)) ∧ Aside0 (gk = 2 * openN t.size (chF n F) + (if mo = true then 1 else 0)))
   case atStart => exact ⟨true, fun _ _ _ => false, rfl, HS0, HG0, ⟨fun c i j h => absurd h (chF_empty n c i j)⟩, ⟨fun h => by cases h⟩, ⟨rfl⟩⟩
   case round =>
    obtain ⟨mo, F, rfl, HS, HGR, HSo, HCl, HK⟩ := hrel
    clear HS0 HG0
    cases mo
    case false =>
     have hcl := Aside0.mk (HCl.out rfl)
     clear HCl
     go_wp2_with fail
     go_ret
     refine ⟨⟨ob, oc, rb, rc, cb, F, rfl, ?_, ?_, ?_, HS.out.1⟩⟩
     ·rw [← Hn.out]; exact HGR.out
     ·rw [← Hn.out]; exact HSo.out
     rw [← Hn.out]; exact hcl.out
    case true =>
     clear HCl
     go_wp2_with fail
     go_loopg [10, 11] l.length (fun gk1 v10 v11 wr => ∃ (mo : Bool) (F1 : Cube Bool) (q : Nat), v10 = .bool mo ∧ v11 = .int .i64 q ∧ Aside0 (Below w.heap.size w wr ∧ wr.heap[gb]? = some (.cells #[.string s, .slice A l.length cp] 25 (0, 0))) ∧ Aside0 (Grid wr w.heap.size n ob oc rb rc cb F1) ∧ Aside0 (BInv (prods l) t.data.toList (chF n F) (chF n F1) mo (fun p i j => p ∈ prods (l.take q) ∧ i ≤ j ∧ j ≤ t.size)) ∧ Aside0 (gk1 = l.length - q ∧ q ≤ l.length))
     case atStart => exact ⟨false, F, 0, rfl, rfl, HS, HGR, ⟨(BInv.start HSo.out).weaken fun p i j h => by have := h.1; simp [prods] at this⟩, ⟨rfl, Nat.zero_le _⟩⟩
     case round =>
      obtain ⟨mo, F1, q, rfl, rfl, HS1, HGR1, HI1, HQ⟩ := hrel
      clear HS HGR HSo
      have hc1 : wr.cell? ⟨gb, 1, none⟩ = some (.slice A l.length cp) := (blk_cell HS1.out.2 1).trans rfl
      by_cases hq : q < l.length
      case neg =>
       have hqz : ¬ (q : Int) < (l.length : Int) := by omega
       go_wp2_with fail
       go_roundg (2 * openN t.size (chF n F1) + (if mo = true then 1 else 0))
       case measure =>
        have h1 := HK.out
        have h2 := HI1.out.openN_le
        have h3 := HI1.out.less
        rw [Htl.out] at h2 h3
        cases mo
        ·simp at h1 ⊢; omega
        have := h3 rfl; simp at h1 ⊢; omega
       case rel =>
        exact ⟨mo, F1, rfl, HS1, HGR1, ⟨HI1.out.sound⟩, ⟨fun e => by subst e; exact HI1.out.closed (fun p hp i j hij hj => ⟨by rw [List.take_of_length_le (by omega)]; exact hp, hij, by rw [← Htl.out]; exact hj⟩)⟩, ⟨rfl⟩⟩
      case pos =>
       have hqz : (q : Int) < (l.length : Int) := by omega
       have hxm := mem_rd l q hq
       have hP := HG.out.prod hxm
       obtain ⟨ad, eA, hx0, hx1⟩ := at_T46 HR.out (q : Int) (by omega) hqz
       subst eA
       rw [show ((q : Int)).toNat = q by omega] at hx0 hx1
       rw [hP.1] at hx0
       rw [← ofL_of (rd_T46 l (q : Int)).f1] at hx1
       have hq1 : prods (l.take (q + 1)) = prods (l.take q) ++ [prodOf (rd_T46 l (q : Int))] := by
        unfold prods
        rw [List.take_succ_eq_append_getElem hq, List.map_append]
        congr 1
        simp [prodOf, rd_T46, List.getD_eq_getElem?_getD, hq]
       have hr4 : (rd_T46 l (q : Int)).f1.data.toList = (prodOf (rd_T46 l (q : Int))).2 := rfl
       rw [hr4] at hx1
       have HP := Aside0.mk hP
       have HQ1 := Aside0.mk hq1
       clear hP hq1 hr4 hxm
       generalize prodOf (rd_T46 l (q : Int)) = p at hx0 hx1 HP HQ1
       obtain ⟨c, r⟩ := p
       have HP2 : Aside0 (isBigB c = true ∧ (c, r) ∈ prods l ∧ r.length ≤ 4 ∧ ∀ d ∈ r, isSignB d = true) := ⟨HP.out.2.1, HP.out.2.2.1, HP.out.2.2.2⟩
       clear HP
       replace hx0 : w.cell? (ad.add (q * 2)) = some (.string ⟨#[c]⟩) := hx0
       replace hx1 : w.cell? ⟨(ad.add (q * 2)).block, (ad.add (q * 2)).off + 1, none⟩ = some (.string (ofL r)) := hx1
       have HX1 := Aside0.mk hx1
       clear hx1
       replace hx0 := (HS1.out.1.cell (World.block_lt_of_cell? w _ hx0)).trans hx0
       have hp0 := eq_true (show (0 : Int) ≤ (q : Int) by omega)
       go_wp2_with fail
       obtain ⟨kk, hkk⟩ : ∃ kk : Nat, kk = c.toNat - 65 := ⟨_, rfl⟩
       have hci := (isBigB_iff c).1 HP2.out.1
       have hk5 : kk < 5 := by omega
       have e12 : ((((ByteArray.mk #[c])[0]'(show 0 < (ByteArray.mk #[c]).size from Nat.one_pos)).toNat : Int) - 65) % 256 = (kk : Int) := by
        show ((c.toNat : Int) - 65) % 256 = (kk : Int)
        omega
       rw [e12]
       have HKK := Aside0.mk hkk
       clear e12 hci hkk hx0 hp0 hc1
       go_loopg [10, 13] n (fun gk2 v10 v13 wr => ∃ (mo : Bool) (F2 : Cube Bool) (f : Nat), v10 = .bool mo ∧ v13 = .int .i64 f ∧ Aside0 (Below w.heap.size w wr ∧ wr.heap[gb]? = some (.cells #[.string s, .slice (some ad) l.length cp] 25 (0, 0))) ∧ Aside0 (Grid wr w.heap.size n ob oc rb rc cb F2) ∧ Aside0 (BInv (prods l) t.data.toList (chF n F) (chF n F2) mo (fun p i j => i ≤ j ∧ j ≤ t.size ∧ (p ∈ prods (l.take q) ∨ (p = (c, r) ∧ i < f)))) ∧ Aside0 (gk2 = n - f ∧ f ≤ n))
       case atStart => exact ⟨mo, F1, 0, rfl, rfl, HS1, HGR1, ⟨HI1.out.weaken fun p i j h => ⟨h.2.2.resolve_right (fun h2 => absurd h2.2 (Nat.not_lt_zero _)), h.1, h.2.1⟩⟩, ⟨rfl, Nat.zero_le _⟩⟩
       case round =>
        obtain ⟨mo, F2, f, rfl, rfl, HS2, HGR2, HI2, HF⟩ := hrel
        clear HS1 HGR1 HI1
        by_cases hf : f < n
        case neg =>
         have hfz : ¬ (f : Int) < (n : Int) := by omega
         go_wp2_with fail
         go_roundg (l.length - (q + 1))
         case measure => have := HQ.out; omega
         case rel =>
          refine ⟨mo, F2, q + 1, rfl, by first | rfl | go_num, HS2, HGR2, ⟨HI2.out.weaken fun p i j h => ⟨h.2.1, h.2.2, ?_⟩⟩, ⟨rfl, by omega⟩⟩
          have h1 := h.1
          rw [HQ1.out] at h1
          have := Hn.out
          rcases List.mem_append.1 h1 with h1 | h1
          ·exact Or.inl h1
          exact Or.inr ⟨List.mem_singleton.1 h1, by omega⟩
        case pos =>
         have hfz : (f : Int) < (n : Int) := by omega
         have hc1 : wr.cell? ⟨gb, 1, none⟩ = some (.slice (some ad) l.length cp) := (blk_cell HS2.out.2 1).trans rfl
         have hx1 := (HS2.out.1.cell (World.block_lt_of_cell? w _ HX1.out)).trans HX1.out
         have hp0 := eq_true (show (0 : Int) ≤ (q : Int) by omega)
         have hft : f ≤ t.size := by have := Hn.out; omega
         obtain ⟨ke, E, hE, hE1, hE2, hE3⟩ := (spec_l4Ends.tot (F := F2) ht r HP2.out.2.2.1 HP2.out.2.2.2 f hft).get
         rw [← Hn.out] at hE hE2
         have HE := Aside0.mk (And.intro hE1 (And.intro hE2 hE3))
         have HGN := Aside0.mk HGR2.out
         have Hends : Aside0 (∀ W, Grid W w.heap.size n ob oc rb rc cb F2 → Calls Tryd.prog 154 #[.slice (some ⟨ob, 0, none⟩) 5 oc, .string t, .string (ofL r), .int .i64 f] W fun e w' => ∃ v0_ : Value, e = .returned (v0_) ∧ Kd.R (Kd.int .i64) 3 w' W.heap.size (fun _ => True) v0_ E ∧ Below W.heap.size W w') := ⟨fun W hW => by
          have hl5 : (cubeL n F2).length = 5 := by unfold cubeL; rw [List.length_map, List.length_range]
          have := spec_l4Ends.calls ke (some ⟨ob, 0, none⟩) oc (cubeL n F2) t (ofL r) (f : Int) E W (hW.reads (by omega)) (by rw [hl5]; exact hW.caps.1) hE
          rw [hl5] at this
          exact this⟩
         clear hE hE1 hE2 hE3
         generalize ofL r = sr at hx1 Hends
         go_wp2_with (first | (go_at_call 154; refine (Hends.out _ HGR2.out).mono ?_; rintro e w9 ⟨v9, rfl, hR, hB9⟩; have HR9 := Aside0.mk hR; have HB9 := Aside0.mk hB9; clear hR hB9))
         obtain ⟨eb, hEA⟩ := ends_at HGR2.out HR9.out HB9.out
         have HEA := Aside0.mk hEA
         obtain ⟨ea, ec, ev, ea'⟩ := hEA.val
         subst ev
         have HEa := Aside0.mk ea'
         have hEl : E.length ≤ 1004006004001 := Nat.le_trans HE.out.2.2 (pow_le_4 HP2.out.2.2.1 (by omega) (by omega))
         have HS3 : Aside0 (Below w.heap.size w w9 ∧ w9.heap[gb]? = some (.cells #[.string s, .slice (some ad) l.length cp] 25 (0, 0))) := ⟨below_step HS2.out.1 HB9.out, blk_below HS2.out.2 HB9.out⟩
         have HGR3 := Aside0.mk (HGR2.out.below HB9.out)
         clear hEA ea' HR9 HB9 HS2 HGR2 hx1 hc1 hp0 Hends
         go_loopg [10, 15] E.length (fun gk3 v10 v15 wr => ∃ (mo : Bool) (F3 : Cube Bool) (q6 : Nat), v10 = .bool mo ∧ v15 = .int .i64 q6 ∧ Aside0 (Below w.heap.size w wr ∧ wr.heap[gb]? = some (.cells #[.string s, .slice (some ad) l.length cp] 25 (0, 0))) ∧ Aside0 (Grid wr w.heap.size n ob oc rb rc cb F3) ∧ Aside0 (EndsAt wr (.slice ea E.length ec) E eb cb n) ∧ Aside0 (∀ c i j, chF n F2 c i j → chF n F3 c i j) ∧ Aside0 (BInv (prods l) t.data.toList (chF n F) (chF n F3) mo (fun p i j => i ≤ j ∧ j ≤ t.size ∧ (p ∈ prods (l.take q) ∨ (p = (c, r) ∧ (i < f ∨ (i = f ∧ ∃ q', q' < q6 ∧ E.getD q' 0 = (j : Int))))))) ∧ Aside0 (gk3 = E.length - q6 ∧ q6 ≤ E.length))
         case atStart => exact ⟨mo, F2, 0, rfl, rfl, HS3, HGR3, HEA, ⟨fun _ _ _ h => h⟩, ⟨HI2.out.weaken fun p i j h => ⟨h.1, h.2.1, h.2.2.imp id (fun h2 => ⟨h2.1, h2.2.resolve_right (fun ⟨_, q', hq', _⟩ => absurd hq' (Nat.not_lt_zero _))⟩)⟩⟩, ⟨rfl, Nat.zero_le _⟩⟩
         case round =>
          have HI20 := Aside0.mk (fun c i j => HI2.out.le c i j)
          obtain ⟨mo, F3, q6, rfl, rfl, HS3, HGR3, HEA, HLE, HI3, HQ6⟩ := hrel
          clear HI2
          by_cases hq6 : q6 < E.length
          case neg =>
           have hqz6 : ¬ (q6 : Int) < (E.length : Int) := by omega
           go_wp2_with fail
           go_roundg (n - (f + 1))
           case measure => have := HF.out; omega
           case rel =>
            refine ⟨mo, F3, f + 1, rfl, by first | rfl | go_num, HS3, HGR3, ⟨HI3.out.all (p := (c, r)) (i := f) HI20.out (fun j hs hj => ?_) fun p' i' j' h => ?_⟩, ⟨rfl, by omega⟩⟩
            ·rw [Htl.out] at hj
             have hm := (HE.out.2.1 j hj).2 hs
             obtain ⟨q', hq', e⟩ := List.getElem_of_mem hm
             exact ⟨hs.le, hj, Or.inr ⟨rfl, Or.inr ⟨rfl, q', by omega, by rw [List.getD_eq_getElem?_getD, List.getElem?_eq_getElem hq', e]; rfl⟩⟩⟩
            rcases h with ⟨h1, h2, h3 | ⟨h3, h4⟩⟩
            ·exact Or.inl ⟨h1, h2, Or.inl h3⟩
            by_cases e : i' = f
            ·exact Or.inr ⟨h3, e, by rw [Htl.out]; exact h2⟩
            exact Or.inl ⟨h1, h2, Or.inr ⟨h3, Or.inl (by omega)⟩⟩
          case pos =>
           have hqz6 : (q6 : Int) < (E.length : Int) := by omega
           obtain rfl := HEa.out (by omega)
           obtain ⟨m, hem0, hfm, hmt⟩ := HE.out.1 (E.getD q6 0) (by rw [List.getD_eq_getElem?_getD, List.getElem?_eq_getElem hq6]; exact List.getElem_mem _)
           have hem := Aside0.mk hem0
           clear hem0
           have hmn : m < n := by have := Hn.out; omega
           have hmz : (m : Int) < (n : Int) := by omega
           have hkz : (kk : Int) < 5 := by omega
           have hqp := eq_true (show (0 : Int) ≤ (q6 : Int) by omega)
           obtain ⟨b, hbv0⟩ : ∃ b, F3 kk f m = b := ⟨_, rfl⟩
           have hbv := Aside0.mk hbv0
           clear hbv0
           have HSp : Aside0 (SplitP (chF n F3) t.data.toList r f m) := ⟨((HE.out.2.1 m hmt).1 (by
            have h1 : E.getD q6 0 ∈ E := by rw [List.getD_eq_getElem?_getD, List.getElem?_eq_getElem hq6]; exact List.getElem_mem _
            rw [hem.out] at h1; exact h1)).mono HLE.out⟩
           go_upto_region 26 with fail
           refine start_ (n := 14) (S := fun w' => w'.cell? ⟨ob, kk, none⟩ = some (.slice (some ⟨rb kk, 0, none⟩) n (rc kk)) ∧ w'.cell? ⟨rb kk, f, none⟩ = some (.slice (some ⟨cb kk f, 0, none⟩) n n) ∧ w'.cell? ⟨eb, q6, none⟩ = some (.int .i64 m) ∧ w'.cell? ⟨cb kk f, m, none⟩ = some (.bool b)) (ds := []) #[false, false, false, false, false, false, false, false, false, false, false, false, false, false] (by kernel_rfl) rfl rfl ⟨HGR3.out.top kk hk5, HGR3.out.row kk f hk5 hf, (HEA.out.cells q6 hq6).trans (by rw [hem.out]), ((HGR3.out.bits kk f hk5 hf).cell hmn).trans (by rw [hbv.out])⟩ (fun hHeld => ?_)
           have HS4 : Aside0 (Below w.heap.size w wr.drew ∧ wr.drew.heap[gb]? = some (.cells #[.string s, .slice (some ad) l.length cp] 25 (0, 0))) := ⟨below_drew HS3.out.1, blk_drew HS3.out.2⟩
           have HGR4 := Aside0.mk (HGR3.out.below (below_drew (Below.refl _ _)))
           have HEA4 := Aside0.mk (HEA.out.move (W' := wr.drew) rfl)
           clear HS3 HGR3 HEA
           generalize wr.drew = w10 at HS4 HGR4 HEA4 hHeld ⊢
           refine pk 0 77 ?_
           refine pk 1 78 ?_
           refine pk 2 79 ?_
           refine tk 3 80 hHeld ?_
           refine pk 4 81 ?_
           refine pk 5 82 ?_
           refine tk 6 83 hHeld ?_
           refine pk 7 84 ?_
           refine pk 8 85 ?_
           refine pk 9 86 ?_
           refine tk 10 87 hHeld ?_
           refine pk 11 88 ?_
           refine tk 12 89 hHeld ?_
           refine pk 13 90 ?_
           refine done_ (by kernel_rfl) ?_
           cases b
           case true =>
            go_wp2_with fail
            go_roundg (E.length - (q6 + 1))
            case measure => have := HQ6.out; omega
            case rel =>
             refine ⟨mo, F3, q6 + 1, rfl, by first | rfl | go_num, HS4, HGR4, HEA4, HLE, ⟨HI3.out.skip (p := (c, r)) (i := f) (j := m) (Or.inl ⟨HP2.out.1, by omega, hmn, by rw [← HKK.out]; exact hbv.out⟩) fun p' i' j' h => ?_⟩, ⟨rfl, by omega⟩⟩
             rcases h with ⟨h1, h2, h3 | ⟨h3, h4 | ⟨h4, q', h5, h6⟩⟩⟩
             ·exact Or.inl ⟨h1, h2, Or.inl h3⟩
             ·exact Or.inl ⟨h1, h2, Or.inr ⟨h3, Or.inl h4⟩⟩
             by_cases e : q' = q6
             ·subst e
              rw [hem.out] at h6
              exact Or.inr ⟨h3, h4, by omega⟩
             exact Or.inl ⟨h1, h2, Or.inr ⟨h3, Or.inr ⟨h4, q', by omega, h6⟩⟩⟩
           case false =>
            go_upto_region 27 with fail
            refine start_ (n := 13) (S := fun w' => w'.cell? ⟨ob, kk, none⟩ = some (.slice (some ⟨rb kk, 0, none⟩) n (rc kk)) ∧ w'.cell? ⟨rb kk, f, none⟩ = some (.slice (some ⟨cb kk f, 0, none⟩) n n) ∧ w'.cell? ⟨eb, q6, none⟩ = some (.int .i64 m)) (ds := []) #[false, false, false, false, false, false, false, false, false, false, false, false, false] (by kernel_rfl) rfl rfl ⟨HGR4.out.top kk hk5, HGR4.out.row kk f hk5 hf, (HEA4.out.cells q6 hq6).trans (by rw [hem.out])⟩ (fun hHeld => ?_)
            have HS40 : Aside0 (Below w.heap.size w w10.drew ∧ w10.drew.heap[gb]? = some (.cells #[.string s, .slice (some ad) l.length cp] 25 (0, 0))) := ⟨below_drew HS4.out.1, blk_drew HS4.out.2⟩
            have HGR40 := Aside0.mk (HGR4.out.below (below_drew (Below.refl _ _)))
            have HEA40 := Aside0.mk (HEA4.out.move (W' := w10.drew) rfl)
            clear HS4 HGR4 HEA4
            generalize w10.drew = w11 at HS40 HGR40 HEA40 hHeld ⊢
            have HS4 := HS40
            have HGR4 := HGR40
            have HEA4 := HEA40
            clear HS40 HGR40 HEA40
            refine pk 0 91 ?_
            refine pk 1 92 ?_
            refine pk 2 93 ?_
            refine tk 3 94 hHeld ?_
            refine pk 4 95 ?_
            refine pk 5 96 ?_
            refine tk 6 97 hHeld ?_
            refine pk 7 98 ?_
            refine pk 8 99 ?_
            refine pk 9 100 ?_
            refine tk 10 101 hHeld ?_
            refine pk 11 102 ?_
            refine ok_ 12 none (fun K hK => ?_)
            have hsc : w11.cell? ⟨cb kk f, m, none⟩ = some (.bool false) := by have h := (HGR4.out.bits kk f hk5 hf).cell hmn; rw [hbv.out] at h; exact h
            have hsf : w11.frozen? ⟨cb kk f, m, none⟩ = false := (HGR4.out.bits kk f hk5 hf).frozen m
            refine skip_ (w1 := w11.setCell ⟨cb kk f, m, none⟩ (.bool true)) (by rfl) rfl ?hrun ?_
            case hrun => go_simp
            clear hsc hsf
            have HGR5 := Aside0.mk (HGR4.out.set (j := m) hk5 hf true)
            have HEA5 := Aside0.mk (HEA4.out.move (W' := w11.setCell ⟨cb kk f, m, none⟩ (.bool true)) (Below.heap_setCell w11 ⟨cb kk f, m, none⟩ (.bool true) eb (HEA4.out.apart kk f hk5 hf)))
            have HS5 : Aside0 (Below w.heap.size w (w11.setCell ⟨cb kk f, m, none⟩ (.bool true)) ∧ (w11.setCell ⟨cb kk f, m, none⟩ (.bool true)).heap[gb]? = some (.cells #[.string s, .slice (some ad) l.length cp] 25 (0, 0))) := ⟨below_set HS4.out.1 (HGR4.out.new kk f hk5 hf), (Below.heap_setCell w11 ⟨cb kk f, m, none⟩ (.bool true) gb (fun e => by obtain ⟨cc, h1, _⟩ := HGR4.out.bits kk f hk5 hf; have e : gb = cb kk f := e; rw [← e, HS4.out.2] at h1; injection h1 with h1; injection h1 with _ h1; exact absurd h1 (by decide))).trans HS4.out.2⟩
            refine hK.out _ _ ⟨HGR5.out.top kk hk5, HGR5.out.row kk f hk5 hf, (HEA5.out.cells q6 hq6).trans (by rw [hem.out])⟩ (fun hHeld => ?_)
            clear hK K
            refine done_ (by kernel_rfl) ?_
            go_wp2_with fail
            go_roundg (E.length - (q6 + 1))
            case measure => have := HQ6.out; omega
            case rel =>
             have hset := chF_set (n := n) (F := F3) (c := c) (i := f) (j := m) HP2.out.1 (by omega) hmn
             rw [← HKK.out] at hset
             refine ⟨true, setF F3 kk f m true, q6 + 1, rfl, by first | rfl | go_num, HS5, HGR5, HEA5, ⟨fun c' i' j' h => by rw [hset]; exact Or.inr (HLE.out c' i' j' h)⟩, ⟨?_⟩, ⟨rfl, by omega⟩⟩
             rw [hset]
             refine HI3.out.put (p := (c, r)) (i := f) (j := m) HP2.out.2.1 HP2.out.1 hfm (by rw [Htl.out]; exact hmt) (fun h => ?_) HSp.out
             have h2 := h.2.2.2
             rw [← HKK.out, hbv.out] at h2
             cases h2
  case pos =>
   have hiz : (i : Int) < 5 := by omega
   clear HB HK HB2
   have HS0 := HS
   have HC0 := HC
   have HW0 := Aside0.mk (HS.out.1.size)
   clear HS HC
   go_wp2_with fail
   go_loopg [8, 9] n (fun gk1 v8 v9 wr => ∃ (k : Nat) (cb' : Nat → Nat), v9 = .int .i64 k ∧ Aside0 (Below w.heap.size w wr ∧ wr.heap[gb]? = some (.cells #[.string s, .slice A l.length cp] 25 (0, 0))) ∧ Aside0 (RowC wr w.heap.size n i u6 rv cb) ∧ Aside0 (RowB wr w.heap.size n k v8 cb') ∧ Aside0 ((∀ k', k' < k → ∀ j, j < i → ∀ k2, k2 < n → cb' k' ≠ cb j k2) ∧ ∀ j, j < i → ∀ b, (rv j).ownBlock = some b → some b ≠ v8.ownBlock) ∧ Aside0 (gk1 = n - k ∧ k ≤ n))
   case atStart =>
    refine ⟨0, fun _ => 0, rfl, ⟨below_alloc HS0.out.1 _, blk_alloc HS0.out.2 _⟩, ⟨HC0.out.below (below_alloc (Below.refl _ _) _)⟩, ⟨rowB_start HW0.out _⟩, ⟨fun k' hk' => absurd hk' (Nat.not_lt_zero _), fun j hj b hb e => ?_⟩, ⟨rfl, Nat.zero_le _⟩⟩
    have h1 := own_lt (HC0.out.rows j hj).own b hb
    have h2 : b = wr.heap.size := by simpa [Value.ownBlock] using e
    omega
   case round =>
    obtain ⟨k, cb', rfl, HS, HC, HRB, HA, HK⟩ := hrel
    clear HS0 HC0 HW0
    by_cases hk : k < n
    case neg =>
     obtain rfl : k = n := by have := HK.out; omega
     obtain ⟨b8, c8, e8⟩ : ∃ b8 c8, u8 = .slice (some ⟨b8, 0, none⟩) k c8 := ⟨_, _, (own_cells HRB.out.own hn0).1⟩
     subst e8
     go_wp2_with (first | (at_builtin; refine print_append_cells (w0 := w) w.heap.size rfl _ _ 141 140 (.slice none 0 0) 1 24 rfl Tryd.underlying141 info_bools2 rfl (by decide) (by decide) u6 i _ [.slice (some ⟨b8, 0, none⟩) k c8] rfl rfl rfl (by simp [Value.oneCell']) HC.out.own HS.out.1 HS.out.1.size (by omega) ?_; intro v1 w1 hown hb1 hg1 hat1; have HO1 := Aside0.mk hown; have HG1 := Aside0.mk hg1; have HW1 := Aside0.mk hb1; have HT1 := Aside0.mk hat1; clear hown hg1 hb1 hat1))
     go_roundg (5 - (i + 1))
     case measure => have := HI.out; omega
     case rel =>
      refine ⟨i + 1, fun j => if j = i then .slice (some ⟨b8, 0, none⟩) k c8 else rv j, fun j => if j = i then cb' else cb j, by first | rfl | go_num, ⟨HW1.out, ?_⟩, ⟨rowC_push HC.out HRB.out HA.out.1 HO1.out HG1.out⟩, ⟨rfl, by omega⟩⟩
      refine (HG1.out.block gb (blk_lt HS.out.2) ?_).trans HS.out.2
      intro e
      obtain ⟨c2, h2⟩ := own_typed HC.out.own gb e.symm
      rw [HS.out.2] at h2
      injection h2 with h2
      injection h2 with _ h2
      exact absurd h2 (by decide)
    case pos =>
     have hkz : (k : Int) < (n : Int) := by omega
     have hmk := run_make_row' (P := Tryd.prog) 139 4 (.bool false) 1 Tryd.underlying139 info_bool rfl .i64 .i64 n (by omega) (by omega)
     go_wp2_with (first | (at_builtin; refine print_append_cells (w0 := w) w.heap.size rfl _ _ 140 139 (.slice none 0 0) 1 24 rfl Tryd.underlying140 info_bools rfl (by decide) (by decide) u8 k _ [.slice (some ⟨wr.heap.size, 0, none⟩) n n] rfl (by show Value.slice (some ⟨wr.heap.size + 1, 0, none⟩) 1 1 = _; simp) rfl (by simp [Value.oneCell']) (HRB.out.below (below_alloc (Below.refl _ _) _)).own (below_alloc HS.out.1 _) (by have := HS.out.1.size; simp; omega) (by omega) ?_; intro v1 w1 hown hb1 hg1 hat1; have HO1 := Aside0.mk hown; have HG1 := Aside0.mk hg1; have HW1 := Aside0.mk hb1; have HT1 := Aside0.mk hat1; clear hown hg1 hb1 hat1))
     go_roundg (n - (k + 1))
     case measure => have := HK.out; omega
     case rel =>
      have hs1 := below_alloc HS.out.1 (.cells (madeCells #[.bool false] n) 4)
      have hHS := HS.out.1.size
      refine ⟨k + 1, fun j => if j = k then wr.heap.size else cb' j, by first | rfl | go_num, ⟨HW1.out, ?_⟩, ⟨(HC.out.below (below_alloc (Below.refl _ _) _)).grown HG1.out ?_ (fun j hj b hb => HA.out.2 j hj b hb) ?_⟩, ⟨rowB_push HRB.out hHS HO1.out HG1.out⟩, ⟨?_, ?_⟩, ⟨rfl, by omega⟩⟩
      ·have h1 := blk_alloc HS.out.2 (.cells (madeCells #[.bool false] n) 4)
       refine (HG1.out.block gb (blk_lt h1) ?_).trans h1
       intro e
       obtain ⟨c2, h2⟩ := own_typed (HRB.out.below (below_alloc (Below.refl _ _) (.cells (madeCells #[.bool false] n) 4))).own gb e.symm
       rw [h1] at h2
       injection h2 with h2
       injection h2 with _ h2
       exact absurd h2 (by decide)
      ·intro b hb e
       obtain ⟨c1, h1⟩ := own_typed HC.out.own b hb
       obtain ⟨c2, h2⟩ := own_typed HRB.out.own b e.symm
       rw [h1] at h2
       injection h2 with h2
       injection h2 with _ h2
       exact absurd h2 (by decide)
      ·intro j q hj hq
       exact ownBlock_ne HRB.out.own ((HC.out.rows j hj).bits q hq) (by decide)
      ·intro k' hk' j hj k2 hk2
       by_cases e : k' = k
       ·simp only [if_pos e]
        have := ((HC.out.rows j hj).bits k2 hk2).lt
        omega
       simp only [if_neg e]
       exact HA.out.1 k' (by omega) j hj k2 hk2
      intro j hj b hb e
      rcases HT1.out with h1 | ⟨b', h1, h2⟩
      ·rw [h1] at e
       exact HA.out.2 j hj b hb e
      rw [h1] at e
      injection e with e
      have := own_lt (HC.out.rows j hj).own b hb
      simp at h2
      omega
end Go.Proofs.YtiibnkibckklgaaDoor.P
namespace Go.Proofs.YtiibnkibckklgaaDoor.P
open Go.RowKit Go.Proofs.YtiibnkibckklgaaDoorW.PrintWords Go.Proofs.YtiibnkibckklgaaDoorW.PrintLast Go.Proofs.YtiibnkibckklgaaDoorW.PrintMore
set_option linter.unusedVariables false
set_option linter.unusedSimpArgs false
set_option maxHeartbeats 4000000 in
set_option maxRecDepth 100000 in
theorem spec_l4Is.calls (a0_0 : ByteArray) (A0_1 : Option Addr) (c0_1 : Nat) (l0_1 : List (S46)) (a1 : ByteArray) (r : Bool) (w : World) (hr0_1 : Kd.C k46 w A0_1 l0_1.length l0_1) (hc0_1 : l0_1.length ≤ c0_1) (h : spec_l4Is.f a0_0 l0_1 a1 = some r) :
  Calls Tryd.prog 91 #[.agg #[.string a0_0, .slice A0_1 l0_1.length c0_1], .string a1] w fun e w' => e = .returned (.bool r) ∧ Below w.heap.size w w' := by
 unfold spec_l4Is.f at h
 by_cases hg : gramOkB a0_0 l0_1 = true ∧ a1.size ≤ 1000
 case neg => rw [if_neg hg] at h; cases h
 rw [if_pos hg] at h
 obtain rfl := Option.some.inj h
 clear h
 obtain ⟨c, e, hb⟩ := (gramOkB_good hg.1).start
 obtain rfl : a0_0 = ⟨#[c]⟩ := one_bytes e
 have Hch : Aside0 (∀ W, Below w.heap.size w W → Calls Tryd.prog 131 #[.agg #[.string ⟨#[c]⟩, .slice A0_1 l0_1.length c0_1], .string a1] W fun e w' => ∃ ob oc rb rc cb F, e = .returned (.slice (some ⟨ob, 0, none⟩) 5 oc) ∧ Grid w' W.heap.size (a1.size + 1) ob oc rb rc cb F ∧ Sound (prods l0_1) a1.data.toList (chF (a1.size + 1) F) ∧ Closed (prods l0_1) a1.data.toList (chF (a1.size + 1) F) ∧ Below W.heap.size W w') := ⟨fun W hW =>
  (chart4_calls ⟨#[c]⟩ A0_1 c0_1 l0_1 a1 W (Kd.C_below hr0_1 hW) hc0_1 hg.1 hg.2).mono (fun e w' h => h.out)⟩
 obtain ⟨kk, hkk⟩ : ∃ kk : Nat, kk = c.toNat - 65 := ⟨_, rfl⟩
 have hci := (isBigB_iff c).1 hb
 have hk5 : kk < 5 := by omega
 have Hres : Aside0 (∀ F, Sound (prods l0_1) a1.data.toList (chF (a1.size + 1) F) ∧ Closed (prods l0_1) a1.data.toList (chF (a1.size + 1) F) → F kk 0 a1.size = comesB ⟨#[c]⟩ l0_1 a1) := ⟨fun F hF => by
  have h1 := chart_is hF.1 hF.2 (c := c) (Nat.zero_le _) (Nat.le_of_eq (size_toList a1))
  rw [size_toList, part_all] at h1
  unfold DerP at h1
  rw [big_not_small hb, if_neg (by decide)] at h1
  rw [Bool.eq_iff_iff, comesB_iff, hkk]
  unfold Comes
  show _ ↔ Gen (prods l0_1) [c] a1.data.toList
  rw [← h1, ← size_toList]
  unfold chF
  exact ⟨fun h => ⟨hb, by omega, by omega, h⟩, fun h => h.2.2.2⟩⟩
 have e12 : wrap64 (IntKind.u8.wrap ((((ByteArray.mk #[c])[0]'(show 0 < (ByteArray.mk #[c]).size from Nat.one_pos)).toNat : Int) - 65)) = (kk : Int) := by
  show wrap64 (IntKind.u8.wrap ((c.toNat : Int) - 65)) = (kk : Int)
  rw [IntKind.wrap_u8]
  unfold wrap64
  omega
 have ht : a1.size ≤ 1000 := hg.2
 have HB0 := Aside0.mk (Below.refl w.heap.size w)
 clear hr0_1 hc0_1 hg e hb hkk hci
 generalize comesB ⟨#[c]⟩ l0_1 a1 = z at Hres
 go_enter Tryd.func91, Tryd.ntmps91
 go_upto_region 1 with (first | ((with_reducible refine gate_dst (N := 2) rfl ?_); refine box_event ?hg (N := 2) ?hd (cs := #[.string ⟨#[c]⟩, .slice A0_1 l0_1.length c0_1]) (t := 25) ?hr ?_; (case hd => rfl); (case hg => rfl); (case hr => first | (go_simp; done) | (go_simp; rfl)); intro gb hgb w2 hbox hb; have BK0 := Aside0.mk hbox; have HB1 := Aside0.mk (below_step HB0.out hb); clear hb hbox hgb HB0))
 have BK1 := Aside0.mk (blk_drew BK0.out)
 have HB2 := Aside0.mk (below_drew HB1.out)
 clear BK0 HB1
 refine start_ (n := 17) (S := fun w' => w'.cell? ⟨gb, 0, none⟩ = some (.string ⟨#[c]⟩) ∧ w'.cell? ⟨gb, 1, none⟩ = some (.slice A0_1 l0_1.length c0_1)) (ds := []) #[false, false, false, false, false, false, false, false, false, false, false, false, false, false, false, false, false] (by kernel_rfl) rfl rfl ⟨(blk_cell BK1.out 0).trans rfl, (blk_cell BK1.out 1).trans rfl⟩ (fun hHeld => ?_)
 generalize w2.drew = w3 at BK1 HB2 hHeld ⊢
 have BK := BK1
 have HB := HB2
 clear BK1 HB2
 refine tk 0 5 hHeld ?_
 refine pk 1 6 ?_
 refine pk 3 8 ?_
 refine tk 4 9 hHeld ?_
 refine pk 5 10 ?_
 refine pk 6 11 ?_
 refine pk 7 12 ?_
 refine pk 12 17 ?_
 refine pk 13 18 ?_
 refine ok_ 2 (some 7) (fun K hK => ?_)
 refine goes_ Tryd.func131 (by kernel_rfl) rfl #[.agg #[.string ⟨#[c]⟩, .slice A0_1 l0_1.length c0_1], .string a1] (by rfl) rfl rfl (by (try simp only [List.map_toArray, List.map_cons, List.map_nil]); first | done | rfl) ?_
 refine (Hch.out _ HB.out).mono ?_
 rintro e w4 ⟨ob, oc, rb, rc, cb, F, rfl, hA, hS, hC, hB4⟩
 refine ⟨_, rfl, ?_⟩
 have HSC := Aside0.mk (And.intro hS hC)
 have HB4 := Aside0.mk (below_step HB.out hB4)
 have HK4 := Aside0.mk (blk_below BK.out hB4)
 have h0 : w4.cell? ⟨ob, kk, none⟩ = some (.slice (some ⟨rb kk, 0, none⟩) (a1.size + 1) (rc kk)) := hA.top kk hk5
 have h1 : w4.cell? ⟨rb kk, 0, none⟩ = some (.slice (some ⟨cb kk 0, 0, none⟩) (a1.size + 1) (a1.size + 1)) := hA.row kk 0 hk5 (by omega)
 have h2 : w4.cell? ⟨cb kk 0, a1.size, none⟩ = some (.bool (F kk 0 a1.size)) := (hA.bits kk 0 hk5 (by omega)).cell (by omega)
 have hkz : (kk : Int) < 5 := by omega
 have hz1 : (0 : Int) < (a1.size : Int) + 1 := by omega
 have hz2 : (a1.size : Int) < (a1.size : Int) + 1 := by omega
 clear hA hS hC hB4
 refine hK.out _ _ ⟨(blk_cell HK4.out 0).trans rfl, (blk_cell HK4.out 1).trans rfl⟩ (fun hHeld => ?_)
 clear hK K
 refine norm_ (a' := ?_) ?_ ?_
 rotate_left
 ·show Act.put _ (some 7) _ = _
  simp only [Act.put, List.setIfInBounds_toArray, List.set_cons_zero, List.set_cons_succ, i64_w, i32_w]
  rfl
 refine pk 8 13 ?_
 refine ok_ 9 (some 14) (fun K hK => ?_)
 refine value_ (w1 := w4) (v := .slice (some ⟨rb kk, 0, none⟩) (a1.size + 1) (rc kk)) (by rfl) rfl ?hrun ?_
 case hrun => go_simp
 refine hK.out _ _ ⟨(blk_cell HK4.out 0).trans rfl, (blk_cell HK4.out 1).trans rfl⟩ (fun hHeld => ?_)
 clear hK K
 refine norm_ (a' := ?_) ?_ ?_
 rotate_left
 ·show Act.put _ (some 14) _ = _
  simp only [Act.put, List.setIfInBounds_toArray, List.set_cons_zero, List.set_cons_succ, i64_w, i32_w]
  rfl
 refine pk 10 15 ?_
 refine ok_ 11 (some 16) (fun K hK => ?_)
 refine value_ (w1 := w4) (v := .slice (some ⟨cb kk 0, 0, none⟩) (a1.size + 1) (a1.size + 1)) (by rfl) rfl ?hrun ?_
 case hrun => go_simp
 refine hK.out _ _ ⟨(blk_cell HK4.out 0).trans rfl, (blk_cell HK4.out 1).trans rfl⟩ (fun hHeld => ?_)
 clear hK K
 refine norm_ (a' := ?_) ?_ ?_
 rotate_left
 ·show Act.put _ (some 16) _ = _
  simp only [Act.put, List.setIfInBounds_toArray, List.set_cons_zero, List.set_cons_succ, i64_w, i32_w]
  rfl
 refine pk 14 19 ?_
 refine ok_ 15 (some 20) (fun K hK => ?_)
 refine value_ (w1 := w4) (v := .bool (F kk 0 a1.size)) (by rfl) rfl ?hrun ?_
 case hrun => go_simp
 refine hK.out _ _ ⟨(blk_cell HK4.out 0).trans rfl, (blk_cell HK4.out 1).trans rfl⟩ (fun hHeld => ?_)
 clear hK K
 refine norm_ (a' := ?_) ?_ ?_
 rotate_left
 ·show Act.put _ (some 20) _ = _
  simp only [Act.put, List.setIfInBounds_toArray, List.set_cons_zero, List.set_cons_succ, i64_w, i32_w]
  rfl
 refine pk 16 4 ?_
 refine done_ (by kernel_rfl) ?_
 go_wp2_with fail
 go_ret
 exact ⟨by rw [Hres.out F HSC.out]; rfl, HB4.out⟩
end Go.Proofs.YtiibnkibckklgaaDoor.P
namespace Go.Proofs.YtiibnkibckklgaaDoor.P
open Go.RowKit Go.Proofs.YtiibnkibckklgaaDoorW.PrintWords Go.Proofs.YtiibnkibckklgaaDoorW.PrintLast Go.Proofs.YtiibnkibckklgaaDoorW.PrintMore
attribute [local go_sem] max2_int min2_int max_two min_two max_three min_three max_four min_four
set_option linter.unusedVariables false
set_option linter.unusedSimpArgs false
theorem q93_1 {p : Prop} (h : p := by repeat (first | (with_reducible first | exact HB.out | apply below_alloc | apply pw_below_drewN | apply below_drew1 | refine below_set ?_ GE101.out) | exact HB.out)) : p := h
theorem q93_2 {p : Prop} (h : p := by (try simp only [List.map_toArray, List.map_cons, List.map_nil]); first | done | rfl | (simp only [List.length_drop, List.length_take]; rfl)) : p := h
theorem q93_3 {p : Prop} (h : p := by (with_reducible repeat (first | refine blk_drewN ?_ _ | refine blk_drew ?_ | refine blk_alloc ?_ _)); exact BK101.out) : p := h
theorem q93_4 {p : Prop} (h : p := by repeat (first | exact (Kd.C_below HR0_1.out HB.out) | (with_reducible refine Kd.C_alloc ?_ _) | (with_reducible refine Kd.C_drewN ?_ _) | (with_reducible refine Kd.C_drew ?_))) : p := h
theorem q93_5 {p : Prop} (h : p := by (with_reducible repeat (first | apply Kd.R_alloc | apply Kd.R_drewN | apply Kd.R_drew)); exact HO_5.out) : p := h
theorem q93_6 {p : Prop} (h : p := by first | rfl | (simp; done) | (simp [*]; done)) : p := h
/-! ### spec_l4Words: function 102 -/
mutual
noncomputable def spec_l4Words.l0 : Nat → Int → List ByteArray → ByteArray → ByteArray → ByteArray → List (S46) → Option (List ByteArray)
 | 0, _, _, _, _, _, _ => none
 | k + 1, x1, x5, x6, x7, x102000, x102001 => if (x7.size : Int) ≤ x1 then (spec_l4Words.j1 k x1 x5 x6 x7 (decide ((x5.length : Int) < 60)) x102000 x102001) else (spec_l4Words.j1 k x1 x5 x6 x7 false x102000 x102001)
noncomputable def spec_l4Words.j1 : Nat → Int → List ByteArray → ByteArray → ByteArray → Bool → ByteArray → List (S46) → Option (List ByteArray)
 | 0, _, _, _, _, _, _, _ => none
 | k + 1, x1, x5, x6, x7, x19, x102000, x102001 => if x19 = true then ((spec_l4Is.f x102000 x102001 x7).bind fun t106 => (if t106 = true then (if x5.length < 8796093022208 then ((some (x5 ++ [x7] : List ByteArray)).bind fun y107 => (if x6.toList = ([] : List UInt8) then (some y107) else ((spec_l4Next.f k x6 x7).bind fun t110 => (spec_l4Words.l0 k x1 y107 x6 t110 x102000 x102001)))) else (none)) else (if x6.toList = ([] : List UInt8) then (some x5) else ((spec_l4Next.f k x6 x7).bind fun t111 => (spec_l4Words.l0 k x1 x5 x6 t111 x102000 x102001))))) else (some x5)
end
noncomputable def spec_l4Words.f (k : Nat) (a0_0 : ByteArray) (l0_1 : List (S46)) (a1 : Int) : Option (List ByteArray) := (spec_l1Signs.f k a0_0 l0_1 false).bind fun t105 => (spec_l4Words.l0 k a1 (([] : List ByteArray)) t105 (⟨#[]⟩ : ByteArray) a0_0 l0_1)
theorem spec_l4Words.mono_l : ∀ k, (∀ y0 y1 y2 y3 y4 y5, LeO (spec_l4Words.l0 k y0 y1 y2 y3 y4 y5) (spec_l4Words.l0 (k + 1) y0 y1 y2 y3 y4 y5)) ∧ (∀ y0 y1 y2 y3 y4 y5 y6, LeO (spec_l4Words.j1 k y0 y1 y2 y3 y4 y5 y6) (spec_l4Words.j1 (k + 1) y0 y1 y2 y3 y4 y5 y6))
 | 0 => ⟨fun _ _ _ _ _ _ r h => by simp [spec_l4Words.l0] at h, fun _ _ _ _ _ _ _ r h => by simp [spec_l4Words.j1] at h⟩
 | k + 1 => by
  obtain ⟨ih0, ih1⟩ := spec_l4Words.mono_l k
  refine ⟨?_, ?_⟩
  ·intro y0 y1 y2 y3 y4 y5
   unfold spec_l4Words.l0
   repeat' first
   | (with_reducible exact ih0 _ _ _ _ _ _)
   | (with_reducible exact ih1 _ _ _ _ _ _ _)
   | (with_reducible exact spec_l1Signs.mono _ _ _ _)
   | (with_reducible exact spec_l4Next.mono _ _ _)
   | (with_reducible exact LeO.refl _)
   | (with_reducible exact LeO.none _)
   | (with_reducible refine LeO.ite ?_ ?_)
   | (with_reducible refine LeO.bind ?_ (fun _ => ?_))
   | exact ih0 _ _ _ _ _ _
   | exact ih1 _ _ _ _ _ _ _
   | exact spec_l1Signs.mono _ _ _ _
   | exact spec_l4Next.mono _ _ _
   | exact LeO.none _
   | refine LeO.ite ?_ ?_
   | refine LeO.bind ?_ (fun _ => ?_)
  intro y0 y1 y2 y3 y4 y5 y6
  unfold spec_l4Words.j1
  repeat' first
  | (with_reducible exact ih0 _ _ _ _ _ _)
  | (with_reducible exact ih1 _ _ _ _ _ _ _)
  | (with_reducible exact spec_l1Signs.mono _ _ _ _)
  | (with_reducible exact spec_l4Next.mono _ _ _)
  | (with_reducible exact LeO.refl _)
  | (with_reducible exact LeO.none _)
  | (with_reducible refine LeO.ite ?_ ?_)
  | (with_reducible refine LeO.bind ?_ (fun _ => ?_))
  | exact ih0 _ _ _ _ _ _
  | exact ih1 _ _ _ _ _ _ _
  | exact spec_l1Signs.mono _ _ _ _
  | exact spec_l4Next.mono _ _ _
  | exact LeO.none _
  | refine LeO.ite ?_ ?_
  | refine LeO.bind ?_ (fun _ => ?_)
theorem spec_l4Words.mono : ∀ a0 a1 a2 k, LeO (spec_l4Words.f k a0 a1 a2) (spec_l4Words.f (k + 1) a0 a1 a2) := by
 intro a0 a1 a2 k
 obtain ⟨ih0, ih1⟩ := spec_l4Words.mono_l k
 unfold spec_l4Words.f
 repeat' first
   | (with_reducible exact ih0 _ _ _ _ _ _)
   | (with_reducible exact ih1 _ _ _ _ _ _ _)
   | (with_reducible exact spec_l1Signs.mono _ _ _ _)
   | (with_reducible exact spec_l4Next.mono _ _ _)
   | (with_reducible exact LeO.refl _)
   | (with_reducible exact LeO.none _)
   | (with_reducible refine LeO.ite ?_ ?_)
   | (with_reducible refine LeO.bind ?_ (fun _ => ?_))
   | exact ih0 _ _ _ _ _ _
   | exact ih1 _ _ _ _ _ _ _
   | exact spec_l1Signs.mono _ _ _ _
   | exact spec_l4Next.mono _ _ _
   | exact LeO.none _
   | refine LeO.ite ?_ ?_
   | refine LeO.bind ?_ (fun _ => ?_)
set_option maxHeartbeats 8000000 in
set_option maxRecDepth 100000 in
theorem spec_l4Words.calls (k : Nat) (a0_0 : ByteArray) (A0_1 : Option Addr) (c0_1 : Nat) (l0_1 : List (S46)) (a1 : Int) (r : List ByteArray) (w : World) (hr0_1 : Kd.C k46 w A0_1 l0_1.length l0_1) (hc0_1 : l0_1.length ≤ c0_1) (h : spec_l4Words.f k a0_0 l0_1 a1 = some r) :
  Calls Tryd.prog 102 #[.agg #[.string a0_0, .slice A0_1 l0_1.length c0_1], .int .i64 a1] w fun e w' => ∃ v0_ : Value, e = .returned (v0_) ∧ Kd.R Kd.string 9 w' w.heap.size (fun _ => True) v0_ r ∧ Below w.heap.size w w' := by
 have hu25 := Tryd.underlying25
 have HR0_1 := Aside0.mk hr0_1
 have HC0_1 := Aside0.mk hc0_1
 clear hr0_1 hc0_1
 have HB := Aside0.mk (Below.refl w.heap.size w)
 have H : ((spec_l1Signs.f k a0_0 l0_1 false).bind fun t105 => (spec_l4Words.l0 k a1 (([] : List ByteArray)) t105 (⟨#[]⟩ : ByteArray) a0_0 l0_1)) = some r := h
 clear h
 obtain ⟨y102, hy102⟩ : ∃ y_ : List ByteArray, y_ = (([] : List ByteArray)) := ⟨_, rfl⟩
 replace H : ((spec_l1Signs.f k a0_0 l0_1 false).bind fun t105 => (spec_l4Words.l0 k a1 y102 t105 (⟨#[]⟩ : ByteArray) a0_0 l0_1)) = some r := by first | (rw [hy102]; with_reducible exact H) | (have H2_ := (Option.bind_some _ _).symm.trans H; rw [hy102]; with_reducible exact H2_) | (have H2_ := (Option.bind_some _ _).symm.trans H; with_reducible exact H2_) | with_reducible exact H | (rw [hy102]; exact H) | exact H
 have Ny102 := Aside0.mk hy102
 clear hy102
 replace H := Option.bind_eq_some_iff.mp H
 obtain ⟨t105, A30, H⟩ := H
 replace H : (spec_l4Words.l0 k a1 y102 t105 (⟨#[]⟩ : ByteArray) a0_0 l0_1) = some r := H
 have A3 := Aside0.mk A30
 clear A30
 have H' := Aside0.mk H
 clear H
 go_enter Tryd.func102, Tryd.ntmps102
 go_wp2_with (first | ((with_reducible refine gate_dst (N := 2) rfl ?_); (try (refine gate_guard (by rfl) ?_; dsimp only)); refine box_event ?hg (N := 2) ?hd (cs := #[.string a0_0, .slice A0_1 l0_1.length c0_1]) (t := 25) ?hr ?_; (case hd => rfl); (case hg => rfl); (case hr => first | (go_simp; done) | (go_simp; rfl)); intro gb101 hg w4 hbox hb; refine rn4 (below_step q93_1 hb) (hbox) ((by rw [hg]; exact (below_size q93_1) : w.heap.size ≤ gb101)) ((by rw [hg]; exact (below_size q93_1) : w.heap.size ≤ gb101)) ?_; clear HB; intro HB BK101 GW101 GE101; clear hb hbox hg) | ((with_reducible refine gate_dst (N := 8) rfl ?_); (try (refine gate_guard (by rfl) ?_; dsimp only)); refine Kd.R_lit Kd.string _ 9 ?hg (N := 8) ?hd (xs := ([] : List ByteArray)) (inner := []) (ok := fun _ => True) (okp := fun _ => True) ?hr ?hp (fun _ hk => hk) trivial (Below.refl _ _) (Nat.le_refl _) (by simp) ?_; (case hd => rfl); (case hg => rfl); (case hr => first | (go_simp; done) | (go_simp; rfl)); (case hp => exact (Reps.none _ _)); intro v103 w5 ho6 hb hg_ hnew_; clear hg_ hnew_; (first | rw [← Ny102.out] at ho6 | (simp only [Int.reduceToNat] at ho6; rw [← Ny102.out] at ho6)); refine rn3 (Kd.R_lower ho6 (below_size q93_1)) (blk_below (g := gb101) (o := .cells #[.string a0_0, .slice A0_1 l0_1.length c0_1] 25 (0, 0)) q93_3 hb) (below_step q93_1 hb) ?_; clear BK101 HB; intro HO104 BK101 HB; clear hb ho6; have hcz7_0 : w5.cell? ⟨gb101, 0, none⟩ = some (.string a0_0) := (blk_cell BK101.out 0).trans rfl; have hcz7_1 : w5.cell? ⟨gb101, 1, none⟩ = some (.slice A0_1 l0_1.length c0_1) := (blk_cell BK101.out 1).trans rfl; have hfz7_0 := blk_frozen BK101.out 0; have hfz7_1 := blk_frozen BK101.out 1) | ((with_reducible refine gate_callee (f := 73) rfl ?_); refine goesL_ (some 10) rfl rfl Tryd.func73 (by kernel_rfl) rfl #[.agg #[.string a0_0, .slice A0_1 l0_1.length c0_1], .bool false] rfl q93_2 ?_; (with_reducible refine (spec_l1Signs.calls k a0_0 _ _ l0_1 false t105 _ ?side1 ?side2 A3.out).mono ?_); (case side1 => exact q93_4); (case side2 => exact HC0_1.out); rintro e w8 ⟨rfl, hb⟩; refine ⟨_, rfl, ?_⟩; refine rn3 (Kd.R_below (by (with_reducible repeat (first | apply Kd.R_alloc | apply Kd.R_drewN | apply Kd.R_drew)); exact HO104.out) hb) (blk_below (g := gb101) (o := .cells #[.string a0_0, .slice A0_1 l0_1.length c0_1] 25 (0, 0)) q93_3 hb) (below_step q93_1 hb) ?_; clear HO104 BK101 HB; intro HO104 BK101 HB; (try clear hb); (try clear hb2); (try clear hk); (try clear hi)))
 go_loopg [5, 7] k (fun kq v5 v7 w' => ∃ (x5_1 : List ByteArray) (x7_1 : ByteArray), v7 = .string x7_1 ∧ Aside0 (spec_l4Words.l0 kq a1 x5_1 t105 x7_1 a0_0 l0_1 = some r) ∧ Aside0 (kq ≤ k) ∧ Aside0 (Kd.R Kd.string 9 w' w.heap.size (fun _ => True) v5 x5_1) ∧ Aside0 (w'.heap[gb101]? = some (.cells #[.string a0_0, (.slice A0_1 l0_1.length c0_1)] 25 (0, 0))) ∧ Aside0 (Below w.heap.size w w'))
 case atStart => exact ⟨(y102), ((⟨#[]⟩ : ByteArray)), q93_6, H', ⟨Nat.le_refl _⟩, ⟨by (with_reducible repeat (first | apply Kd.R_alloc | apply Kd.R_drewN | apply Kd.R_drew)); exact HO104.out⟩, ⟨by (with_reducible repeat (first | refine blk_drewN ?_ _ | refine blk_drew ?_ | refine blk_alloc ?_ _)); exact BK101.out⟩, ⟨by repeat (first | (with_reducible first | exact HB.out | apply below_alloc | apply pw_below_drewN | apply below_drew1 | refine below_set ?_ GE101.out) | exact HB.out)⟩⟩
 case round =>
  clear H'
  try clear c1
  try clear p2
  try clear c7
  try clear hcz7_0
  try clear hcz7_1
  try clear hfz7_0
  try clear hfz7_1
  obtain ⟨x5_1, x7_1, rfl, HA, HK1, HO_5, BK101, HB⟩ := hrel
  cases gk with
  | zero => exact absurd HA.out (by simp [spec_l4Words.l0])
  | succ k1 =>
   have H := HA.out
   clear HA
   simp only [spec_l4Words.l0] at H
   have HC9 := Aside0.mk H
   clear H
   go_upto_region 4 with (fail)
   go_cut [19] (fun v19 wc => ∃ (kq : Nat) (x19_8 : Bool), v19 = .bool x19_8 ∧ Aside0 (spec_l4Words.j1 kq a1 x5_1 t105 x7_1 x19_8 a0_0 l0_1 = some r) ∧ Aside0 (kq ≤ k1) ∧ Aside0 (Kd.R Kd.string 9 wc w.heap.size (fun _ => True) u5 x5_1) ∧ Aside0 (wc.heap[gb101]? = some (.cells #[.string a0_0, (.slice A0_1 l0_1.length c0_1)] 25 (0, 0))) ∧ Aside0 (Below w.heap.size w wc))
   case first =>
    have H := HC9.out
    clear HC9
    by_cases c10 : (x7_1.size : Int) ≤ a1
    ·rw [if_pos c10] at H
     have c10b0 : decide ((x7_1.size : Int) ≤ a1) = true := decide_eq_true c10
     clear c10
     (first | rw [c10b0] | (simp only [i64_w, i32_w]; rw [c10b0]) | skip)
     have H' := Aside0.mk H
     clear H
     obtain ⟨Ao11, co11, eo11⟩ := Kd.R_slice HO_5.out
     subst eo11
     go_wp2
     go_meet
     case rel => exact ⟨_, (decide ((x5_1.length : Int) < 60)), q93_6, H', ⟨by have := HK1.out; first | omega | exact Nat.le_refl _⟩, ⟨by (with_reducible repeat (first | apply Kd.R_alloc | apply Kd.R_drewN | apply Kd.R_drew)); exact HO_5.out⟩, ⟨by (with_reducible repeat (first | refine blk_drewN ?_ _ | refine blk_drew ?_ | refine blk_alloc ?_ _)); exact BK101.out⟩, ⟨by repeat (first | (with_reducible first | exact HB.out | apply below_alloc | apply pw_below_drewN | apply below_drew1 | refine below_set ?_ GE101.out) | exact HB.out)⟩⟩
    rw [if_neg c10] at H
    have c10b0 : decide ((x7_1.size : Int) ≤ a1) = false := decide_eq_false c10
    clear c10
    (first | rw [c10b0] | (simp only [i64_w, i32_w]; rw [c10b0]) | skip)
    have H' := Aside0.mk H
    clear H
    go_wp2
    go_meet
    case rel => exact ⟨_, (false), q93_6, H', ⟨by have := HK1.out; first | omega | exact Nat.le_refl _⟩, ⟨by (with_reducible repeat (first | apply Kd.R_alloc | apply Kd.R_drewN | apply Kd.R_drew)); exact HO_5.out⟩, ⟨by (with_reducible repeat (first | refine blk_drewN ?_ _ | refine blk_drew ?_ | refine blk_alloc ?_ _)); exact BK101.out⟩, ⟨by repeat (first | (with_reducible first | exact HB.out | apply below_alloc | apply pw_below_drewN | apply below_drew1 | refine below_set ?_ GE101.out) | exact HB.out)⟩⟩
   case rest =>
    clear HC9
    try clear c1
    try clear p2
    try clear c7
    try clear c10
    try clear c10b0
    try clear hcz7_0
    try clear hcz7_1
    try clear hfz7_0
    try clear hfz7_1
    try clear p2
    obtain ⟨kq, x19_8, rfl, HA, HJ8, HO_5, BK101, HB⟩ := hcut
    cases kq with
    | zero => exact absurd HA.out (by simp [spec_l4Words.j1])
    | succ kj8 =>
     have H := HA.out
     clear HA
     simp only [spec_l4Words.j1] at H
     by_cases c12 : x19_8 = true
     rotate_left
     ·replace c12 := Bool.eq_false_iff.mpr c12
      subst c12
      have H1 : (some x5_1) = some r := by rw [if_neg (show ¬ (false = true) by decide)] at H; exact H
      clear H
      have H := H1
      clear H1
      obtain rfl := Option.some.inj H
      go_wp2
      go_ret
      exact ⟨_, by first | rfl | (simp [errW_none, errW_some] <;> rfl) | (simp [*, errW_none, errW_some] <;> rfl), by (with_reducible repeat (first | apply Kd.R_alloc | apply Kd.R_drewN | apply Kd.R_drew)); exact HO_5.out, by repeat (first | (with_reducible first | exact HB.out | apply below_alloc | apply pw_below_drewN | apply below_drew1 | refine below_set ?_ GE101.out) | exact HB.out)⟩
     subst c12
     have H1 : ((spec_l4Is.f a0_0 l0_1 x7_1).bind fun t106 => (if t106 = true then (if x5_1.length < 8796093022208 then ((some (x5_1 ++ [x7_1] : List ByteArray)).bind fun y107 => (if t105.toList = ([] : List UInt8) then (some y107) else ((spec_l4Next.f kj8 t105 x7_1).bind fun t110 => (spec_l4Words.l0 kj8 a1 y107 t105 t110 a0_0 l0_1)))) else (none)) else (if t105.toList = ([] : List UInt8) then (some x5_1) else ((spec_l4Next.f kj8 t105 x7_1).bind fun t111 => (spec_l4Words.l0 kj8 a1 x5_1 t105 t111 a0_0 l0_1))))) = some r := by rw [if_pos rfl] at H; exact H
     clear H
     have H := H1
     clear H1
     replace H := Option.bind_eq_some_iff.mp H
     obtain ⟨t106, A130, H⟩ := H
     replace H : (if t106 = true then (if x5_1.length < 8796093022208 then ((some (x5_1 ++ [x7_1] : List ByteArray)).bind fun y107 => (if t105.toList = ([] : List UInt8) then (some y107) else ((spec_l4Next.f kj8 t105 x7_1).bind fun t110 => (spec_l4Words.l0 kj8 a1 y107 t105 t110 a0_0 l0_1)))) else (none)) else (if t105.toList = ([] : List UInt8) then (some x5_1) else ((spec_l4Next.f kj8 t105 x7_1).bind fun t111 => (spec_l4Words.l0 kj8 a1 x5_1 t105 t111 a0_0 l0_1)))) = some r := H
     have A13 := Aside0.mk A130
     clear A130
     by_cases c14 : t106 = true
     ·subst c14
      have H1 : (if x5_1.length < 8796093022208 then ((some (x5_1 ++ [x7_1] : List ByteArray)).bind fun y107 => (if t105.toList = ([] : List UInt8) then (some y107) else ((spec_l4Next.f kj8 t105 x7_1).bind fun t110 => (spec_l4Words.l0 kj8 a1 y107 t105 t110 a0_0 l0_1)))) else (none)) = some r := by rw [if_pos rfl] at H; exact H
      clear H
      have H := H1
      clear H1
      by_cases c15 : x5_1.length < 8796093022208
      rotate_left
      ·rw [if_neg c15] at H
       exact absurd H (by simp)
      rw [if_pos c15] at H
      have LMc15 := Aside0.mk c15
      clear c15
      obtain ⟨y107, hy107⟩ : ∃ y_ : List ByteArray, y_ = (x5_1 ++ [x7_1]) := ⟨_, rfl⟩
      replace H : (if t105.toList = ([] : List UInt8) then (some y107) else ((spec_l4Next.f kj8 t105 x7_1).bind fun t110 => (spec_l4Words.l0 kj8 a1 y107 t105 t110 a0_0 l0_1))) = some r := by first | (rw [hy107]; with_reducible exact H) | (have H2_ := (Option.bind_some _ _).symm.trans H; rw [hy107]; with_reducible exact H2_) | (have H2_ := (Option.bind_some _ _).symm.trans H; with_reducible exact H2_) | with_reducible exact H | (rw [hy107]; exact H) | exact H
      have Ny107 := Aside0.mk hy107
      clear hy107
      by_cases c16 : t105.toList = ([] : List UInt8)
      ·rw [if_pos c16] at H
       have c16b0 : (t105.toList == ([] : List UInt8)) = true := beq_iff_eq.mpr c16
       have c16b1 : (t105.toList != ([] : List UInt8)) = false := bne_eq_false_iff_eq.mpr c16
       clear c16
       obtain rfl := Option.some.inj H
       have hcz17_0 : wc.cell? ⟨gb101, 0, none⟩ = some (.string a0_0) := (blk_cell BK101.out 0).trans rfl
       have hcz17_1 : wc.cell? ⟨gb101, 1, none⟩ = some (.slice A0_1 l0_1.length c0_1) := (blk_cell BK101.out 1).trans rfl
       have hfz17_0 := blk_frozen BK101.out 0
       have hfz17_1 := blk_frozen BK101.out 1
       go_wp2_with (first | ((with_reducible refine gate_callee (f := 91) rfl ?_); refine goesL_ (some 22) rfl rfl Tryd.func91 (by kernel_rfl) rfl #[.agg #[.string a0_0, .slice A0_1 l0_1.length c0_1], .string x7_1] rfl q93_2 ?_; (with_reducible refine (spec_l4Is.calls a0_0 _ _ l0_1 x7_1 true _ ?side1 ?side2 A13.out).mono ?_); (case side1 => exact q93_4); (case side2 => exact HC0_1.out); rintro e w18 ⟨rfl, hb⟩; refine ⟨_, rfl, ?_⟩; refine rn3 (Kd.R_below q93_5 hb) (blk_below (g := gb101) (o := .cells #[.string a0_0, .slice A0_1 l0_1.length c0_1] 25 (0, 0)) q93_3 hb) (below_step q93_1 hb) ?_; clear HO_5 BK101 HB; intro HO_5 BK101 HB; (try clear hb); (try clear hb2); (try clear hk); (try clear hi)) | ((with_reducible refine gate_builtin (b := .append) (xs := #[.tmp 23, .tmp 25]) rfl ?_); (try (refine gate_guard (by rfl) ?_; dsimp only)); at_builtin; refine Kd.R_append Kd.string (w0 := w) w.heap.size rfl (.tmp 23) (.tmp 25) 63 9 (.string ⟨#[]⟩) 16 rfl Tryd.underlying63 info9 rfl (by decide) (by omega) u5 x5_1 x7_1 [.string x7_1] (fun _ => True) (fun _ => False) rfl rfl ?aP (fun _ hk => hk.elim) ?aF ?aO ?aB ?aS ?aL ?_; (case aP => exact rfl); (case aB => exact q93_1); (case aF => exact (fun _ _ => trivial)); (case aO => exact q93_5); (case aS => exact (below_size q93_1)); (case aL => have := LMc15.out; omega); intro v108 w19 ho hb hg hat; rw [← Ny107.out] at ho; refine rn3 (blk_grown (g := gb101) (o := .cells #[.string a0_0, .slice A0_1 l0_1.length c0_1] 25 (0, 0)) q93_3 hg (Kd.R_ne HO_5.out BK101.out (by decide))) (hb) (ho) ?_; clear BK101 HB HO_5; intro BK101 HB HO109; clear ho hb hg hat))
       go_ret
       exact ⟨_, by first | rfl | (simp [errW_none, errW_some] <;> rfl) | (simp [*, errW_none, errW_some] <;> rfl), by (with_reducible repeat (first | apply Kd.R_alloc | apply Kd.R_drewN | apply Kd.R_drew)); exact HO109.out, by repeat (first | (with_reducible first | exact HB.out | apply below_alloc | apply pw_below_drewN | apply below_drew1 | refine below_set ?_ GE101.out) | exact HB.out)⟩
      rw [if_neg c16] at H
      have c16b0 : (t105.toList == ([] : List UInt8)) = false := beq_eq_false_iff_ne.mpr c16
      have c16b1 : (t105.toList != ([] : List UInt8)) = true := bne_iff_ne.mpr c16
      replace H := Option.bind_eq_some_iff.mp H
      obtain ⟨t110, A200, H⟩ := H
      replace H : (spec_l4Words.l0 kj8 a1 y107 t105 t110 a0_0 l0_1) = some r := H
      have A20 := Aside0.mk A200
      clear A200
      have H' := Aside0.mk H
      clear H
      have hcz21_0 : wc.cell? ⟨gb101, 0, none⟩ = some (.string a0_0) := (blk_cell BK101.out 0).trans rfl
      have hcz21_1 : wc.cell? ⟨gb101, 1, none⟩ = some (.slice A0_1 l0_1.length c0_1) := (blk_cell BK101.out 1).trans rfl
      have hfz21_0 := blk_frozen BK101.out 0
      have hfz21_1 := blk_frozen BK101.out 1
      go_wp2_with (first | ((with_reducible refine gate_callee (f := 91) rfl ?_); refine goesL_ (some 22) rfl rfl Tryd.func91 (by kernel_rfl) rfl #[.agg #[.string a0_0, .slice A0_1 l0_1.length c0_1], .string x7_1] rfl q93_2 ?_; (with_reducible refine (spec_l4Is.calls a0_0 _ _ l0_1 x7_1 true _ ?side1 ?side2 A13.out).mono ?_); (case side1 => exact q93_4); (case side2 => exact HC0_1.out); rintro e w22 ⟨rfl, hb⟩; refine ⟨_, rfl, ?_⟩; refine rn3 (Kd.R_below q93_5 hb) (blk_below (g := gb101) (o := .cells #[.string a0_0, .slice A0_1 l0_1.length c0_1] 25 (0, 0)) q93_3 hb) (below_step q93_1 hb) ?_; clear HO_5 BK101 HB; intro HO_5 BK101 HB; (try clear hb); (try clear hb2); (try clear hk); (try clear hi)) | ((with_reducible refine gate_builtin (b := .append) (xs := #[.tmp 23, .tmp 25]) rfl ?_); (try (refine gate_guard (by rfl) ?_; dsimp only)); at_builtin; refine Kd.R_append Kd.string (w0 := w) w.heap.size rfl (.tmp 23) (.tmp 25) 63 9 (.string ⟨#[]⟩) 16 rfl Tryd.underlying63 info9 rfl (by decide) (by omega) u5 x5_1 x7_1 [.string x7_1] (fun _ => True) (fun _ => False) rfl rfl ?aP (fun _ hk => hk.elim) ?aF ?aO ?aB ?aS ?aL ?_; (case aP => exact rfl); (case aB => exact q93_1); (case aF => exact (fun _ _ => trivial)); (case aO => exact q93_5); (case aS => exact (below_size q93_1)); (case aL => have := LMc15.out; omega); intro v108 w23 ho hb hg hat; rw [← Ny107.out] at ho; refine rn3 (blk_grown (g := gb101) (o := .cells #[.string a0_0, .slice A0_1 l0_1.length c0_1] 25 (0, 0)) q93_3 hg (Kd.R_ne HO_5.out BK101.out (by decide))) (hb) (ho) ?_; clear BK101 HB HO_5; intro BK101 HB HO109; clear ho hb hg hat) | ((with_reducible refine gate_callee (f := 93) rfl ?_); refine goesL_ (some 32) rfl rfl Tryd.func93 (by kernel_rfl) rfl #[.string t105, .string x7_1] rfl q93_2 ?_; (with_reducible refine (spec_l4Next.calls kj8 t105 x7_1 t110 _ A20.out).mono ?_); rintro e w' ⟨rfl, ⟨nd, rfl⟩⟩; refine ⟨_, rfl, ?_⟩))
      go_roundg kj8
      case measure => have := HK1.out; have := HJ8.out; omega
      case rel => exact ⟨(y107), (t110), q93_6, H', ⟨by have := HK1.out; have := HJ8.out; omega⟩, ⟨by (with_reducible repeat (first | apply Kd.R_alloc | apply Kd.R_drewN | apply Kd.R_drew)); exact HO109.out⟩, ⟨by (with_reducible repeat (first | refine blk_drewN ?_ _ | refine blk_drew ?_ | refine blk_alloc ?_ _)); exact BK101.out⟩, ⟨by repeat (first | (with_reducible first | exact HB.out | apply below_alloc | apply pw_below_drewN | apply below_drew1 | refine below_set ?_ GE101.out) | exact HB.out)⟩⟩
     replace c14 := Bool.eq_false_iff.mpr c14
     subst c14
     have H1 : (if t105.toList = ([] : List UInt8) then (some x5_1) else ((spec_l4Next.f kj8 t105 x7_1).bind fun t111 => (spec_l4Words.l0 kj8 a1 x5_1 t105 t111 a0_0 l0_1))) = some r := by rw [if_neg (show ¬ (false = true) by decide)] at H; exact H
     clear H
     have H := H1
     clear H1
     by_cases c24 : t105.toList = ([] : List UInt8)
     ·rw [if_pos c24] at H
      have c24b0 : (t105.toList == ([] : List UInt8)) = true := beq_iff_eq.mpr c24
      have c24b1 : (t105.toList != ([] : List UInt8)) = false := bne_eq_false_iff_eq.mpr c24
      clear c24
      obtain rfl := Option.some.inj H
      have hcz25_0 : wc.cell? ⟨gb101, 0, none⟩ = some (.string a0_0) := (blk_cell BK101.out 0).trans rfl
      have hcz25_1 : wc.cell? ⟨gb101, 1, none⟩ = some (.slice A0_1 l0_1.length c0_1) := (blk_cell BK101.out 1).trans rfl
      have hfz25_0 := blk_frozen BK101.out 0
      have hfz25_1 := blk_frozen BK101.out 1
      go_wp2_with (first | ((with_reducible refine gate_callee (f := 91) rfl ?_); refine goesL_ (some 22) rfl rfl Tryd.func91 (by kernel_rfl) rfl #[.agg #[.string a0_0, .slice A0_1 l0_1.length c0_1], .string x7_1] rfl q93_2 ?_; (with_reducible refine (spec_l4Is.calls a0_0 _ _ l0_1 x7_1 false _ ?side1 ?side2 A13.out).mono ?_); (case side1 => exact q93_4); (case side2 => exact HC0_1.out); rintro e w26 ⟨rfl, hb⟩; refine ⟨_, rfl, ?_⟩; refine rn3 (Kd.R_below q93_5 hb) (blk_below (g := gb101) (o := .cells #[.string a0_0, .slice A0_1 l0_1.length c0_1] 25 (0, 0)) q93_3 hb) (below_step q93_1 hb) ?_; clear HO_5 BK101 HB; intro HO_5 BK101 HB; (try clear hb); (try clear hb2); (try clear hk); (try clear hi)))
      go_ret
      exact ⟨_, by first | rfl | (simp [errW_none, errW_some] <;> rfl) | (simp [*, errW_none, errW_some] <;> rfl), by (with_reducible repeat (first | apply Kd.R_alloc | apply Kd.R_drewN | apply Kd.R_drew)); exact HO_5.out, by repeat (first | (with_reducible first | exact HB.out | apply below_alloc | apply pw_below_drewN | apply below_drew1 | refine below_set ?_ GE101.out) | exact HB.out)⟩
     rw [if_neg c24] at H
     have c24b0 : (t105.toList == ([] : List UInt8)) = false := beq_eq_false_iff_ne.mpr c24
     have c24b1 : (t105.toList != ([] : List UInt8)) = true := bne_iff_ne.mpr c24
     replace H := Option.bind_eq_some_iff.mp H
     obtain ⟨t111, A270, H⟩ := H
     replace H : (spec_l4Words.l0 kj8 a1 x5_1 t105 t111 a0_0 l0_1) = some r := H
     have A27 := Aside0.mk A270
     clear A270
     have H' := Aside0.mk H
     clear H
     have hcz28_0 : wc.cell? ⟨gb101, 0, none⟩ = some (.string a0_0) := (blk_cell BK101.out 0).trans rfl
     have hcz28_1 : wc.cell? ⟨gb101, 1, none⟩ = some (.slice A0_1 l0_1.length c0_1) := (blk_cell BK101.out 1).trans rfl
     have hfz28_0 := blk_frozen BK101.out 0
     have hfz28_1 := blk_frozen BK101.out 1
     go_wp2_with (first | ((with_reducible refine gate_callee (f := 91) rfl ?_); refine goesL_ (some 22) rfl rfl Tryd.func91 (by kernel_rfl) rfl #[.agg #[.string a0_0, .slice A0_1 l0_1.length c0_1], .string x7_1] rfl q93_2 ?_; (with_reducible refine (spec_l4Is.calls a0_0 _ _ l0_1 x7_1 false _ ?side1 ?side2 A13.out).mono ?_); (case side1 => exact q93_4); (case side2 => exact HC0_1.out); rintro e w29 ⟨rfl, hb⟩; refine ⟨_, rfl, ?_⟩; refine rn3 (Kd.R_below q93_5 hb) (blk_below (g := gb101) (o := .cells #[.string a0_0, .slice A0_1 l0_1.length c0_1] 25 (0, 0)) q93_3 hb) (below_step q93_1 hb) ?_; clear HO_5 BK101 HB; intro HO_5 BK101 HB; (try clear hb); (try clear hb2); (try clear hk); (try clear hi)) | ((with_reducible refine gate_callee (f := 93) rfl ?_); refine goesL_ (some 32) rfl rfl Tryd.func93 (by kernel_rfl) rfl #[.string t105, .string x7_1] rfl q93_2 ?_; (with_reducible refine (spec_l4Next.calls kj8 t105 x7_1 t111 _ A27.out).mono ?_); rintro e w' ⟨rfl, ⟨nd, rfl⟩⟩; refine ⟨_, rfl, ?_⟩))
     go_roundg kj8
     case measure => have := HK1.out; have := HJ8.out; omega
     case rel => exact ⟨(x5_1), (t111), q93_6, H', ⟨by have := HK1.out; have := HJ8.out; omega⟩, ⟨by (with_reducible repeat (first | apply Kd.R_alloc | apply Kd.R_drewN | apply Kd.R_drew)); exact HO_5.out⟩, ⟨by (with_reducible repeat (first | refine blk_drewN ?_ _ | refine blk_drew ?_ | refine blk_alloc ?_ _)); exact BK101.out⟩, ⟨by repeat (first | (with_reducible first | exact HB.out | apply below_alloc | apply pw_below_drewN | apply below_drew1 | refine below_set ?_ GE101.out) | exact HB.out)⟩⟩
/-! ### spec_AllWords: function 48 -/
noncomputable def spec_AllWords.f (k : Nat) (a0_0 : ByteArray) (l0_1 : List (S46)) (a1 : Int) : Option (List ByteArray) := (spec_GramOk.f k a0_0 l0_1).bind fun t102 => (if t102 = true then ((spec_l4Length.f a1).bind fun t103 => (if t103 = true then ((spec_l4Words.f k a0_0 l0_1 a1).bind fun t104 => (some t104)) else (some (([] : List ByteArray))))) else (some (([] : List ByteArray))))
theorem spec_AllWords.mono : ∀ a0 a1 a2 k, LeO (spec_AllWords.f k a0 a1 a2) (spec_AllWords.f (k + 1) a0 a1 a2) := by
 intro a0 a1 a2 k
 unfold spec_AllWords.f
 repeat' first
   | (with_reducible exact spec_GramOk.mono _ _ _)
   | (with_reducible exact spec_l4Words.mono _ _ _ _)
   | (with_reducible exact LeO.refl _)
   | (with_reducible exact LeO.none _)
   | (with_reducible refine LeO.ite ?_ ?_)
   | (with_reducible refine LeO.bind ?_ (fun _ => ?_))
   | exact spec_GramOk.mono _ _ _
   | exact spec_l4Words.mono _ _ _ _
   | exact LeO.none _
   | refine LeO.ite ?_ ?_
   | refine LeO.bind ?_ (fun _ => ?_)
set_option maxHeartbeats 8000000 in
set_option maxRecDepth 100000 in
theorem spec_AllWords.calls (k : Nat) (a0_0 : ByteArray) (A0_1 : Option Addr) (c0_1 : Nat) (l0_1 : List (S46)) (a1 : Int) (r : List ByteArray) (w : World) (hr0_1 : Kd.C k46 w A0_1 l0_1.length l0_1) (hc0_1 : l0_1.length ≤ c0_1) (h : spec_AllWords.f k a0_0 l0_1 a1 = some r) :
  Calls Tryd.prog 48 #[.agg #[.string a0_0, .slice A0_1 l0_1.length c0_1], .int .i64 a1] w fun e w' => ∃ v0_ : Value, e = .returned (v0_) ∧ Kd.R Kd.string 9 w' w.heap.size (fun _ => True) v0_ r ∧ Below w.heap.size w w' := by
 have hu25 := Tryd.underlying25
 have HR0_1 := Aside0.mk hr0_1
 have HC0_1 := Aside0.mk hc0_1
 clear hr0_1 hc0_1
 have HB := Aside0.mk (Below.refl w.heap.size w)
 have H : ((spec_GramOk.f k a0_0 l0_1).bind fun t102 => (if t102 = true then ((spec_l4Length.f a1).bind fun t103 => (if t103 = true then ((spec_l4Words.f k a0_0 l0_1 a1).bind fun t104 => (some t104)) else (some (([] : List ByteArray))))) else (some (([] : List ByteArray))))) = some r := h
 clear h
 replace H := Option.bind_eq_some_iff.mp H
 obtain ⟨t102, A30, H⟩ := H
 replace H : (if t102 = true then ((spec_l4Length.f a1).bind fun t103 => (if t103 = true then ((spec_l4Words.f k a0_0 l0_1 a1).bind fun t104 => (some t104)) else (some (([] : List ByteArray))))) else (some (([] : List ByteArray)))) = some r := H
 have A3 := Aside0.mk A30
 clear A30
 by_cases c4 : t102 = true
 rotate_left
 ·replace c4 := Bool.eq_false_iff.mpr c4
  subst c4
  have H1 : (some (([] : List ByteArray))) = some r := by rw [if_neg (show ¬ (false = true) by decide)] at H; exact H
  clear H
  have H := H1
  clear H1
  obtain ⟨y110, hy110⟩ : ∃ y_ : List ByteArray, y_ = (([] : List ByteArray)) := ⟨_, rfl⟩
  replace H : (some y110) = some r := by first | (rw [hy110]; with_reducible exact H) | (have H2_ := (Option.bind_some _ _).symm.trans H; rw [hy110]; with_reducible exact H2_) | (have H2_ := (Option.bind_some _ _).symm.trans H; with_reducible exact H2_) | with_reducible exact H | (rw [hy110]; exact H) | exact H
  have Ny110 := Aside0.mk hy110
  clear hy110
  obtain rfl := Option.some.inj H
  go_enter Tryd.func48, Tryd.ntmps48
  go_wp2_with (first | ((with_reducible refine gate_dst (N := 2) rfl ?_); refine box_event ?hg (N := 2) ?hd (cs := #[.string a0_0, .slice A0_1 l0_1.length c0_1]) (t := 25) ?hr ?_; (case hd => rfl); (case hg => rfl); (case hr => first | (go_simp; done) | (go_simp; rfl)); intro gb101 hg w18 hbox hb; refine rn4 (below_step (by repeat (first | (with_reducible first | exact HB.out | apply below_alloc | apply pw_below_drewN | apply below_drew1) | exact HB.out)) hb) (hbox) ((by rw [hg]; exact (below_size (by repeat (first | (with_reducible first | exact HB.out | apply below_alloc | apply pw_below_drewN | apply below_drew1) | exact HB.out))) : w.heap.size ≤ gb101)) ((by rw [hg]; exact (below_size (by repeat (first | (with_reducible first | exact HB.out | apply below_alloc | apply pw_below_drewN | apply below_drew1) | exact HB.out))) : w.heap.size ≤ gb101)) ?_; clear HB; intro HB BK101 GW101 GE101; clear hb hbox hg; have hcz19_0 : w18.cell? ⟨gb101, 0, none⟩ = some (.string a0_0) := (blk_cell BK101.out 0).trans rfl; have hcz19_1 : w18.cell? ⟨gb101, 1, none⟩ = some (.slice A0_1 l0_1.length c0_1) := (blk_cell BK101.out 1).trans rfl; have hfz19_0 := blk_frozen BK101.out 0; have hfz19_1 := blk_frozen BK101.out 1) | ((with_reducible refine gate_callee (f := 27) rfl ?_); refine goesL_ (some 6) rfl rfl Tryd.func27 (by kernel_rfl) rfl #[.agg #[.string a0_0, .slice A0_1 l0_1.length c0_1]] rfl (by (try simp only [List.map_toArray, List.map_cons, List.map_nil]); first | done | rfl | (simp only [List.length_drop, List.length_take]; rfl)) ?_; (with_reducible refine (spec_GramOk.calls k a0_0 _ _ l0_1 false _ ?side1 ?side2 A3.out).mono ?_); (case side1 => repeat (first | exact (Kd.C_below HR0_1.out HB.out) | (with_reducible refine Kd.C_alloc ?_ _) | (with_reducible refine Kd.C_drewN ?_ _) | (with_reducible refine Kd.C_drew ?_))); (case side2 => exact HC0_1.out); rintro e w20 ⟨rfl, hb⟩; refine ⟨_, rfl, ?_⟩; refine rn2 (blk_below (g := gb101) (o := .cells #[.string a0_0, .slice A0_1 l0_1.length c0_1] 25 (0, 0)) (by (with_reducible repeat (first | refine blk_drewN ?_ _ | refine blk_drew ?_ | refine blk_alloc ?_ _)); exact BK101.out) hb) (below_step (by repeat (first | (with_reducible first | exact HB.out | apply below_alloc | apply pw_below_drewN | apply below_drew1 | refine below_set ?_ GE101.out) | exact HB.out)) hb) ?_; clear BK101 HB; intro BK101 HB; (try clear hb); (try clear hb2); (try clear hk); (try clear hi)) | ((with_reducible refine gate_dst (N := 13) rfl ?_); refine Kd.R_lit Kd.string _ 9 ?hg (N := 13) ?hd (xs := ([] : List ByteArray)) (inner := []) (ok := fun _ => True) (okp := fun _ => True) ?hr ?hp (fun _ hk => hk) trivial (Below.refl _ _) (Nat.le_refl _) (by simp) ?_; (case hd => rfl); (case hg => rfl); (case hr => first | (go_simp; done) | (go_simp; rfl)); (case hp => exact (Reps.none _ _)); intro v111 w21 ho22 hb hg_ hnew_; clear hg_ hnew_; (first | rw [← Ny110.out] at ho22 | (simp only [Int.reduceToNat] at ho22; rw [← Ny110.out] at ho22)); refine rn3 (Kd.R_lower ho22 (below_size (by repeat (first | (with_reducible first | exact HB.out | apply below_alloc | apply pw_below_drewN | apply below_drew1 | refine below_set ?_ GE101.out) | exact HB.out)))) (blk_below (g := gb101) (o := .cells #[.string a0_0, .slice A0_1 l0_1.length c0_1] 25 (0, 0)) (by (with_reducible repeat (first | refine blk_drewN ?_ _ | refine blk_drew ?_ | refine blk_alloc ?_ _)); exact BK101.out) hb) (below_step (by repeat (first | (with_reducible first | exact HB.out | apply below_alloc | apply pw_below_drewN | apply below_drew1 | refine below_set ?_ GE101.out) | exact HB.out)) hb) ?_; clear BK101 HB; intro HO112 BK101 HB; clear hb ho22))
  go_ret
  exact ⟨_, by first | rfl | (simp [errW_none, errW_some] <;> rfl) | (simp [*, errW_none, errW_some] <;> rfl), by (with_reducible repeat (first | apply Kd.R_alloc | apply Kd.R_drewN | apply Kd.R_drew)); exact HO112.out, by repeat (first | (with_reducible first | exact HB.out | apply below_alloc | apply pw_below_drewN | apply below_drew1 | refine below_set ?_ GE101.out) | exact HB.out)⟩
 subst c4
 have H1 : ((spec_l4Length.f a1).bind fun t103 => (if t103 = true then ((spec_l4Words.f k a0_0 l0_1 a1).bind fun t104 => (some t104)) else (some (([] : List ByteArray))))) = some r := by rw [if_pos rfl] at H; exact H
 clear H
 have H := H1
 clear H1
 replace H := Option.bind_eq_some_iff.mp H
 obtain ⟨t103, A50, H⟩ := H
 replace H : (if t103 = true then ((spec_l4Words.f k a0_0 l0_1 a1).bind fun t104 => (some t104)) else (some (([] : List ByteArray)))) = some r := H
 have A5 := Aside0.mk A50
 clear A50
 by_cases c6 : t103 = true
 ·subst c6
  have H1 : ((spec_l4Words.f k a0_0 l0_1 a1).bind fun t104 => (some t104)) = some r := by rw [if_pos rfl] at H; exact H
  clear H
  have H := H1
  clear H1
  replace H := Option.bind_eq_some_iff.mp H
  obtain ⟨t104, A70, H⟩ := H
  replace H : (some t104) = some r := H
  have A7 := Aside0.mk A70
  clear A70
  obtain rfl := Option.some.inj H
  go_enter Tryd.func48, Tryd.ntmps48
  go_wp2_with (first | ((with_reducible refine gate_dst (N := 2) rfl ?_); refine box_event ?hg (N := 2) ?hd (cs := #[.string a0_0, .slice A0_1 l0_1.length c0_1]) (t := 25) ?hr ?_; (case hd => rfl); (case hg => rfl); (case hr => first | (go_simp; done) | (go_simp; rfl)); intro gb101 hg w8 hbox hb; refine rn4 (below_step (by repeat (first | (with_reducible first | exact HB.out | apply below_alloc | apply pw_below_drewN | apply below_drew1) | exact HB.out)) hb) (hbox) ((by rw [hg]; exact (below_size (by repeat (first | (with_reducible first | exact HB.out | apply below_alloc | apply pw_below_drewN | apply below_drew1) | exact HB.out))) : w.heap.size ≤ gb101)) ((by rw [hg]; exact (below_size (by repeat (first | (with_reducible first | exact HB.out | apply below_alloc | apply pw_below_drewN | apply below_drew1) | exact HB.out))) : w.heap.size ≤ gb101)) ?_; clear HB; intro HB BK101 GW101 GE101; clear hb hbox hg; have hcz9_0 : w8.cell? ⟨gb101, 0, none⟩ = some (.string a0_0) := (blk_cell BK101.out 0).trans rfl; have hcz9_1 : w8.cell? ⟨gb101, 1, none⟩ = some (.slice A0_1 l0_1.length c0_1) := (blk_cell BK101.out 1).trans rfl; have hfz9_0 := blk_frozen BK101.out 0; have hfz9_1 := blk_frozen BK101.out 1) | ((with_reducible refine gate_callee (f := 27) rfl ?_); refine goesL_ (some 6) rfl rfl Tryd.func27 (by kernel_rfl) rfl #[.agg #[.string a0_0, .slice A0_1 l0_1.length c0_1]] rfl (by (try simp only [List.map_toArray, List.map_cons, List.map_nil]); first | done | rfl | (simp only [List.length_drop, List.length_take]; rfl)) ?_; (with_reducible refine (spec_GramOk.calls k a0_0 _ _ l0_1 true _ ?side1 ?side2 A3.out).mono ?_); (case side1 => repeat (first | exact (Kd.C_below HR0_1.out HB.out) | (with_reducible refine Kd.C_alloc ?_ _) | (with_reducible refine Kd.C_drewN ?_ _) | (with_reducible refine Kd.C_drew ?_))); (case side2 => exact HC0_1.out); rintro e w10 ⟨rfl, hb⟩; refine ⟨_, rfl, ?_⟩; refine rn2 (blk_below (g := gb101) (o := .cells #[.string a0_0, .slice A0_1 l0_1.length c0_1] 25 (0, 0)) (by (with_reducible repeat (first | refine blk_drewN ?_ _ | refine blk_drew ?_ | refine blk_alloc ?_ _)); exact BK101.out) hb) (below_step (by repeat (first | (with_reducible first | exact HB.out | apply below_alloc | apply pw_below_drewN | apply below_drew1 | refine below_set ?_ GE101.out) | exact HB.out)) hb) ?_; clear BK101 HB; intro BK101 HB; (try clear hb); (try clear hb2); (try clear hk); (try clear hi)) | (go_at_call 90; (with_reducible refine (spec_l4Length.calls a1 true _ A5.out).mono ?_); rintro e w' ⟨rfl, ⟨nd, rfl⟩⟩; have hcz11_0 : w10.cell? ⟨gb101, 0, none⟩ = some (.string a0_0) := (blk_cell BK101.out 0).trans rfl; have hcz11_1 : w10.cell? ⟨gb101, 1, none⟩ = some (.slice A0_1 l0_1.length c0_1) := (blk_cell BK101.out 1).trans rfl; have hfz11_0 := blk_frozen BK101.out 0; have hfz11_1 := blk_frozen BK101.out 1) | ((with_reducible refine gate_callee (f := 102) rfl ?_); refine goesL_ (some 16) rfl rfl Tryd.func102 (by kernel_rfl) rfl #[.agg #[.string a0_0, .slice A0_1 l0_1.length c0_1], .int .i64 a1] rfl (by (try simp only [List.map_toArray, List.map_cons, List.map_nil]); first | done | rfl | (simp only [List.length_drop, List.length_take]; rfl)) ?_; (with_reducible refine (spec_l4Words.calls k a0_0 _ _ l0_1 a1 t104 _ ?side1 ?side2 A7.out).mono ?_); (case side1 => repeat (first | exact (Kd.C_below HR0_1.out (by repeat (first | (with_reducible first | exact HB.out | apply below_alloc | apply pw_below_drewN | apply below_drew1 | refine below_set ?_ GE101.out) | exact HB.out))) | (with_reducible refine Kd.C_alloc ?_ _) | (with_reducible refine Kd.C_drewN ?_ _) | (with_reducible refine Kd.C_drew ?_))); (case side2 => exact HC0_1.out); rintro e w12 ⟨v105, rfl, ho0, hb⟩; refine ⟨_, rfl, ?_⟩; refine rn3 (Kd.R_lower ho0 (below_size (by repeat (first | (with_reducible first | exact HB.out | apply below_alloc | apply pw_below_drewN | apply below_drew1 | refine below_set ?_ GE101.out) | exact HB.out)))) (blk_below (g := gb101) (o := .cells #[.string a0_0, .slice A0_1 l0_1.length c0_1] 25 (0, 0)) (by (with_reducible repeat (first | refine blk_drewN ?_ _ | refine blk_drew ?_ | refine blk_alloc ?_ _)); exact BK101.out) hb) (below_step (by repeat (first | (with_reducible first | exact HB.out | apply below_alloc | apply pw_below_drewN | apply below_drew1 | refine below_set ?_ GE101.out) | exact HB.out)) hb) ?_; clear BK101 HB; intro HO106 BK101 HB; (try clear hb); (try clear hb2); (try clear hk); (try clear hi); (try clear ho0)))
  go_ret
  exact ⟨_, by first | rfl | (simp [errW_none, errW_some] <;> rfl) | (simp [*, errW_none, errW_some] <;> rfl), by (with_reducible repeat (first | apply Kd.R_alloc | apply Kd.R_drewN | apply Kd.R_drew)); exact HO106.out, by repeat (first | (with_reducible first | exact HB.out | apply below_alloc | apply pw_below_drewN | apply below_drew1 | refine below_set ?_ GE101.out) | exact HB.out)⟩
 replace c6 := Bool.eq_false_iff.mpr c6
 subst c6
 have H1 : (some (([] : List ByteArray))) = some r := by rw [if_neg (show ¬ (false = true) by decide)] at H; exact H
 clear H
 have H := H1
 clear H1
 obtain ⟨y107, hy107⟩ : ∃ y_ : List ByteArray, y_ = (([] : List ByteArray)) := ⟨_, rfl⟩
 replace H : (some y107) = some r := by first | (rw [hy107]; with_reducible exact H) | (have H2_ := (Option.bind_some _ _).symm.trans H; rw [hy107]; with_reducible exact H2_) | (have H2_ := (Option.bind_some _ _).symm.trans H; with_reducible exact H2_) | with_reducible exact H | (rw [hy107]; exact H) | exact H
 have Ny107 := Aside0.mk hy107
 clear hy107
 obtain rfl := Option.some.inj H
 go_enter Tryd.func48, Tryd.ntmps48
 go_wp2_with (first | ((with_reducible refine gate_dst (N := 2) rfl ?_); refine box_event ?hg (N := 2) ?hd (cs := #[.string a0_0, .slice A0_1 l0_1.length c0_1]) (t := 25) ?hr ?_; (case hd => rfl); (case hg => rfl); (case hr => first | (go_simp; done) | (go_simp; rfl)); intro gb101 hg w13 hbox hb; refine rn4 (below_step (by repeat (first | (with_reducible first | exact HB.out | apply below_alloc | apply pw_below_drewN | apply below_drew1) | exact HB.out)) hb) (hbox) ((by rw [hg]; exact (below_size (by repeat (first | (with_reducible first | exact HB.out | apply below_alloc | apply pw_below_drewN | apply below_drew1) | exact HB.out))) : w.heap.size ≤ gb101)) ((by rw [hg]; exact (below_size (by repeat (first | (with_reducible first | exact HB.out | apply below_alloc | apply pw_below_drewN | apply below_drew1) | exact HB.out))) : w.heap.size ≤ gb101)) ?_; clear HB; intro HB BK101 GW101 GE101; clear hb hbox hg; have hcz14_0 : w13.cell? ⟨gb101, 0, none⟩ = some (.string a0_0) := (blk_cell BK101.out 0).trans rfl; have hcz14_1 : w13.cell? ⟨gb101, 1, none⟩ = some (.slice A0_1 l0_1.length c0_1) := (blk_cell BK101.out 1).trans rfl; have hfz14_0 := blk_frozen BK101.out 0; have hfz14_1 := blk_frozen BK101.out 1) | ((with_reducible refine gate_callee (f := 27) rfl ?_); refine goesL_ (some 6) rfl rfl Tryd.func27 (by kernel_rfl) rfl #[.agg #[.string a0_0, .slice A0_1 l0_1.length c0_1]] rfl (by (try simp only [List.map_toArray, List.map_cons, List.map_nil]); first | done | rfl | (simp only [List.length_drop, List.length_take]; rfl)) ?_; (with_reducible refine (spec_GramOk.calls k a0_0 _ _ l0_1 true _ ?side1 ?side2 A3.out).mono ?_); (case side1 => repeat (first | exact (Kd.C_below HR0_1.out HB.out) | (with_reducible refine Kd.C_alloc ?_ _) | (with_reducible refine Kd.C_drewN ?_ _) | (with_reducible refine Kd.C_drew ?_))); (case side2 => exact HC0_1.out); rintro e w15 ⟨rfl, hb⟩; refine ⟨_, rfl, ?_⟩; refine rn2 (blk_below (g := gb101) (o := .cells #[.string a0_0, .slice A0_1 l0_1.length c0_1] 25 (0, 0)) (by (with_reducible repeat (first | refine blk_drewN ?_ _ | refine blk_drew ?_ | refine blk_alloc ?_ _)); exact BK101.out) hb) (below_step (by repeat (first | (with_reducible first | exact HB.out | apply below_alloc | apply pw_below_drewN | apply below_drew1 | refine below_set ?_ GE101.out) | exact HB.out)) hb) ?_; clear BK101 HB; intro BK101 HB; (try clear hb); (try clear hb2); (try clear hk); (try clear hi)) | (go_at_call 90; (with_reducible refine (spec_l4Length.calls a1 false _ A5.out).mono ?_); rintro e w' ⟨rfl, ⟨nd, rfl⟩⟩) | ((with_reducible refine gate_dst (N := 13) rfl ?_); refine Kd.R_lit Kd.string _ 9 ?hg (N := 13) ?hd (xs := ([] : List ByteArray)) (inner := []) (ok := fun _ => True) (okp := fun _ => True) ?hr ?hp (fun _ hk => hk) trivial (Below.refl _ _) (Nat.le_refl _) (by simp) ?_; (case hd => rfl); (case hg => rfl); (case hr => first | (go_simp; done) | (go_simp; rfl)); (case hp => exact (Reps.none _ _)); intro v108 w16 ho17 hb hg_ hnew_; clear hg_ hnew_; (first | rw [← Ny107.out] at ho17 | (simp only [Int.reduceToNat] at ho17; rw [← Ny107.out] at ho17)); refine rn3 (Kd.R_lower ho17 (below_size (by repeat (first | (with_reducible first | exact HB.out | apply below_alloc | apply pw_below_drewN | apply below_drew1 | refine below_set ?_ GE101.out) | exact HB.out)))) (blk_below (g := gb101) (o := .cells #[.string a0_0, .slice A0_1 l0_1.length c0_1] 25 (0, 0)) (by (with_reducible repeat (first | refine blk_drewN ?_ _ | refine blk_drew ?_ | refine blk_alloc ?_ _)); exact BK101.out) hb) (below_step (by repeat (first | (with_reducible first | exact HB.out | apply below_alloc | apply pw_below_drewN | apply below_drew1 | refine below_set ?_ GE101.out) | exact HB.out)) hb) ?_; clear BK101 HB; intro HO109 BK101 HB; clear hb ho17))
 go_ret
 exact ⟨_, by first | rfl | (simp [errW_none, errW_some] <;> rfl) | (simp [*, errW_none, errW_some] <;> rfl), by (with_reducible repeat (first | apply Kd.R_alloc | apply Kd.R_drewN | apply Kd.R_drew)); exact HO109.out, by repeat (first | (with_reducible first | exact HB.out | apply below_alloc | apply pw_below_drewN | apply below_drew1 | refine below_set ?_ GE101.out) | exact HB.out)⟩
end Go.Proofs.YtiibnkibckklgaaDoor.P
