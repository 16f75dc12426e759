/- Several texts of this claim in one: F43, HSSame, HSLv, F33, HSOut, HSTri. -/
import Derived.Test.YtfnophaiamkmpaaPrint0
import Derived.Test.YtfnophaiamkmpaaEq0
import Derived.Test.YtfnophaiamkmpaaM1
import Derived.Test.YtfnophaiamkmpaaM29
import Derived.Test.YtfnophaiamkmpaaM31
import Derived.Test.YtfnophaiamkmpaaM21
import Derived.Test.YtfnophaiamkmpaaM20
import Derived.Test.YtfnophaiamkmpaaM18
namespace Go.Proofs.Ytfnophaiamkmpaa.Print
open Go.RowKit Go.Proofs.YtfnophaiamkmpaaW.PrintWords Go.Proofs.YtfnophaiamkmpaaW.PrintLast Go.Proofs.YtfnophaiamkmpaaW.PrintMore
attribute [local go_sem] max2_int min2_int max_two min_two max_three min_three max_four min_four   -- for this text's walks alone
set_option linter.unusedVariables false
set_option linter.unusedSimpArgs false
attribute [local go_sem high] eqA50
/-! ### mapmakerref43_Same: function 43 -/
def mapmakerref43_Same.l0 : Nat → List (S50) → List (S50) → Int → Option (Bool)
 | 0, _, _, _ => none
 | k + 1, x0, x1, x5 => if x5 < (x0.length : Int) then (if 0 ≤ x5 then (if x5 < (x1.length : Int) then (if (!(((rd_T50 x0 x5).f0) == ((rd_T50 x1 x5).f0)) || (!(((rd_T50 x0 x5).f1) == ((rd_T50 x1 x5).f1)))) = true then (some false) else (mapmakerref43_Same.l0 k x0 x1 (wrap64 (x5 + 1)))) else (none)) else (none)) else (some true)
def mapmakerref43_Same.f (k : Nat) (l0 : List (S50)) (l1 : List (S50)) : Option (Bool) := if (l0.length : Int) = (l1.length : Int) then (mapmakerref43_Same.l0 k l0 l1 0) else (some false)
set_option maxHeartbeats 8000000 in
set_option maxRecDepth 100000 in
theorem mapmakerref43_Same.calls (k : Nat) (A0 : Option Addr) (c0 : Nat) (l0 : List (S50)) (A1 : Option Addr) (c1 : Nat) (l1 : List (S50)) (r : Bool) (w : World) (hr0 : Kd.C k50 w A0 l0.length l0) (hc0 : l0.length ≤ c0) (hr1 : Kd.C k50 w A1 l1.length l1) (hc1 : l1.length ≤ c1) (h : mapmakerref43_Same.f k l0 l1 = some r) :
  Calls Try.prog 43 #[.slice A0 l0.length c0, .slice A1 l1.length c1] w fun e w' => e = .returned (.bool r) ∧ Drawn0 w w' := by
 have hu50 := Try.underlying50; have HR0 := Aside0.mk hr0; have HC0 := Aside0.mk hc0; clear hr0 hc0; have HR1 := Aside0.mk hr1; have HC1 := Aside0.mk hc1; clear hr1 hc1
 have H : (if (l0.length : Int) = (l1.length : Int) then (mapmakerref43_Same.l0 k l0 l1 0) else (some false)) = some r := h
 clear h
 by_cases c3 : (l0.length : Int) = (l1.length : Int)
 ·rw [if_pos c3] at H
  have c3b0 : ((l0.length : Int) == (l1.length : Int)) = true := beq_iff_eq.mpr c3
  have c3b1 : ((l0.length : Int) != (l1.length : Int)) = false := bne_eq_false_iff_eq.mpr c3
  have c3b2 : (l0.length == l1.length) = true := by first | simpa using c3 | (simp at c3 ⊢; omega)
  clear c3
  have H' := Aside0.mk H
  clear H
  go_enter Try.func43, Try.ntmps43
  go_wp2
  repeat (go_quiet (fail); try go_wp2)
  go_loopg [5] k (fun kq v5 w' => ∃ (x5_1 : Int), v5 = .int .i64 x5_1 ∧ Aside0 (mapmakerref43_Same.l0 kq l0 l1 x5_1 = some r) ∧ Aside0 (kq ≤ k) ∧ Drawn0 w w')
  case atStart => exact ⟨(0), byF, H', ⟨Nat.le_refl _⟩, by repeat (first | exact Drawn0.refl _ | apply Drawn0.step)⟩
  case round =>
   clear H'
   try clear c1
   try clear p2
   try clear c3
   try clear c3b0
   try clear c3b1
   try clear c3b2
   obtain ⟨x5_1, rfl, HA, HK1, ⟨m1, rfl⟩⟩ := hrel
   cases gk with
   | zero => exact absurd HA.out (by simp [mapmakerref43_Same.l0])
   | succ k1 =>
    have H := HA.out; clear HA
    simp only [mapmakerref43_Same.l0] at H
    by_cases c4 : x5_1 < (l0.length : Int)
    ·rw [if_pos c4] at H
     have c4b0 : decide (x5_1 < (l0.length : Int)) = true := decide_eq_true c4
     clear c4
     by_cases c5 : 0 ≤ x5_1
     ·rw [if_pos c5] at H
      have c5b0 : decide (0 ≤ x5_1) = true := decide_eq_true c5
      clear c5
      by_cases c6 : x5_1 < (l1.length : Int)
      ·rw [if_pos c6] at H
       have c6b0 : decide (x5_1 < (l1.length : Int)) = true := decide_eq_true c6
       clear c6
       by_cases c7 : (!(((rd_T50 l0 x5_1).f0) == ((rd_T50 l1 x5_1).f0)) || (!(((rd_T50 l0 x5_1).f1) == ((rd_T50 l1 x5_1).f1)))) = true
       ·rw [if_pos c7] at H
        have c7b0 : (!(((rd_T50 l0 x5_1).f0) == ((rd_T50 l1 x5_1).f0)) || (!(((rd_T50 l0 x5_1).f1) == ((rd_T50 l1 x5_1).f1)))) = true := c7
        clear c7
        obtain rfl := Option.some.inj H
        have p223 : 0 ≤ (x5_1 : Int) := odt
        have q223 : x5_1 < (l0.length : Int) := odt
        obtain ⟨ad223, e223, hx223_0, hx223_1⟩ := at_T50 HR0.out x5_1 p223 q223
        cases e223
        replace p223 := eq_true p223; replace q223 := eq_true q223
        have p224 : 0 ≤ (x5_1 : Int) := odt
        have q224 : x5_1 < (l1.length : Int) := odt
        obtain ⟨ad224, e224, hx224_0, hx224_1⟩ := at_T50 HR1.out x5_1 p224 q224
        cases e224
        replace p224 := eq_true p224; replace q224 := eq_true q224
        go_wp2
        repeat (go_quiet (fail); try go_wp2)
        go_ret
        exact ⟨by first | rfl | (simp; done) | (simp [*]; done), by repeat (first | exact Drawn0.refl _ | apply Drawn0.step)⟩
       ·rw [if_neg c7] at H
        have c7b0 : (!(((rd_T50 l0 x5_1).f0) == ((rd_T50 l1 x5_1).f0)) || (!(((rd_T50 l0 x5_1).f1) == ((rd_T50 l1 x5_1).f1)))) = false := by simpa using c7
        clear c7
        have H' := Aside0.mk H
        clear H
        have p223 : 0 ≤ (x5_1 : Int) := odt
        have q223 : x5_1 < (l0.length : Int) := odt
        obtain ⟨ad223, e223, hx223_0, hx223_1⟩ := at_T50 HR0.out x5_1 p223 q223
        cases e223
        replace p223 := eq_true p223; replace q223 := eq_true q223
        have p224 : 0 ≤ (x5_1 : Int) := odt
        have q224 : x5_1 < (l1.length : Int) := odt
        obtain ⟨ad224, e224, hx224_0, hx224_1⟩ := at_T50 HR1.out x5_1 p224 q224
        cases e224
        replace p224 := eq_true p224; replace q224 := eq_true q224
        go_wp2
        repeat (go_quiet (fail); try go_wp2)
        go_roundg k1
        case measure => have := HK1.out; omega
        case rel => exact ⟨(wrap64 (x5_1 + 1)), byF, H', ⟨by have := HK1.out; omega⟩, by repeat (first | exact Drawn0.refl _ | apply Drawn0.step)⟩
      ·rw [if_neg c6] at H
       exact absurd H (by simp)
     ·rw [if_neg c5] at H
      exact absurd H (by simp)
    ·rw [if_neg c4] at H
     have c4b0 : decide (x5_1 < (l0.length : Int)) = false := decide_eq_false c4
     clear c4
     obtain rfl := Option.some.inj H
     go_wp2
     repeat (go_quiet (fail); try go_wp2)
     go_ret
     exact ⟨by first | rfl | (simp; done) | (simp [*]; done), by repeat (first | exact Drawn0.refl _ | apply Drawn0.step)⟩
 ·rw [if_neg c3] at H
  have c3b0 : ((l0.length : Int) == (l1.length : Int)) = false := beq_eq_false_iff_ne.mpr c3
  have c3b1 : ((l0.length : Int) != (l1.length : Int)) = true := bne_iff_ne.mpr c3
  have c3b2 : (l0.length == l1.length) = false := by first | simpa using c3 | (simp at c3 ⊢; omega)
  obtain rfl := Option.some.inj H
  go_enter Try.func43, Try.ntmps43
  go_wp2
  repeat (go_quiet (fail); try go_wp2)
  go_ret
  exact ⟨by first | rfl | (simp; done) | (simp [*]; done), by repeat (first | exact Drawn0.refl _ | apply Drawn0.step)⟩
end Go.Proofs.Ytfnophaiamkmpaa.Print
namespace Go.Proofs.Ytfnophaiamkmpaa.Print
open Go.RowKit Go.Proofs.YtfnophaiamkmpaaW.PrintWords Go.Proofs.YtfnophaiamkmpaaW.PrintLast Go.Proofs.YtfnophaiamkmpaaW.PrintMore
set_option linter.unusedVariables false
set_option linter.unusedSimpArgs false
theorem rch_ext {a b : S50} : a = b ↔ a.f0 = b.f0 ∧ a.f1 = b.f1 := by
 constructor
 ·rintro rfl
  exact ⟨rfl, rfl⟩
 ·rintro ⟨h1, h2⟩
  cases a
  cases b
  simp at h1 h2
  rw [h1, h2]
instance rchEq : DecidableEq S50 := fun a b => decidable_of_iff (a.f0 = b.f0 ∧ a.f1 = b.f1) rch_ext.symm
/-! ### Within -/
section
variable {α : Type} (c : α → Int)
end
structure WnI (n : Nat) (arcs : List S58) (L ws : List Int) (s lim : Int) (O : List S50) (f : Int) : Prop where
 no : hasV n s = false → O = [] ∧ f = 2
 at_ : ∀ x : Nat, x < n → L.getD x 0 = s → f = 0 ∧ O = stL (fun q : S50 => q.f1) (wiA (swAll n arcs L ws false x) lim n)
theorem exFr : swAll 4 exA [0, 1, 2, 3] [1, 1, 1, 1] false 0 = [0, 1, 2, 3] := by kernel_rfl
theorem exTo : swAll 4 exA [0, 1, 2, 3] [1, 1, 1, 1] true 0 = [0, 3, 2, 1] := by kernel_rfl
theorem exX {x : Nat} {s : Int} (hx : x < 4) (h : ([0, 1, 2, 3] : List Int).getD x 0 = s) : s = (x : Int) := by
 rw [← h]
 match x, hx with
 | 0, _ => rfl
 | 1, _ => rfl
 | 2, _ => rfl
 | 3, _ => rfl
set_option maxHeartbeats 6400000 in
set_option maxRecDepth 100000 in
theorem mapmakerlaw43_lives.calls (w : World) : Calls Try.prog 34 #[] w fun e w' => e = .returned (.bool true) ∧ Below w.heap.size w w' := by
 go_enter Try.func34, Try.ntmps34
 go_wp2_with (fail)
 have hA : (w.alloc (Obj.cells #[.int .i64 0, .int .i64 1, .int .i64 1, .int .i64 2, .int .i64 2, .int .i64 3, .int .i64 3, .int .i64 0] 58)).heap[w.heap.size]? = _ := heap_alloc_new w _
 have s1 : (w.alloc (Obj.cells #[.int .i64 0, .int .i64 1, .int .i64 1, .int .i64 2, .int .i64 2, .int .i64 3, .int .i64 3, .int .i64 0] 58)).heap.size = w.heap.size + 1 := World.size_alloc ..
 have HB : Aside0 (Below w.heap.size w (w.alloc (Obj.cells #[.int .i64 0, .int .i64 1, .int .i64 1, .int .i64 2, .int .i64 2, .int .i64 3, .int .i64 3, .int .i64 0] 58))) := ⟨(Below.refl _ _).alloc (Nat.le_refl _) _⟩
 have HA := Aside0.mk (C_litA (l := exA) hA rfl (by decide))
 clear hA
 generalize w.alloc (Obj.cells #[.int .i64 0, .int .i64 1, .int .i64 1, .int .i64 2, .int .i64 2, .int .i64 3, .int .i64 3, .int .i64 0] 58) = w1 at HA HB s1 ⊢
 have s2 : (w1.alloc (Obj.cells #[.int .i64 4, .slice (some ⟨w.heap.size, 0, none⟩) 4 4] 24)).heap.size = w.heap.size + 1 + 1 := by rw [World.size_alloc, s1]
 have hb : Below w1.heap.size w1 (w1.alloc (Obj.cells #[.int .i64 4, .slice (some ⟨w.heap.size, 0, none⟩) 4 4] 24)) := (Below.refl _ _).alloc (Nat.le_refl _) _
 replace HA := Aside0.mk (Kd.C_below HA.out hb)
 replace HB := Aside0.mk (below_then HB.out HB.out.size hb)
 clear hb s1
 generalize w1.alloc (Obj.cells #[.int .i64 4, .slice (some ⟨w.heap.size, 0, none⟩) 4 4] 24) = w2 at HA HB s2 ⊢
 have s3 : (w2.alloc (Obj.cells #[.int .i64 0, .int .i64 1, .int .i64 2, .int .i64 3] 3)).heap.size = w.heap.size + 1 + 1 + 1 := by rw [World.size_alloc, s2]
 have hb : Below w2.heap.size w2 (w2.alloc (Obj.cells #[.int .i64 0, .int .i64 1, .int .i64 2, .int .i64 3] 3)) := (Below.refl _ _).alloc (Nat.le_refl _) _
 have HL := Aside0.mk (C_lit (l := [0, 1, 2, 3]) (heap_alloc_new w2 (Obj.cells #[.int .i64 0, .int .i64 1, .int .i64 2, .int .i64 3] 3)) rfl (by decide))
 rw [s2] at HL
 replace HA := Aside0.mk (Kd.C_below HA.out hb)
 replace HB := Aside0.mk (below_then HB.out HB.out.size hb)
 clear hb s2
 generalize w2.alloc (Obj.cells #[.int .i64 0, .int .i64 1, .int .i64 2, .int .i64 3] 3) = w3 at HA HB HL s3 ⊢
 have hb : Below w3.heap.size w3 (w3.alloc (Obj.cells #[.int .i64 1, .int .i64 1, .int .i64 1, .int .i64 1] 3)) := (Below.refl _ _).alloc (Nat.le_refl _) _
 have HW := Aside0.mk (C_lit (l := [1, 1, 1, 1]) (heap_alloc_new w3 (Obj.cells #[.int .i64 1, .int .i64 1, .int .i64 1, .int .i64 1] 3)) rfl (by decide))
 rw [s3] at HW
 replace HA := Aside0.mk (Kd.C_below HA.out hb)
 replace HL := Aside0.mk (Kd.C_below HL.out hb)
 replace HB := Aside0.mk (below_then HB.out HB.out.size hb)
 clear hb s3
 generalize w3.alloc (Obj.cells #[.int .i64 1, .int .i64 1, .int .i64 1, .int .i64 1] 3) = w4 at HA HB HL HW ⊢
 refine (law41_Setup.calls (N := 4) (arcs := exA) (L := [0, 1, 2, 3]) (ws := [1, 1, 1, 1]) HA.out (by decide) HL.out (by decide) HW.out (by decide) (by decide) (by decide) (by decide) (by decide)).mono ?_
 rintro e w5 ⟨hb5, (⟨hne, _⟩ | ⟨_, _, q, p, rfl, hM⟩)⟩
 ·rcases hne with hne | hne
  ·exact absurd (show newErr 4 exA [0, 1, 2, 3] = 0 by kernel_rfl) hne
  ·exact absurd exD_eq hne
 have HM := Aside0.mk (show MetH w5 q p 4 exA [0, 1, 2, 3] [1, 1, 1, 1] from hM)
 replace HB := Aside0.mk (below_then HB.out HB.out.size hb5)
 clear hb5 hM HA HL HW
 have hWL : ([1, 1, 1, 1] : List Int).length = exA.length := rfl
 have hWR : ∀ i, i < ([1, 1, 1, 1] : List Int).length → ([1, 1, 1, 1] : List Int).getD i 0 ≤ 1073741824 := by decide
 have HWR := Aside0.mk hWR
 clear hWR hWL
 go_wp2_with (fail)
 refine (sweep_From.calls exHk (by decide) HM.out rfl HWR.out 0).mono ?_
 rintro e w6 ⟨hb6, (⟨hv, _⟩ | ⟨x, fA, fc, hx, hxs, rfl, hfc, hC⟩)⟩
 ·exact absurd hv (by decide)
 obtain rfl : x = 0 := by have := exX hx hxs; omega
 rw [exFr] at hC
 have HF := Aside0.mk hC
 replace HM := Aside0.mk (HM.out.below hb6)
 replace HB := Aside0.mk (below_then HB.out HB.out.size hb6)
 clear hb6 hC hx hxs
 go_wp2_with (fail)
 refine (sweep_To.calls exHk (by decide) HM.out rfl HWR.out 0).mono ?_
 rintro e w7 ⟨hb7, (⟨hv, _⟩ | ⟨x, tA, tc, hx, hxs, rfl, htc, hC⟩)⟩
 ·exact absurd hv (by decide)
 obtain rfl : x = 0 := by have := exX hx hxs; omega
 rw [exTo] at hC
 have HT := Aside0.mk hC
 replace HF := Aside0.mk (Kd.C_below HF.out hb7)
 replace HM := Aside0.mk (HM.out.below hb7)
 replace HB := Aside0.mk (below_then HB.out HB.out.size hb7)
 clear hb7 hC hx hxs
 go_wp2_with (fail)
 refine (sweep_Within.calls exHk (by decide) HM.out rfl HWR.out 0 1).mono ?_
 rintro e w8 ⟨hb8, (⟨hv, _⟩ | ⟨x, wA, wc, hx, hxs, rfl, hcc, hC⟩)⟩
 ·exact absurd hv (by decide)
 obtain rfl : x = 0 := by have := exX hx hxs; omega
 rw [exFr] at hC hcc ⊢
 have HWC := Aside0.mk (show 2 ≤ wc from hcc)
 clear hcc
 have HW := Aside0.mk (show Kd.C k50 w8 wA 2 [⟨0, 0⟩, ⟨1, 1⟩] from hC)
 replace HF := Aside0.mk (Kd.C_below HF.out hb8)
 replace HT := Aside0.mk (Kd.C_below HT.out hb8)
 replace HM := Aside0.mk (HM.out.below hb8)
 replace HB := Aside0.mk (below_then HB.out HB.out.size hb8)
 rw [show (wiA [0, 1, 2, 3] 1 4).length = 2 from by kernel_rfl]
 clear hb8 hC hx hxs
 go_wp2_with (fail)
 refine (sweep_From.nil 0).mono ?_
 rintro e w9 ⟨rfl, hb9⟩
 replace HF := Aside0.mk (Kd.C_below HF.out hb9)
 replace HT := Aside0.mk (Kd.C_below HT.out hb9)
 replace HW := Aside0.mk (Kd.C_below HW.out hb9)
 replace HM := Aside0.mk (HM.out.below hb9)
 replace HB := Aside0.mk (below_then HB.out HB.out.size hb9)
 clear hb9
 go_wp2_with (fail)
 refine (sweep_To.calls exHk (by decide) HM.out rfl HWR.out 4).mono ?_
 rintro e wa ⟨hba, (⟨_, rfl⟩ | ⟨x, _, _, hx, hxs, _⟩)⟩
 rotate_left
 ·exact absurd (exX hx hxs) (by omega)
 replace HF := Aside0.mk (Kd.C_below HF.out hba)
 replace HT := Aside0.mk (Kd.C_below HT.out hba)
 replace HW := Aside0.mk (Kd.C_below HW.out hba)
 replace HB := Aside0.mk (below_then HB.out HB.out.size hba)
 clear hba HM
 go_wp2_with (fail)
 have hbl : Below wa.heap.size wa (wa.alloc (Obj.cells #[.int .i64 0, .int .i64 1, .int .i64 2, .int .i64 3] 3)) := (Below.refl _ _).alloc (Nat.le_refl _) _
 have H1 := Aside0.mk (C_lit (l := [0, 1, 2, 3]) (heap_alloc_new wa (Obj.cells #[.int .i64 0, .int .i64 1, .int .i64 2, .int .i64 3] 3)) rfl (by decide))
 replace HF := Aside0.mk (Kd.C_below HF.out hbl)
 replace HT := Aside0.mk (Kd.C_below HT.out hbl)
 replace HW := Aside0.mk (Kd.C_below HW.out hbl)
 replace HB := Aside0.mk (below_then HB.out HB.out.size hbl)
 clear hbl
 generalize wa.alloc (Obj.cells #[.int .i64 0, .int .i64 1, .int .i64 2, .int .i64 3] 3) = wb at H1 HF HT HW HB ⊢
 obtain ⟨k1, he1⟩ := mapmakerref05_Equal.ev [0, 1, 2, 3] [0, 1, 2, 3] (by decide)
 refine (mapmakerref05_Equal.calls k1 fA fc [0, 1, 2, 3] _ 4 [0, 1, 2, 3] true wb HF.out hfc H1.out (by decide) (he1 k1 (Nat.le_refl _))).mono ?_
 rintro e wc' ⟨rfl, hd⟩
 have hb := hd.below
 clear hd
 replace HT := Aside0.mk (Kd.C_below HT.out hb)
 replace HW := Aside0.mk (Kd.C_below HW.out hb)
 replace HB := Aside0.mk (below_then HB.out HB.out.size hb)
 clear hb H1 HF he1
 go_wp2_with (fail)
 have hbl : Below wc'.heap.size wc' (wc'.alloc (Obj.cells #[.int .i64 0, .int .i64 3, .int .i64 2, .int .i64 1] 3)) := (Below.refl _ _).alloc (Nat.le_refl _) _
 have H1 := Aside0.mk (C_lit (l := [0, 3, 2, 1]) (heap_alloc_new wc' (Obj.cells #[.int .i64 0, .int .i64 3, .int .i64 2, .int .i64 1] 3)) rfl (by decide))
 replace HT := Aside0.mk (Kd.C_below HT.out hbl)
 replace HW := Aside0.mk (Kd.C_below HW.out hbl)
 replace HB := Aside0.mk (below_then HB.out HB.out.size hbl)
 clear hbl
 generalize wc'.alloc (Obj.cells #[.int .i64 0, .int .i64 3, .int .i64 2, .int .i64 1] 3) = wd at H1 HT HW HB ⊢
 obtain ⟨k1, he1⟩ := mapmakerref05_Equal.ev [0, 3, 2, 1] [0, 3, 2, 1] (by decide)
 refine (mapmakerref05_Equal.calls k1 tA tc [0, 3, 2, 1] _ 4 [0, 3, 2, 1] true wd HT.out htc H1.out (by decide) (he1 k1 (Nat.le_refl _))).mono ?_
 rintro e we ⟨rfl, hd⟩
 have hb := hd.below
 clear hd
 replace HW := Aside0.mk (Kd.C_below HW.out hb)
 replace HB := Aside0.mk (below_then HB.out HB.out.size hb)
 clear hb H1 HT he1
 go_wp2_with (fail)
 have hbl : Below we.heap.size we (we.alloc (Obj.cells #[.int .i64 0, .int .i64 0, .int .i64 1, .int .i64 1] 50)) := (Below.refl _ _).alloc (Nat.le_refl _) _
 have H1 : Aside0 (Kd.C k50 (we.alloc (Obj.cells #[.int .i64 0, .int .i64 0, .int .i64 1, .int .i64 1] 50)) (some ⟨we.heap.size, 0, none⟩) 2 [⟨0, 0⟩, ⟨1, 1⟩]) := ⟨by
  refine sort_reads (xs := [⟨0, 0⟩, ⟨1, 1⟩]) (by decide) (fun j hj => ?_)
  have hj : j < 4 := by simpa using hj
  refine ⟨(blk_cell (heap_alloc_new we _) (0 + j)).trans ?_, fz_of_blk (heap_alloc_new we _)⟩
  rw [Go.Sort.get_flatK encR 2 _ j (by simpa using hj)]
  match j, hj with
  | 0, _ => rfl
  | 1, _ => rfl
  | 2, _ => rfl
  | 3, _ => rfl⟩
 replace HW := Aside0.mk (Kd.C_below HW.out hbl)
 replace HB := Aside0.mk (below_then HB.out HB.out.size hbl)
 clear hbl
 generalize we.alloc (Obj.cells #[.int .i64 0, .int .i64 0, .int .i64 1, .int .i64 1] 50) = wf at H1 HW HB ⊢
 refine (mapmakerref43_Same.calls 20 wA wc [⟨0, 0⟩, ⟨1, 1⟩] _ 2 [⟨0, 0⟩, ⟨1, 1⟩] true wf HW.out HWC.out H1.out (by decide) (by kernel_rfl)).mono ?_
 rintro e wg ⟨rfl, hd⟩
 have hb := hd.below
 clear hd
 replace HB := Aside0.mk (below_then HB.out HB.out.size hb)
 clear hb H1 HW
 go_wp2_with (fail)
 go_ret
 exact ⟨rfl, HB.out⟩
attribute [local go_sem] max2_int min2_int max_two min_two max_three min_three max_four min_four   -- for this text's walks alone
set_option linter.unusedVariables false
set_option linter.unusedSimpArgs false
/-! ### mapmakerlaw38_Small: function 33 -/
def mapmakerlaw38_Small.f (k : Nat) (a0_0 : Int) (l0_1 : List (S58)) (l1 : List Int) : Option (Bool) := if a0_0 ≥ 0 then (if a0_0 ≤ 10 then (if (l0_1.length : Int) ≤ 24 then (if (l1.length : Int) ≤ 24 then ((mapmakerref38_Check.f k a0_0 l0_1 l1).bind fun t147 => (some (t147 == 0))) else (some false)) else (some false)) else (some false)) else (some false)
set_option maxHeartbeats 8000000 in
set_option maxRecDepth 100000 in
theorem mapmakerlaw38_Small.calls (k : Nat) (a0_0 : Int) (A0_1 : Option Addr) (c0_1 : Nat) (l0_1 : List (S58)) (A1 : Option Addr) (c1 : Nat) (l1 : List Int) (r : Bool) (w : World) (hr0_1 : Kd.C k58 w A0_1 l0_1.length l0_1) (hc0_1 : l0_1.length ≤ c0_1) (hr1 : Kd.C (Kd.int .i64) w A1 l1.length l1) (hc1 : l1.length ≤ c1) (h : mapmakerlaw38_Small.f k a0_0 l0_1 l1 = some r) :
  Calls Try.prog 33 #[.agg #[.int .i64 a0_0, .slice A0_1 l0_1.length c0_1], .slice A1 l1.length c1] w fun e w' => e = .returned (.bool r) ∧ Below w.heap.size w w' := by
 have hu24 := Try.underlying24; have HR0_1 := Aside0.mk hr0_1; have HC0_1 := Aside0.mk hc0_1; clear hr0_1 hc0_1; have HR1 := Aside0.mk hr1; have HC1 := Aside0.mk hc1; clear hr1 hc1; have HB := Aside0.mk (Below.refl w.heap.size w)
 have H : (if a0_0 ≥ 0 then (if a0_0 ≤ 10 then (if (l0_1.length : Int) ≤ 24 then (if (l1.length : Int) ≤ 24 then ((mapmakerref38_Check.f k a0_0 l0_1 l1).bind fun t147 => (some (t147 == 0))) else (some false)) else (some false)) else (some false)) else (some false)) = some r := h
 clear h
 by_cases c3 : a0_0 ≥ 0
 ·rw [if_pos c3] at H
  have c3b0 : decide (0 ≤ a0_0) = true := decide_eq_true c3
  clear c3
  by_cases c4 : a0_0 ≤ 10
  ·rw [if_pos c4] at H
   have c4b0 : decide (a0_0 ≤ 10) = true := decide_eq_true c4
   clear c4
   by_cases c5 : (l0_1.length : Int) ≤ 24
   ·rw [if_pos c5] at H
    have c5b0 : decide ((l0_1.length : Int) ≤ 24) = true := decide_eq_true c5
    have c5b1 : decide (l0_1.length ≤ 24) = true := decide_eq_true (by omega)
    clear c5
    by_cases c6 : (l1.length : Int) ≤ 24
    ·rw [if_pos c6] at H
     have c6b0 : decide ((l1.length : Int) ≤ 24) = true := decide_eq_true c6
     have c6b1 : decide (l1.length ≤ 24) = true := decide_eq_true (by omega)
     clear c6
     replace H := Option.bind_eq_some_iff.mp H
     obtain ⟨t147, A70, H⟩ := H
     replace H : (some (t147 == 0)) = some r := H
     have A7 := Aside0.mk A70; clear A70
     obtain rfl := Option.some.inj H
     go_enter Try.func33, Try.ntmps33
     go_wp2_with (first | ((with_reducible refine gate_dst (N := 2) rfl ?_); (try (refine gate_guard (by rfl) ?_; dsimp only)); refine box_event ?hg (N := 2) ?hd (cs := #[.int .i64 a0_0, .slice A0_1 l0_1.length c0_1]) (t := 24) ?hr ?_; (case hd => rfl); (case hg => rfl); (case hr => first | (go_simp; done) | (go_simp; rfl)); intro gb146 hg w8 hbox hb; have n0_ := Aside0.mk (below_step (byB HB.out) hb); have n1_ := Aside0.mk (hbox); have n2_ := Aside0.mk ((by rw [hg]; exact (below_size (byB HB.out)) : w.heap.size ≤ gb146)); have n3_ := Aside0.mk ((by rw [hg]; exact (below_size (byB HB.out)) : w.heap.size ≤ gb146)); clear HB; have HB := n0_; have BK146 := n1_; have GW146 := n2_; have GE146 := n3_; clear n0_ n1_ n2_ n3_ hb hbox hg; have hcz9_0 : w8.cell? ⟨gb146, 0, none⟩ = some (.int .i64 a0_0) := (blk_cell BK146.out 0).trans rfl; have hcz9_1 : w8.cell? ⟨gb146, 1, none⟩ = some (.slice A0_1 l0_1.length c0_1) := (blk_cell BK146.out 1).trans rfl; have hfz9_0 := blk_frozen BK146.out 0; have hfz9_1 := blk_frozen BK146.out 1) | (go_at_call 30; (with_reducible refine (mapmakerref38_Check.calls k a0_0 _ _ l0_1 _ _ l1 t147 _ ?side1 ?side2 ?side3 ?side4 A7.out).mono ?_); (case side1 => exact byC (Kd.C_below HR0_1.out HB.out)); (case side2 => exact HC0_1.out); (case side3 => exact byC (Kd.C_below HR1.out HB.out)); (case side4 => exact HC1.out); rintro e w10 ⟨rfl, hb⟩; have n0_ := Aside0.mk (blk_below (g := gb146) (o := .cells #[.int .i64 a0_0, .slice A0_1 l0_1.length c0_1] 24 (0, 0)) (byK BK146.out) hb); have n1_ := Aside0.mk (below_step (byB1 HB.out GE146.out) hb); clear BK146 HB; have BK146 := n0_; have HB := n1_; clear n0_ n1_; (try clear hb); (try clear hb2); (try clear hk); (try clear hi)))
     go_ret
     exact ⟨byE, byB1 HB.out GE146.out⟩
    ·rw [if_neg c6] at H
     have c6b0 : decide ((l1.length : Int) ≤ 24) = false := decide_eq_false c6
     have c6b1 : decide (l1.length ≤ 24) = false := decide_eq_false (by omega)
     clear c6
     obtain rfl := Option.some.inj H
     go_enter Try.func33, Try.ntmps33
     go_wp2_with (first | ((with_reducible refine gate_dst (N := 2) rfl ?_); (try (refine gate_guard (by rfl) ?_; dsimp only)); refine box_event ?hg (N := 2) ?hd (cs := #[.int .i64 a0_0, .slice A0_1 l0_1.length c0_1]) (t := 24) ?hr ?_; (case hd => rfl); (case hg => rfl); (case hr => first | (go_simp; done) | (go_simp; rfl)); intro gb146 hg w11 hbox hb; have n0_ := Aside0.mk (below_step (byB HB.out) hb); have n1_ := Aside0.mk (hbox); have n2_ := Aside0.mk ((by rw [hg]; exact (below_size (byB HB.out)) : w.heap.size ≤ gb146)); have n3_ := Aside0.mk ((by rw [hg]; exact (below_size (byB HB.out)) : w.heap.size ≤ gb146)); clear HB; have HB := n0_; have BK146 := n1_; have GW146 := n2_; have GE146 := n3_; clear n0_ n1_ n2_ n3_ hb hbox hg; have hcz12_0 : w11.cell? ⟨gb146, 0, none⟩ = some (.int .i64 a0_0) := (blk_cell BK146.out 0).trans rfl; have hcz12_1 : w11.cell? ⟨gb146, 1, none⟩ = some (.slice A0_1 l0_1.length c0_1) := (blk_cell BK146.out 1).trans rfl; have hfz12_0 := blk_frozen BK146.out 0; have hfz12_1 := blk_frozen BK146.out 1))
     go_ret
     exact ⟨byE, byB1 HB.out GE146.out⟩
   ·rw [if_neg c5] at H
    have c5b0 : decide ((l0_1.length : Int) ≤ 24) = false := decide_eq_false c5
    have c5b1 : decide (l0_1.length ≤ 24) = false := decide_eq_false (by omega)
    clear c5
    obtain rfl := Option.some.inj H
    go_enter Try.func33, Try.ntmps33
    go_wp2_with (first | ((with_reducible refine gate_dst (N := 2) rfl ?_); (try (refine gate_guard (by rfl) ?_; dsimp only)); refine box_event ?hg (N := 2) ?hd (cs := #[.int .i64 a0_0, .slice A0_1 l0_1.length c0_1]) (t := 24) ?hr ?_; (case hd => rfl); (case hg => rfl); (case hr => first | (go_simp; done) | (go_simp; rfl)); intro gb146 hg w13 hbox hb; have n0_ := Aside0.mk (below_step (byB HB.out) hb); have n1_ := Aside0.mk (hbox); have n2_ := Aside0.mk ((by rw [hg]; exact (below_size (byB HB.out)) : w.heap.size ≤ gb146)); have n3_ := Aside0.mk ((by rw [hg]; exact (below_size (byB HB.out)) : w.heap.size ≤ gb146)); clear HB; have HB := n0_; have BK146 := n1_; have GW146 := n2_; have GE146 := n3_; clear n0_ n1_ n2_ n3_ hb hbox hg; have hcz14_0 : w13.cell? ⟨gb146, 0, none⟩ = some (.int .i64 a0_0) := (blk_cell BK146.out 0).trans rfl; have hcz14_1 : w13.cell? ⟨gb146, 1, none⟩ = some (.slice A0_1 l0_1.length c0_1) := (blk_cell BK146.out 1).trans rfl; have hfz14_0 := blk_frozen BK146.out 0; have hfz14_1 := blk_frozen BK146.out 1))
    go_ret
    exact ⟨byE, byB1 HB.out GE146.out⟩
  ·rw [if_neg c4] at H
   have c4b0 : decide (a0_0 ≤ 10) = false := decide_eq_false c4
   clear c4
   obtain rfl := Option.some.inj H
   go_enter Try.func33, Try.ntmps33
   go_wp2_with (first | ((with_reducible refine gate_dst (N := 2) rfl ?_); (try (refine gate_guard (by rfl) ?_; dsimp only)); refine box_event ?hg (N := 2) ?hd (cs := #[.int .i64 a0_0, .slice A0_1 l0_1.length c0_1]) (t := 24) ?hr ?_; (case hd => rfl); (case hg => rfl); (case hr => first | (go_simp; done) | (go_simp; rfl)); intro gb146 hg w15 hbox hb; have n0_ := Aside0.mk (below_step (byB HB.out) hb); have n1_ := Aside0.mk (hbox); have n2_ := Aside0.mk ((by rw [hg]; exact (below_size (byB HB.out)) : w.heap.size ≤ gb146)); have n3_ := Aside0.mk ((by rw [hg]; exact (below_size (byB HB.out)) : w.heap.size ≤ gb146)); clear HB; have HB := n0_; have BK146 := n1_; have GW146 := n2_; have GE146 := n3_; clear n0_ n1_ n2_ n3_ hb hbox hg; have hcz16_0 : w15.cell? ⟨gb146, 0, none⟩ = some (.int .i64 a0_0) := (blk_cell BK146.out 0).trans rfl; have hcz16_1 : w15.cell? ⟨gb146, 1, none⟩ = some (.slice A0_1 l0_1.length c0_1) := (blk_cell BK146.out 1).trans rfl; have hfz16_0 := blk_frozen BK146.out 0; have hfz16_1 := blk_frozen BK146.out 1))
   go_ret
   exact ⟨byE, byB1 HB.out GE146.out⟩
 ·rw [if_neg c3] at H
  have c3b0 : decide (0 ≤ a0_0) = false := decide_eq_false c3
  clear c3
  obtain rfl := Option.some.inj H
  go_enter Try.func33, Try.ntmps33
  go_wp2_with (first | ((with_reducible refine gate_dst (N := 2) rfl ?_); (try (refine gate_guard (by rfl) ?_; dsimp only)); refine box_event ?hg (N := 2) ?hd (cs := #[.int .i64 a0_0, .slice A0_1 l0_1.length c0_1]) (t := 24) ?hr ?_; (case hd => rfl); (case hg => rfl); (case hr => first | (go_simp; done) | (go_simp; rfl)); intro gb146 hg w17 hbox hb; have n0_ := Aside0.mk (below_step (byB HB.out) hb); have n1_ := Aside0.mk (hbox); have n2_ := Aside0.mk ((by rw [hg]; exact (below_size (byB HB.out)) : w.heap.size ≤ gb146)); have n3_ := Aside0.mk ((by rw [hg]; exact (below_size (byB HB.out)) : w.heap.size ≤ gb146)); clear HB; have HB := n0_; have BK146 := n1_; have GW146 := n2_; have GE146 := n3_; clear n0_ n1_ n2_ n3_ hb hbox hg; have hcz18_0 : w17.cell? ⟨gb146, 0, none⟩ = some (.int .i64 a0_0) := (blk_cell BK146.out 0).trans rfl; have hcz18_1 : w17.cell? ⟨gb146, 1, none⟩ = some (.slice A0_1 l0_1.length c0_1) := (blk_cell BK146.out 1).trans rfl; have hfz18_0 := blk_frozen BK146.out 0; have hfz18_1 := blk_frozen BK146.out 1))
  go_ret
  exact ⟨byE, byB1 HB.out GE146.out⟩
end Go.Proofs.Ytfnophaiamkmpaa.Print
namespace Go.Proofs.Ytfnophaiamkmpaa.Print
open Go.RowKit Go.Proofs.YtfnophaiamkmpaaW.PrintWords Go.Proofs.YtfnophaiamkmpaaW.PrintLast Go.Proofs.YtfnophaiamkmpaaW.PrintMore
set_option linter.unusedVariables false
set_option linter.unusedSimpArgs false
theorem C_none {α : Type} (d : Kd α) (w : World) : Kd.C d w none 0 [] := by
 obtain ⟨A, c, h1, _, h3⟩ := Kd.R_reads (Kd.R_nil d 0 w 0 (fun _ => True))
 injection h1 with h1 _ _
 subst h1
 exact h3
theorem Hk.sw_len {n : Nat} {arcs : List S58} {L ws : List Int} (ho : NetOk n arcs L ws) (b : Bool) {x : Nat} (hx : x < n) : (swAll n arcs L ws b x).length = n := by
 have hp := ho.pc 0 0
 have h1 := ord_vx ho.hk.ord hx
 have e1 : L.getD x 0 = ((L.getD x 0).toNat : Int) := by omega
 cases b with
 | false => exact (ho.hk.sw_from hp.wl hp.wr hp.hn hx e1).len
 | true => exact (ho.hk.sw_to (arcs' := arcs.map flip) hp.wl hp.wr hp.hn hx e1 (by rw [List.length_map]) (fun i hi => by rw [flip_at hi]; exact ⟨rfl, rfl⟩)).len
theorem SwOut.at_ {n : Nat} {arcs : List S58} {L ws : List Int} {s : Int} {b : Bool} {w w' : World} {e : Ending} {D : List Int} {f : Int} (ho : NetOk n arcs L ws) (h : SwOut n arcs L ws s b w e w') (hi : RfI n arcs L ws s b D f) : Below w.heap.size w w' ∧ ∃ A c, e = .returned (.tuple #[.slice A D.length c, .int .i64 f]) ∧ D.length ≤ c ∧ Kd.C (Kd.int .i64) w' A D.length D := by
 obtain ⟨hb, (⟨h1, rfl⟩ | ⟨x, A, c, hx, hxs, rfl, hc, hC⟩)⟩ := h
 ·obtain ⟨rfl, rfl⟩ := hi.no h1
  exact ⟨hb, none, 0, rfl, Nat.le_refl _, C_none _ _⟩
 ·obtain ⟨rfl, rfl⟩ := hi.at_ x hx hxs
  have hl := Hk.sw_len ho b hx
  rw [hl]
  exact ⟨hb, A, c, rfl, hc, hC⟩
theorem WnOut.at_ {n : Nat} {arcs : List S58} {L ws : List Int} {s lim : Int} {w w' : World} {e : Ending} {D : List S50} {f : Int} (h : WnOut n arcs L ws s lim w e w') (hi : WnI n arcs L ws s lim D f) : Below w.heap.size w w' ∧ ∃ A c, e = .returned (.tuple #[.slice A D.length c, .int .i64 f]) ∧ D.length ≤ c ∧ Kd.C k50 w' A D.length D := by
 obtain ⟨hb, (⟨h1, rfl⟩ | ⟨x, A, c, hx, hxs, rfl, hc, hC⟩)⟩ := h
 ·obtain ⟨rfl, rfl⟩ := hi.no h1
  exact ⟨hb, none, 0, rfl, Nat.le_refl _, C_none _ _⟩
 ·obtain ⟨rfl, rfl⟩ := hi.at_ x hx hxs
  rw [stL_len]
  exact ⟨hb, A, c, rfl, hc, hC⟩
theorem RfI.len {n : Nat} {arcs : List S58} {L ws : List Int} {s : Int} {b : Bool} {D : List Int} {f : Int} (ho : NetOk n arcs L ws) (hi : RfI n arcs L ws s b D f) : D.length ≤ 12 := by
 cases hs : hasV n s with
 | false => rw [(hi.no hs).1]; simp
 | true =>
  obtain ⟨a, ha, rfl⟩ := hasV_iff.1 hs
  obtain ⟨x, hx, _, hx2⟩ := at_rank ho.hk.ord ha
  rw [(hi.at_ x hx hx2).2, Hk.sw_len ho b hx]
  exact ho.hn
theorem WnI.len {n : Nat} {arcs : List S58} {L ws : List Int} {s lim : Int} {D : List S50} {f : Int} (ho : NetOk n arcs L ws) (hi : WnI n arcs L ws s lim D f) : D.length ≤ 12 := by
 cases hs : hasV n s with
 | false => rw [(hi.no hs).1]; simp
 | true =>
  obtain ⟨a, ha, rfl⟩ := hasV_iff.1 hs
  obtain ⟨x, hx, _, hx2⟩ := at_rank ho.hk.ord ha
  rw [(hi.at_ x hx hx2).2, stL_len]
  have := wiA_len (swAll n arcs L ws false x) lim n
  have := ho.hn
  omega
theorem small43 (N : Int) (arcs : List S58) (ws : List Int) : ∃ k fb, mapmakerlaw38_Small.f k N arcs ws = some fb ∧ (fb = true → 0 ≤ N ∧ N ≤ 10 ∧ arcs.length ≤ 24 ∧ ws.length ≤ 24 ∧ dchk N arcs ws = 0) := by
 unfold mapmakerlaw38_Small.f
 by_cases h1 : N ≥ 0
 rotate_left
 ·exact ⟨0, _, by rw [if_neg h1], fun h => by cases h⟩
 by_cases h2 : N ≤ 10
 rotate_left
 ·exact ⟨0, _, by rw [if_pos h1, if_neg h2], fun h => by cases h⟩
 by_cases h3 : (arcs.length : Int) ≤ 24
 rotate_left
 ·exact ⟨0, _, by rw [if_pos h1, if_pos h2, if_neg h3], fun h => by cases h⟩
 by_cases h4 : (ws.length : Int) ≤ 24
 rotate_left
 ·exact ⟨0, _, by rw [if_pos h1, if_pos h2, if_pos h3, if_neg h4], fun h => by cases h⟩
 obtain ⟨k1, e1⟩ := refchk_ev N arcs ws (by omega) (by omega)
 have q1 := e1 k1 (Nat.le_refl _)
 dsimp only at q1
 refine ⟨k1, _, by rw [if_pos h1, if_pos h2, if_pos h3, if_pos h4, q1, Option.bind_some], fun h => ⟨h1, h2, by omega, by omega, by simpa using h⟩⟩
theorem netOk_of {N : Int} {arcs : List S58} {L ws : List Int} (hN : N ≤ 10) (hal : arcs.length ≤ 24) (h0 : newErr N arcs L = 0) (hd : dchk N arcs ws = 0) : ∃ n : Nat, N = (n : Int) ∧ NetOk n arcs L ws := by
 obtain ⟨n, rfl, hn, hk⟩ := hk_of (by omega) h0
 exact ⟨n, rfl, hk, hd, by omega, by omega⟩
section
variable {n : Nat} {arcs : List S58} {ws : List Int} {s : Nat} {d : List Int}
theorem Dist.zero (hd : Dist n arcs ws s d) (hs : s < n) : d.getD s 0 = 0 := by
 have h1 := hd.low s 0 hs (Wk.nil _)
 have h2 := (hd.rng s hs).1
 omega
theorem Dist.tri (hd : Dist n arcs ws s d) {i u v : Nat} (hi : i < arcs.length) (hw : 0 ≤ ws.getD i 0) (h0 : (arcs.getD i z58).f0 = (u : Int)) (h1 : (arcs.getD i z58).f1 = (v : Int)) (hu : u < n) (hv : v < n) (hf : d.getD u 0 < mInf) : d.getD v 0 ≤ d.getD u 0 + ws.getD i 0 :=
 hd.low v _ hv (Wk.snoc i (hd.att u hu hf) hi h0 h1 hw)
theorem Wk.inv {u v c : Int} (h : Wk arcs ws u v c) : (u = v ∧ c = 0) ∨ ∃ (i : Nat) (x c' : Int), Wk arcs ws u x c' ∧ i < arcs.length ∧ (arcs.getD i z58).f0 = x ∧ (arcs.getD i z58).f1 = v ∧ 0 ≤ ws.getD i 0 ∧ c = c' + ws.getD i 0 := by
 cases h with
 | nil => exact .inl ⟨rfl, rfl⟩
 | snoc i h hi h0 h1 hw => exact .inr ⟨i, _, _, h, hi, h0, h1, hw, rfl⟩
variable (hends : ∀ i, i < arcs.length → (0 ≤ (arcs.getD i z58).f0 ∧ (arcs.getD i z58).f0 < (n : Int)) ∧ (0 ≤ (arcs.getD i z58).f1 ∧ (arcs.getD i z58).f1 < (n : Int)))
include hends
theorem Dist.last (hd : Dist n arcs ws s d) {v : Nat} (hv : v < n) (hf : d.getD v 0 < mInf) : v = s ∨ ∃ i u : Nat, i < arcs.length ∧ u < n ∧ 0 ≤ ws.getD i 0 ∧ (arcs.getD i z58).f0 = (u : Int) ∧ (arcs.getD i z58).f1 = (v : Int) ∧ d.getD u 0 < mInf ∧ d.getD v 0 = d.getD u 0 + ws.getD i 0 := by
 rcases (hd.att v hv hf).inv with ⟨h1, _⟩ | ⟨i, x, c, h, hi, h0, h1, hw, hc⟩
 ·exact .inl (by omega)
 ·obtain ⟨⟨a0, a1⟩, _⟩ := hends i hi
  obtain ⟨u, rfl⟩ : ∃ u : Nat, x = (u : Int) := ⟨x.toNat, by omega⟩
  have hu : u < n := by omega
  have h2 := hd.low u c hu h
  have h3 : d.getD u 0 < mInf := by omega
  have h4 := hd.tri hi hw h0 h1 hu hv h3
  exact .inr ⟨i, u, hi, hu, hw, h0, h1, h3, by omega⟩
end
def openA (arcs : List S58) (ws d : List Int) (i : Nat) : Prop := 0 ≤ ws.getD i 0 ∧ d.getD (arcs.getD i z58).f0.toNat 0 < mInf
instance (arcs : List S58) (ws d : List Int) (i : Nat) : Decidable (openA arcs ws d i) := by unfold openA; infer_instance
def atdB (arcs : List S58) (ws d : List Int) (s k v : Nat) : Bool := decide (v = s) || (List.range k).any (fun i => decide (openA arcs ws d i ∧ (arcs.getD i z58).f1 = (v : Int) ∧ d.getD v 0 = d.getD (arcs.getD i z58).f0.toNat 0 + ws.getD i 0))
def atdL (n : Nat) (arcs : List S58) (ws d : List Int) (s k : Nat) : List Bool := (List.range n).map (atdB arcs ws d s k)
section
variable {n : Nat} {arcs : List S58} {ws : List Int} {s : Nat} {d : List Int}
theorem atdB_succ (k v : Nat) : atdB arcs ws d s (k + 1) v = (atdB arcs ws d s k v || decide (openA arcs ws d k ∧ (arcs.getD k z58).f1 = (v : Int) ∧ d.getD v 0 = d.getD (arcs.getD k z58).f0.toNat 0 + ws.getD k 0)) := by
 unfold atdB
 rw [List.range_succ, List.any_append, Bool.or_assoc]
 simp
theorem atdL_zero : atdL n arcs ws d s 0 = (List.replicate n false).set s true := by
 unfold atdL
 apply List.ext_getElem
 ·simp
 ·intro i h1 h2
  simp only [List.getElem_map, List.getElem_range, List.getElem_set, List.getElem_replicate]
  unfold atdB
  by_cases h : s = i
  ·simp [h]
  ·have h' : ¬ i = s := fun e => h e.symm
   simp [h, h']
theorem atdL_shut {k : Nat} (h : ¬ openA arcs ws d k) : atdL n arcs ws d s (k + 1) = atdL n arcs ws d s k := by
 unfold atdL
 congr 1
 funext v
 rw [atdB_succ, decide_eq_false (fun e => h e.1), Bool.or_false]
theorem atdL_at {k v : Nat} (hv : v < n) : (atdL n arcs ws d s k)[v]? = some (atdB arcs ws d s k v) := by
 unfold atdL
 simp [hv]
theorem atdL_open {k t : Nat} (h : openA arcs ws d k) (ht : (arcs.getD k z58).f1 = (t : Int)) : atdL n arcs ws d s (k + 1) = (atdL n arcs ws d s k).set t (atdB arcs ws d s k t || decide (d.getD t 0 = d.getD (arcs.getD k z58).f0.toNat 0 + ws.getD k 0)) := by
 unfold atdL
 apply List.ext_getElem
 ·simp
 ·intro i h1 h2
  simp only [List.getElem_map, List.getElem_range, List.getElem_set]
  rw [atdB_succ]
  by_cases e : t = i
  ·subst e
   rw [if_pos rfl]
   congr 1
   rw [decide_eq_decide]
   exact ⟨fun x => x.2.2, fun x => ⟨h, ht, x⟩⟩
  ·rw [if_neg e, decide_eq_false (fun x => e (by have := x.2.1; omega)), Bool.or_false]
theorem atdB_all (hends : ∀ i, i < arcs.length → (0 ≤ (arcs.getD i z58).f0 ∧ (arcs.getD i z58).f0 < (n : Int)) ∧ (0 ≤ (arcs.getD i z58).f1 ∧ (arcs.getD i z58).f1 < (n : Int))) (hd : Dist n arcs ws s d) {v : Nat} (hv : v < n) (hne : d.getD v 0 ≠ mInf) : atdB arcs ws d s arcs.length v = true := by
 have hf : d.getD v 0 < mInf := by
  have := (hd.rng v hv).2
  omega
 unfold atdB
 rw [Bool.or_eq_true]
 rcases hd.last hends hv hf with h | ⟨i, u, hi, hu, hw, h0, h1, h2, h3⟩
 ·exact .inl (decide_eq_true h)
 ·right
  rw [List.any_eq_true]
  refine ⟨i, List.mem_range.2 hi, decide_eq_true ⟨⟨hw, ?_⟩, h1, ?_⟩⟩
  ·rw [h0, Int.toNat_natCast]; exact h2
  ·rw [h0, Int.toNat_natCast]; exact h3
end
/-! The reversed graph. -/
theorem sw_back {n : Nat} {arcs : List S58} {L2 ws D : List Int} {s t y : Nat} (ho : NetOk n arcs L2 ws) (hs : s < n) (ht : t < n) (hD : Dist n arcs ws s D) (hy : y < n) (hyt : L2.getD y 0 = (t : Int)) : (swAll n arcs L2 ws true y).getD s 0 = D.getD t 0 := by
 have hp := ho.pc 0 0
 have hf : ∀ i, i < arcs.length → ((arcs.map flip).getD i z58).f0 = (arcs.getD i z58).f1 ∧ ((arcs.map flip).getD i z58).f1 = (arcs.getD i z58).f0 := fun i hi => by
  rw [flip_at hi]
  exact ⟨rfl, rfl⟩
 have hB := ho.hk.sw_to hp.wl hp.wr hp.hn hy hyt (by rw [List.length_map]) hf
 have h1 : (swAll n arcs L2 ws true y).getD s 0 ≤ D.getD t 0 := by
  by_cases h : D.getD t 0 < mInf
  ·exact hB.low s _ hs ((hD.att t ht h).rev (by rw [List.length_map]) hf)
  ·have := (hB.rng s hs).2
   omega
 have h2 : D.getD t 0 ≤ (swAll n arcs L2 ws true y).getD s 0 := by
  by_cases h : (swAll n arcs L2 ws true y).getD s 0 < mInf
  ·exact hD.low t _ ht ((hB.att s hs h).rev (by rw [List.length_map]) (fun i hi => by
    rw [List.length_map] at hi
    exact ⟨(hf i hi).2.symm, (hf i hi).1.symm⟩))
  ·have := (hD.rng t ht).2
   omega
 omega
theorem dist_is {n : Nat} {arcs : List S58} {L ws D : List Int} {sN tN : Nat} (ho : NetOk n arcs L ws) (hs : sN < n) (ht : tN < n) (hD : Dist n arcs ws sN D) {e : Ending} (h : ((hasV n (sN : Int) = false ∨ hasV n (tN : Int) = false) ∧ e = .returned (.tuple #[.int .i64 0, .int .i64 2])) ∨
   (∃ x y : Nat, x < n ∧ y < n ∧ L.getD x 0 = (sN : Int) ∧ L.getD y 0 = (tN : Int) ∧ (((meetF n arcs L ws x y).2.2 = true ∧ e = .returned (.tuple #[.int .i64 (meetF n arcs L ws x y).2.1, .int .i64 0])) ∨ ((meetF n arcs L ws x y).2.2 = false ∧ e = .returned (.tuple #[.int .i64 mInf, .int .i64 0]))))) : e = .returned (.tuple #[.int .i64 (D.getD tN 0), .int .i64 0]) := by
 have hp := ho.pc 0 0
 rcases h with ⟨h1, _⟩ | ⟨x, y, hx, hy, hxs, hyt, h⟩
 ·rcases h1 with h1 | h1
  ·rw [hasV_iff.2 ⟨sN, hs, rfl⟩] at h1; cases h1
  ·rw [hasV_iff.2 ⟨tN, ht, rfl⟩] at h1; cases h1
 ·have h1 := ho.hk.meet_dist hp.wl hp.wr hp.hn hx hy hxs hyt ht hD
  rcases h with ⟨hf, rfl⟩ | ⟨hf, rfl⟩
  ·rw [show (meetF n arcs L ws x y).2.1 = D.getD tN 0 from h1.1 hf]
  ·rw [h1.2 hf]
theorem SwOut.from_ {n : Nat} {arcs : List S58} {L ws D : List Int} {sN : Nat} {w w' : World} {e : Ending} (ho : NetOk n arcs L ws) (hs : sN < n) (hD : Dist n arcs ws sN D) (h : SwOut n arcs L ws (sN : Int) false w e w') : Below w.heap.size w w' ∧ ∃ A c, e = .returned (.tuple #[.slice A n c, .int .i64 0]) ∧ n ≤ c ∧ Kd.C (Kd.int .i64) w' A n D := by
 obtain ⟨hb, (⟨h1, rfl⟩ | ⟨x, A, c, hx, hxs, rfl, hc, hC⟩)⟩ := h
 ·rw [hasV_iff.2 ⟨sN, hs, rfl⟩] at h1; cases h1
 ·have hp := ho.pc 0 0
  rw [(ho.hk.sw_from hp.wl hp.wr hp.hn hx hxs).uniq hD] at hC
  exact ⟨hb, A, c, rfl, hc, hC⟩
theorem SwOut.to_ {n : Nat} {arcs : List S58} {L ws D : List Int} {sN tN : Nat} {w w' : World} {e : Ending} (ho : NetOk n arcs L ws) (hs : sN < n) (ht : tN < n) (hD : Dist n arcs ws sN D) (h : SwOut n arcs L ws (tN : Int) true w e w') : Below w.heap.size w w' ∧ ∃ b o c, e = .returned (.tuple #[.slice (some ⟨b, o, none⟩) n c, .int .i64 0]) ∧ w'.cell? ⟨b, o + sN, none⟩ = some (.int .i64 (D.getD tN 0)) := by
 obtain ⟨hb, (⟨h1, rfl⟩ | ⟨y, A, c, hy, hyt, rfl, hc, hC⟩)⟩ := h
 ·rw [hasV_iff.2 ⟨tN, ht, rfl⟩] at h1; cases h1
 ·have hl : (swAll n arcs L ws true y).length = n := hC.1
  rcases cells_of_C hC with ⟨h0, _⟩ | ⟨_, b, o, rfl, hce⟩
  ·omega
  ·have := hce sN (by omega)
   rw [sw_back ho hs ht hD hy hyt] at this
   exact ⟨hb, b, o, c, rfl, this⟩
theorem dist_of {n : Nat} {arcs : List S58} {L ws : List Int} {sN : Nat} (ho : NetOk n arcs L ws) (hs : sN < n) : ∃ D, Dist n arcs ws sN D := by
 have hp := ho.pc 0 0
 obtain ⟨x, hx, _, hx2⟩ := at_rank ho.hk.ord hs
 exact ⟨_, ho.hk.sw_from hp.wl hp.wr hp.hn hx hx2⟩
end Go.Proofs.Ytfnophaiamkmpaa.Print
