/- Several texts of this claim in one: F79, F80, F81. -/
import Derived.Test.YtcfeehaoeaoegaaPrint0
import Derived.Test.YtcfeehaoeaoegaaM0
namespace Go.Proofs.Ytcfeehaoeaoegaa.Print
open Go.RowKit Go.Proofs.YtcfeehaoeaoegaaW.PrintWords Go.Proofs.YtcfeehaoeaoegaaW.PrintLast Go.Proofs.YtcfeehaoeaoegaaW.PrintMore
attribute [local go_sem] max2_int min2_int max_two min_two max_three min_three max_four min_four   -- for this text's walks alone
set_option linter.unusedVariables false
set_option linter.unusedSimpArgs false

/-! ### mapmakerref41_find: function 79 -/
def mapmakerref41_find.l0 : Nat → List (S38) → Int → Int → Int → Option (Int)
 | 0, _, _, _, _ => none
 | k + 1, x0, x1, x2, x7 => if x7 < (x0.length : Int) then (if 0 ≤ x7 then (if ((rd_T38 x0 x7).f0) = x1 then (if ((rd_T38 x0 x7).f1) = x2 then (some x7) else (if ((rd_T38 x0 x7).f0) = x2 then (if ((rd_T38 x0 x7).f1) = x1 then (some x7) else (mapmakerref41_find.l0 k x0 x1 x2 (wrap64 (x7 + 1)))) else (mapmakerref41_find.l0 k x0 x1 x2 (wrap64 (x7 + 1))))) else (if ((rd_T38 x0 x7).f0) = x2 then (if ((rd_T38 x0 x7).f1) = x1 then (some x7) else (mapmakerref41_find.l0 k x0 x1 x2 (wrap64 (x7 + 1)))) else (mapmakerref41_find.l0 k x0 x1 x2 (wrap64 (x7 + 1))))) else (none)) else (some (-1))
def mapmakerref41_find.f (k : Nat) (l0 : List (S38)) (a1 : Int) (a2 : Int) : Option (Int) := mapmakerref41_find.l0 k l0 a1 a2 0
set_option maxHeartbeats 8000000 in
set_option maxRecDepth 100000 in
theorem mapmakerref41_find.calls (k : Nat) (A0 : Option Addr) (c0 : Nat) (l0 : List (S38)) (a1 : Int) (a2 : Int) (r : Int) (w : World) (hr0 : Kd.C k38 w A0 l0.length l0) (hc0 : l0.length ≤ c0) (h : mapmakerref41_find.f k l0 a1 a2 = some r) :
  Calls Try.prog 79 #[.slice A0 l0.length c0, .int .i64 a1, .int .i64 a2] w fun e w' => e = .returned (.int .i64 r) ∧ Drawn0 w w' := by
 have HR0 := Aside0.mk hr0; have HC0 := Aside0.mk hc0; clear hr0 hc0
 have H : (mapmakerref41_find.l0 k l0 a1 a2 0) = some r := h
 clear h
 have H' := Aside0.mk H
 clear H
 go_enter Try.func79, Try.ntmps79
 go_wp2
 go_loopg [7] k (fun kq v7 w' => ∃ (x7_1 : Int), v7 = .int .i64 x7_1 ∧ Aside0 (mapmakerref41_find.l0 kq l0 a1 a2 x7_1 = some r) ∧ Aside0 (kq ≤ k) ∧ Drawn0 w w')
 case atStart => exact ⟨(0), (by first | rfl | (simp; done) | (simp [*]; done)), H', ⟨Nat.le_refl _⟩, by repeat (first | exact Drawn0.refl _ | apply Drawn0.step)⟩
 case round =>
  clear H'
  try clear p2
  obtain ⟨x7_1, rfl, HA, HK1, ⟨m1, rfl⟩⟩ := hrel
  cases gk with
  | zero => exact absurd HA.out (by simp [mapmakerref41_find.l0])
  | succ k1 =>
   have H := HA.out; clear HA
   simp only [mapmakerref41_find.l0] at H
   by_cases c4 : x7_1 < (l0.length : Int)
   ·rw [if_pos c4] at H
    have c4b0 : decide (x7_1 < (l0.length : Int)) = true := decide_eq_true c4
    clear c4
    by_cases c5 : 0 ≤ x7_1
    ·rw [if_pos c5] at H
     have c5b0 : decide (0 ≤ x7_1) = true := decide_eq_true c5
     clear c5
     by_cases c6 : ((rd_T38 l0 x7_1).f0) = a1
     ·rw [if_pos c6] at H
      have c6b0 : (((rd_T38 l0 x7_1).f0) == a1) = true := beq_iff_eq.mpr c6
      have c6b1 : (((rd_T38 l0 x7_1).f0) != a1) = false := bne_eq_false_iff_eq.mpr c6
      clear c6
      by_cases c7 : ((rd_T38 l0 x7_1).f1) = a2
      ·rw [if_pos c7] at H
       have c7b0 : (((rd_T38 l0 x7_1).f1) == a2) = true := beq_iff_eq.mpr c7
       have c7b1 : (((rd_T38 l0 x7_1).f1) != a2) = false := bne_eq_false_iff_eq.mpr c7
       clear c7
       obtain rfl := Option.some.inj H
       have p229 : 0 ≤ (x7_1 : Int) := of_decide_eq_true (by first | (with_reducible assumption) | assumption)
       have q229 : x7_1 < (l0.length : Int) := of_decide_eq_true (by first | (with_reducible assumption) | assumption)
       obtain ⟨ad229, e229, hx229_0, hx229_1⟩ := at_T38 HR0.out x7_1 p229 q229
       cases e229
       replace p229 := eq_true p229; replace q229 := eq_true q229
       have p230 : 0 ≤ (x7_1 : Int) := of_decide_eq_true (by first | (with_reducible assumption) | assumption)
       have q230 : x7_1 < (l0.length : Int) := of_decide_eq_true (by first | (with_reducible assumption) | assumption)
       obtain ⟨ad230, e230, hx230_0, hx230_1⟩ := at_T38 HR0.out x7_1 p230 q230
       obtain rfl : ad229 = ad230 := (by injection e230)
       replace p230 := eq_true p230; replace q230 := eq_true q230
       go_wp2
       go_ret
       exact ⟨by first | rfl | (simp; done) | (simp [*]; done), by repeat (first | exact Drawn0.refl _ | apply Drawn0.step)⟩
      ·rw [if_neg c7] at H
       have c7b0 : (((rd_T38 l0 x7_1).f1) == a2) = false := beq_eq_false_iff_ne.mpr c7
       have c7b1 : (((rd_T38 l0 x7_1).f1) != a2) = true := bne_iff_ne.mpr c7
       by_cases c8 : ((rd_T38 l0 x7_1).f0) = a2
       ·rw [if_pos c8] at H
        have c8b0 : (((rd_T38 l0 x7_1).f0) == a2) = true := beq_iff_eq.mpr c8
        have c8b1 : (((rd_T38 l0 x7_1).f0) != a2) = false := bne_eq_false_iff_eq.mpr c8
        clear c8
        by_cases c9 : ((rd_T38 l0 x7_1).f1) = a1
        ·rw [if_pos c9] at H
         have c9b0 : (((rd_T38 l0 x7_1).f1) == a1) = true := beq_iff_eq.mpr c9
         have c9b1 : (((rd_T38 l0 x7_1).f1) != a1) = false := bne_eq_false_iff_eq.mpr c9
         clear c9
         obtain rfl := Option.some.inj H
         have p229 : 0 ≤ (x7_1 : Int) := of_decide_eq_true (by first | (with_reducible assumption) | assumption)
         have q229 : x7_1 < (l0.length : Int) := of_decide_eq_true (by first | (with_reducible assumption) | assumption)
         obtain ⟨ad229, e229, hx229_0, hx229_1⟩ := at_T38 HR0.out x7_1 p229 q229
         cases e229
         replace p229 := eq_true p229; replace q229 := eq_true q229
         have p230 : 0 ≤ (x7_1 : Int) := of_decide_eq_true (by first | (with_reducible assumption) | assumption)
         have q230 : x7_1 < (l0.length : Int) := of_decide_eq_true (by first | (with_reducible assumption) | assumption)
         obtain ⟨ad230, e230, hx230_0, hx230_1⟩ := at_T38 HR0.out x7_1 p230 q230
         obtain rfl : ad229 = ad230 := (by injection e230)
         replace p230 := eq_true p230; replace q230 := eq_true q230
         have p231 : 0 ≤ (x7_1 : Int) := of_decide_eq_true (by first | (with_reducible assumption) | assumption)
         have q231 : x7_1 < (l0.length : Int) := of_decide_eq_true (by first | (with_reducible assumption) | assumption)
         obtain ⟨ad231, e231, hx231_0, hx231_1⟩ := at_T38 HR0.out x7_1 p231 q231
         obtain rfl : ad229 = ad231 := (by injection e231)
         replace p231 := eq_true p231; replace q231 := eq_true q231
         have p232 : 0 ≤ (x7_1 : Int) := of_decide_eq_true (by first | (with_reducible assumption) | assumption)
         have q232 : x7_1 < (l0.length : Int) := of_decide_eq_true (by first | (with_reducible assumption) | assumption)
         obtain ⟨ad232, e232, hx232_0, hx232_1⟩ := at_T38 HR0.out x7_1 p232 q232
         obtain rfl : ad229 = ad232 := (by injection e232)
         replace p232 := eq_true p232; replace q232 := eq_true q232
         go_wp2
         go_ret
         exact ⟨by first | rfl | (simp; done) | (simp [*]; done), by repeat (first | exact Drawn0.refl _ | apply Drawn0.step)⟩
        ·rw [if_neg c9] at H
         have c9b0 : (((rd_T38 l0 x7_1).f1) == a1) = false := beq_eq_false_iff_ne.mpr c9
         have c9b1 : (((rd_T38 l0 x7_1).f1) != a1) = true := bne_iff_ne.mpr c9
         have H' := Aside0.mk H
         clear H
         have p229 : 0 ≤ (x7_1 : Int) := of_decide_eq_true (by first | (with_reducible assumption) | assumption)
         have q229 : x7_1 < (l0.length : Int) := of_decide_eq_true (by first | (with_reducible assumption) | assumption)
         obtain ⟨ad229, e229, hx229_0, hx229_1⟩ := at_T38 HR0.out x7_1 p229 q229
         cases e229
         replace p229 := eq_true p229; replace q229 := eq_true q229
         have p230 : 0 ≤ (x7_1 : Int) := of_decide_eq_true (by first | (with_reducible assumption) | assumption)
         have q230 : x7_1 < (l0.length : Int) := of_decide_eq_true (by first | (with_reducible assumption) | assumption)
         obtain ⟨ad230, e230, hx230_0, hx230_1⟩ := at_T38 HR0.out x7_1 p230 q230
         obtain rfl : ad229 = ad230 := (by injection e230)
         replace p230 := eq_true p230; replace q230 := eq_true q230
         have p231 : 0 ≤ (x7_1 : Int) := of_decide_eq_true (by first | (with_reducible assumption) | assumption)
         have q231 : x7_1 < (l0.length : Int) := of_decide_eq_true (by first | (with_reducible assumption) | assumption)
         obtain ⟨ad231, e231, hx231_0, hx231_1⟩ := at_T38 HR0.out x7_1 p231 q231
         obtain rfl : ad229 = ad231 := (by injection e231)
         replace p231 := eq_true p231; replace q231 := eq_true q231
         have p232 : 0 ≤ (x7_1 : Int) := of_decide_eq_true (by first | (with_reducible assumption) | assumption)
         have q232 : x7_1 < (l0.length : Int) := of_decide_eq_true (by first | (with_reducible assumption) | assumption)
         obtain ⟨ad232, e232, hx232_0, hx232_1⟩ := at_T38 HR0.out x7_1 p232 q232
         obtain rfl : ad229 = ad232 := (by injection e232)
         replace p232 := eq_true p232; replace q232 := eq_true q232
         go_wp2
         go_roundg k1
         case measure => have := HK1.out; omega
         case rel => exact ⟨(wrap64 (x7_1 + 1)), (by first | rfl | (simp; done) | (simp [*]; done)), H', ⟨by have := HK1.out; omega⟩, by repeat (first | exact Drawn0.refl _ | apply Drawn0.step)⟩
       ·rw [if_neg c8] at H
        have c8b0 : (((rd_T38 l0 x7_1).f0) == a2) = false := beq_eq_false_iff_ne.mpr c8
        have c8b1 : (((rd_T38 l0 x7_1).f0) != a2) = true := bne_iff_ne.mpr c8
        have H' := Aside0.mk H
        clear H
        have p229 : 0 ≤ (x7_1 : Int) := of_decide_eq_true (by first | (with_reducible assumption) | assumption)
        have q229 : x7_1 < (l0.length : Int) := of_decide_eq_true (by first | (with_reducible assumption) | assumption)
        obtain ⟨ad229, e229, hx229_0, hx229_1⟩ := at_T38 HR0.out x7_1 p229 q229
        cases e229
        replace p229 := eq_true p229; replace q229 := eq_true q229
        have p230 : 0 ≤ (x7_1 : Int) := of_decide_eq_true (by first | (with_reducible assumption) | assumption)
        have q230 : x7_1 < (l0.length : Int) := of_decide_eq_true (by first | (with_reducible assumption) | assumption)
        obtain ⟨ad230, e230, hx230_0, hx230_1⟩ := at_T38 HR0.out x7_1 p230 q230
        obtain rfl : ad229 = ad230 := (by injection e230)
        replace p230 := eq_true p230; replace q230 := eq_true q230
        have p231 : 0 ≤ (x7_1 : Int) := of_decide_eq_true (by first | (with_reducible assumption) | assumption)
        have q231 : x7_1 < (l0.length : Int) := of_decide_eq_true (by first | (with_reducible assumption) | assumption)
        obtain ⟨ad231, e231, hx231_0, hx231_1⟩ := at_T38 HR0.out x7_1 p231 q231
        obtain rfl : ad229 = ad231 := (by injection e231)
        replace p231 := eq_true p231; replace q231 := eq_true q231
        go_wp2
        go_roundg k1
        case measure => have := HK1.out; omega
        case rel => exact ⟨(wrap64 (x7_1 + 1)), (by first | rfl | (simp; done) | (simp [*]; done)), H', ⟨by have := HK1.out; omega⟩, by repeat (first | exact Drawn0.refl _ | apply Drawn0.step)⟩
     ·rw [if_neg c6] at H
      have c6b0 : (((rd_T38 l0 x7_1).f0) == a1) = false := beq_eq_false_iff_ne.mpr c6
      have c6b1 : (((rd_T38 l0 x7_1).f0) != a1) = true := bne_iff_ne.mpr c6
      by_cases c10 : ((rd_T38 l0 x7_1).f0) = a2
      ·rw [if_pos c10] at H
       have c10b0 : (((rd_T38 l0 x7_1).f0) == a2) = true := beq_iff_eq.mpr c10
       have c10b1 : (((rd_T38 l0 x7_1).f0) != a2) = false := bne_eq_false_iff_eq.mpr c10
       clear c10
       by_cases c11 : ((rd_T38 l0 x7_1).f1) = a1
       ·rw [if_pos c11] at H
        have c11b0 : (((rd_T38 l0 x7_1).f1) == a1) = true := beq_iff_eq.mpr c11
        have c11b1 : (((rd_T38 l0 x7_1).f1) != a1) = false := bne_eq_false_iff_eq.mpr c11
        clear c11
        obtain rfl := Option.some.inj H
        have p229 : 0 ≤ (x7_1 : Int) := of_decide_eq_true (by first | (with_reducible assumption) | assumption)
        have q229 : x7_1 < (l0.length : Int) := of_decide_eq_true (by first | (with_reducible assumption) | assumption)
        obtain ⟨ad229, e229, hx229_0, hx229_1⟩ := at_T38 HR0.out x7_1 p229 q229
        cases e229
        replace p229 := eq_true p229; replace q229 := eq_true q229
        have p233 : 0 ≤ (x7_1 : Int) := of_decide_eq_true (by first | (with_reducible assumption) | assumption)
        have q233 : x7_1 < (l0.length : Int) := of_decide_eq_true (by first | (with_reducible assumption) | assumption)
        obtain ⟨ad233, e233, hx233_0, hx233_1⟩ := at_T38 HR0.out x7_1 p233 q233
        obtain rfl : ad229 = ad233 := (by injection e233)
        replace p233 := eq_true p233; replace q233 := eq_true q233
        have p234 : 0 ≤ (x7_1 : Int) := of_decide_eq_true (by first | (with_reducible assumption) | assumption)
        have q234 : x7_1 < (l0.length : Int) := of_decide_eq_true (by first | (with_reducible assumption) | assumption)
        obtain ⟨ad234, e234, hx234_0, hx234_1⟩ := at_T38 HR0.out x7_1 p234 q234
        obtain rfl : ad229 = ad234 := (by injection e234)
        replace p234 := eq_true p234; replace q234 := eq_true q234
        go_wp2
        go_ret
        exact ⟨by first | rfl | (simp; done) | (simp [*]; done), by repeat (first | exact Drawn0.refl _ | apply Drawn0.step)⟩
       ·rw [if_neg c11] at H
        have c11b0 : (((rd_T38 l0 x7_1).f1) == a1) = false := beq_eq_false_iff_ne.mpr c11
        have c11b1 : (((rd_T38 l0 x7_1).f1) != a1) = true := bne_iff_ne.mpr c11
        have H' := Aside0.mk H
        clear H
        have p229 : 0 ≤ (x7_1 : Int) := of_decide_eq_true (by first | (with_reducible assumption) | assumption)
        have q229 : x7_1 < (l0.length : Int) := of_decide_eq_true (by first | (with_reducible assumption) | assumption)
        obtain ⟨ad229, e229, hx229_0, hx229_1⟩ := at_T38 HR0.out x7_1 p229 q229
        cases e229
        replace p229 := eq_true p229; replace q229 := eq_true q229
        have p233 : 0 ≤ (x7_1 : Int) := of_decide_eq_true (by first | (with_reducible assumption) | assumption)
        have q233 : x7_1 < (l0.length : Int) := of_decide_eq_true (by first | (with_reducible assumption) | assumption)
        obtain ⟨ad233, e233, hx233_0, hx233_1⟩ := at_T38 HR0.out x7_1 p233 q233
        obtain rfl : ad229 = ad233 := (by injection e233)
        replace p233 := eq_true p233; replace q233 := eq_true q233
        have p234 : 0 ≤ (x7_1 : Int) := of_decide_eq_true (by first | (with_reducible assumption) | assumption)
        have q234 : x7_1 < (l0.length : Int) := of_decide_eq_true (by first | (with_reducible assumption) | assumption)
        obtain ⟨ad234, e234, hx234_0, hx234_1⟩ := at_T38 HR0.out x7_1 p234 q234
        obtain rfl : ad229 = ad234 := (by injection e234)
        replace p234 := eq_true p234; replace q234 := eq_true q234
        go_wp2
        go_roundg k1
        case measure => have := HK1.out; omega
        case rel => exact ⟨(wrap64 (x7_1 + 1)), (by first | rfl | (simp; done) | (simp [*]; done)), H', ⟨by have := HK1.out; omega⟩, by repeat (first | exact Drawn0.refl _ | apply Drawn0.step)⟩
      ·rw [if_neg c10] at H
       have c10b0 : (((rd_T38 l0 x7_1).f0) == a2) = false := beq_eq_false_iff_ne.mpr c10
       have c10b1 : (((rd_T38 l0 x7_1).f0) != a2) = true := bne_iff_ne.mpr c10
       have H' := Aside0.mk H
       clear H
       have p229 : 0 ≤ (x7_1 : Int) := of_decide_eq_true (by first | (with_reducible assumption) | assumption)
       have q229 : x7_1 < (l0.length : Int) := of_decide_eq_true (by first | (with_reducible assumption) | assumption)
       obtain ⟨ad229, e229, hx229_0, hx229_1⟩ := at_T38 HR0.out x7_1 p229 q229
       cases e229
       replace p229 := eq_true p229; replace q229 := eq_true q229
       have p233 : 0 ≤ (x7_1 : Int) := of_decide_eq_true (by first | (with_reducible assumption) | assumption)
       have q233 : x7_1 < (l0.length : Int) := of_decide_eq_true (by first | (with_reducible assumption) | assumption)
       obtain ⟨ad233, e233, hx233_0, hx233_1⟩ := at_T38 HR0.out x7_1 p233 q233
       obtain rfl : ad229 = ad233 := (by injection e233)
       replace p233 := eq_true p233; replace q233 := eq_true q233
       go_wp2
       go_roundg k1
       case measure => have := HK1.out; omega
       case rel => exact ⟨(wrap64 (x7_1 + 1)), (by first | rfl | (simp; done) | (simp [*]; done)), H', ⟨by have := HK1.out; omega⟩, by repeat (first | exact Drawn0.refl _ | apply Drawn0.step)⟩
    ·rw [if_neg c5] at H
     exact absurd H (by simp)
   ·rw [if_neg c4] at H
    have c4b0 : decide (x7_1 < (l0.length : Int)) = false := decide_eq_false c4
    clear c4
    obtain rfl := Option.some.inj H
    go_wp2
    go_ret
    exact ⟨by first | rfl | (simp; done) | (simp [*]; done), by repeat (first | exact Drawn0.refl _ | apply Drawn0.step)⟩

end Go.Proofs.Ytcfeehaoeaoegaa.Print
namespace Go.Proofs.Ytcfeehaoeaoegaa.Print
open Go.RowKit Go.Proofs.YtcfeehaoeaoegaaW.PrintWords Go.Proofs.YtcfeehaoeaoegaaW.PrintLast Go.Proofs.YtcfeehaoeaoegaaW.PrintMore
attribute [local go_sem] max2_int min2_int max_two min_two max_three min_three max_four min_four   -- for this text's walks alone
set_option linter.unusedVariables false
set_option linter.unusedSimpArgs false

/-! ### mapmakerref41_sum: function 80 -/
def mapmakerref41_sum.f (a0 : Int) (a1 : Int) : Option (Int) := if a0 ≥ 1152921504606846976 then (some 1152921504606846976) else (if a1 ≥ 1152921504606846976 then (some 1152921504606846976) else (some (wrap64 (a0 + a1))))
set_option maxHeartbeats 8000000 in
set_option maxRecDepth 100000 in
theorem mapmakerref41_sum.calls (a0 : Int) (a1 : Int) (r : Int) (w : World) (h : mapmakerref41_sum.f a0 a1 = some r) :
  Calls Try.prog 80 #[.int .i64 a0, .int .i64 a1] w fun e w' => e = .returned (.int .i64 r) ∧ Drawn0 w w' := by
 have H : (if a0 ≥ 1152921504606846976 then (some 1152921504606846976) else (if a1 ≥ 1152921504606846976 then (some 1152921504606846976) else (some (wrap64 (a0 + a1))))) = some r := h
 clear h
 by_cases c3 : a0 ≥ 1152921504606846976
 ·rw [if_pos c3] at H
  have c3b0 : decide (1152921504606846976 ≤ a0) = true := decide_eq_true c3
  clear c3
  obtain rfl := Option.some.inj H
  go_enter Try.func80, Try.ntmps80
  go_wp2
  go_ret
  exact ⟨by first | rfl | (simp; done) | (simp [*]; done), by repeat (first | exact Drawn0.refl _ | apply Drawn0.step)⟩
 ·rw [if_neg c3] at H
  have c3b0 : decide (1152921504606846976 ≤ a0) = false := decide_eq_false c3
  clear c3
  by_cases c4 : a1 ≥ 1152921504606846976
  ·rw [if_pos c4] at H
   have c4b0 : decide (1152921504606846976 ≤ a1) = true := decide_eq_true c4
   clear c4
   obtain rfl := Option.some.inj H
   go_enter Try.func80, Try.ntmps80
   go_wp2
   go_ret
   exact ⟨by first | rfl | (simp; done) | (simp [*]; done), by repeat (first | exact Drawn0.refl _ | apply Drawn0.step)⟩
  ·rw [if_neg c4] at H
   have c4b0 : decide (1152921504606846976 ≤ a1) = false := decide_eq_false c4
   clear c4
   obtain rfl := Option.some.inj H
   go_enter Try.func80, Try.ntmps80
   go_wp2
   go_ret
   exact ⟨by first | rfl | (simp; done) | (simp [*]; done), by repeat (first | exact Drawn0.refl _ | apply Drawn0.step)⟩

end Go.Proofs.Ytcfeehaoeaoegaa.Print
namespace Go.Proofs.Ytcfeehaoeaoegaa.Print
open Go.RowKit Go.Proofs.YtcfeehaoeaoegaaW.PrintWords Go.Proofs.YtcfeehaoeaoegaaW.PrintLast Go.Proofs.YtcfeehaoeaoegaaW.PrintMore
attribute [local go_sem] max2_int min2_int max_two min_two max_three min_three max_four min_four   -- for this text's walks alone
set_option linter.unusedVariables false
set_option linter.unusedSimpArgs false

/-! ### mapmakerref41_from: function 81 -/
def mapmakerref41_from.j0 : Nat → List (S38) → List Int → List Int → Int → Int → Bool → Option (Int)
 | 0, _, _, _, _, _, _ => none
 | k + 1, x0, x1, x2, x3, x11, x23 => if x23 = true then (some 1152921504606846976) else (if 0 ≤ x11 then (if x11 < (x0.length : Int) then (if ((rd_T38 x0 x11).f0) = x3 then (if x11 < (x1.length : Int) then (some (rd x1 x11)) else (none)) else (if x11 < (x2.length : Int) then (some (rd x2 x11)) else (none))) else (none)) else (none))
def mapmakerref41_from.f (k : Nat) (l0 : List (S38)) (l1 : List Int) (l2 : List Int) (a3 : Int) (a4 : Int) : Option (Int) := (mapmakerref41_find.f k l0 a3 a4).bind fun t235 => (if t235 < 0 then (mapmakerref41_from.j0 k l0 l1 l2 a3 t235 true) else (mapmakerref41_from.j0 k l0 l1 l2 a3 t235 (decide (t235 ≥ (l1.length : Int)))))
set_option maxHeartbeats 8000000 in
set_option maxRecDepth 100000 in
theorem mapmakerref41_from.calls (k : Nat) (A0 : Option Addr) (c0 : Nat) (l0 : List (S38)) (A1 : Option Addr) (c1 : Nat) (l1 : List Int) (A2 : Option Addr) (c2 : Nat) (l2 : List Int) (a3 : Int) (a4 : Int) (r : Int) (w : World) (hr0 : Kd.C k38 w A0 l0.length l0) (hc0 : l0.length ≤ c0) (hr1 : Kd.C (Kd.int .i64) w A1 l1.length l1) (hc1 : l1.length ≤ c1) (hr2 : Kd.C (Kd.int .i64) w A2 l2.length l2) (hc2 : l2.length ≤ c2) (h : mapmakerref41_from.f k l0 l1 l2 a3 a4 = some r) :
  Calls Try.prog 81 #[.slice A0 l0.length c0, .slice A1 l1.length c1, .slice A2 l2.length c2, .int .i64 a3, .int .i64 a4] w fun e w' => e = .returned (.int .i64 r) ∧ Drawn0 w w' := by
 have HR0 := Aside0.mk hr0; have HC0 := Aside0.mk hc0; clear hr0 hc0; have HR1 := Aside0.mk hr1; have HC1 := Aside0.mk hc1; clear hr1 hc1; have HR2 := Aside0.mk hr2; have HC2 := Aside0.mk hc2; clear hr2 hc2
 have H : ((mapmakerref41_find.f k l0 a3 a4).bind fun t235 => (if t235 < 0 then (mapmakerref41_from.j0 k l0 l1 l2 a3 t235 true) else (mapmakerref41_from.j0 k l0 l1 l2 a3 t235 (decide (t235 ≥ (l1.length : Int)))))) = some r := h
 clear h
 replace H := Option.bind_eq_some_iff.mp H
 obtain ⟨t235, A60, H⟩ := H
 replace H : (if t235 < 0 then (mapmakerref41_from.j0 k l0 l1 l2 a3 t235 true) else (mapmakerref41_from.j0 k l0 l1 l2 a3 t235 (decide (t235 ≥ (l1.length : Int))))) = some r := H
 have A6 := Aside0.mk A60; clear A60; have HC7 := Aside0.mk H; clear H
 go_enter Try.func81, Try.ntmps81
 go_upto_region 2 with (first | ((with_reducible refine gate_callee (f := 79) rfl ?_); refine goesL_ (some 15) rfl rfl Try.func79 (by kernel_rfl) rfl #[.slice A0 l0.length c0, .int .i64 a3, .int .i64 a4] rfl byL ?_; (with_reducible refine (mapmakerref41_find.calls k _ _ l0 a3 a4 t235 _ ?side1 ?side2 A6.out).mono ?_); (case side1 => repeat (first | exact HR0.out | (with_reducible refine Kd.C_alloc ?_ _) | (with_reducible refine Kd.C_drewN ?_ _) | (with_reducible refine Kd.C_drew ?_))); (case side2 => exact HC0.out); rintro e w' ⟨rfl, ⟨nd, rfl⟩⟩; refine ⟨_, rfl, ?_⟩))
 (try simp only [Act.put, List.setIfInBounds_toArray, List.set_cons_zero, List.set_cons_succ])
 go_cut [23] (fun v23 wc => ∃ (kq : Nat) (x23_6 : Bool), v23 = .bool x23_6 ∧ Aside0 (mapmakerref41_from.j0 kq l0 l1 l2 a3 t235 x23_6 = some r) ∧ Aside0 (kq ≤ k) ∧ Drawn0 w wc)
 case first =>
  have H := HC7.out; clear HC7
  by_cases c8 : t235 < 0
  ·rw [if_pos c8] at H
   have c8b0 : decide (t235 < 0) = true := decide_eq_true c8
   clear c8
   (first | rw [c8b0] | (simp only [i64_w, i32_w]; rw [c8b0]) | skip)
   have H' := Aside0.mk H
   clear H
   go_wp2
   go_meet
   case rel => exact ⟨_, (true), (by first | rfl | (simp; done) | (simp [*]; done)), H', ⟨by first | omega | exact Nat.le_refl _⟩, by repeat (first | exact Drawn0.refl _ | apply Drawn0.step)⟩
  ·rw [if_neg c8] at H
   have c8b0 : decide (t235 < 0) = false := decide_eq_false c8
   clear c8
   (first | rw [c8b0] | (simp only [i64_w, i32_w]; rw [c8b0]) | skip)
   have H' := Aside0.mk H
   clear H
   go_wp2
   go_meet
   case rel => exact ⟨_, (decide (t235 ≥ (l1.length : Int))), (by first | rfl | (simp; done) | (simp [*]; done)), H', ⟨by first | omega | exact Nat.le_refl _⟩, by repeat (first | exact Drawn0.refl _ | apply Drawn0.step)⟩
 case rest =>
  clear HC7
  try clear c1
  try clear c2
  try clear p2
  try clear c7
  try clear c8
  try clear c8b0
  obtain ⟨kq, x23_6, rfl, HA, HJ6, ⟨mc6, rfl⟩⟩ := hcut
  cases kq with
  | zero => exact absurd HA.out (by simp [mapmakerref41_from.j0])
  | succ kj6 =>
   have H := HA.out; clear HA
   simp only [mapmakerref41_from.j0] at H
   by_cases c9 : x23_6 = true
   ·subst c9
    have H1 : (some 1152921504606846976) = some r := by rw [if_pos rfl] at H; exact H
    clear H; have H := H1; clear H1
    obtain rfl := Option.some.inj H
    go_wp2
    go_ret
    exact ⟨by first | rfl | (simp; done) | (simp [*]; done), by repeat (first | exact Drawn0.refl _ | apply Drawn0.step)⟩
   ·replace c9 := Bool.eq_false_iff.mpr c9
    subst c9
    have H1 : (if 0 ≤ t235 then (if t235 < (l0.length : Int) then (if ((rd_T38 l0 t235).f0) = a3 then (if t235 < (l1.length : Int) then (some (rd l1 t235)) else (none)) else (if t235 < (l2.length : Int) then (some (rd l2 t235)) else (none))) else (none)) else (none)) = some r := by rw [if_neg (show ¬ (false = true) by decide)] at H; exact H
    clear H; have H := H1; clear H1
    by_cases c10 : 0 ≤ t235
    ·rw [if_pos c10] at H
     have c10b0 : decide (0 ≤ t235) = true := decide_eq_true c10
     clear c10
     by_cases c11 : t235 < (l0.length : Int)
     ·rw [if_pos c11] at H
      have c11b0 : decide (t235 < (l0.length : Int)) = true := decide_eq_true c11
      clear c11
      by_cases c12 : ((rd_T38 l0 t235).f0) = a3
      ·rw [if_pos c12] at H
       have c12b0 : (((rd_T38 l0 t235).f0) == a3) = true := beq_iff_eq.mpr c12
       have c12b1 : (((rd_T38 l0 t235).f0) != a3) = false := bne_eq_false_iff_eq.mpr c12
       clear c12
       by_cases c13 : t235 < (l1.length : Int)
       ·rw [if_pos c13] at H
        have c13b0 : decide (t235 < (l1.length : Int)) = true := decide_eq_true c13
        clear c13
        obtain rfl := Option.some.inj H
        have p236 : 0 ≤ (t235 : Int) := of_decide_eq_true (by first | (with_reducible assumption) | assumption)
        have q236 : t235 < (l0.length : Int) := of_decide_eq_true (by first | (with_reducible assumption) | assumption)
        obtain ⟨ad236, e236, hx236_0, hx236_1⟩ := at_T38 HR0.out t235 p236 q236
        cases e236
        replace p236 := eq_true p236; replace q236 := eq_true q236
        have p237 : 0 ≤ (t235 : Int) := of_decide_eq_true (by first | (with_reducible assumption) | assumption)
        have q237 : t235 < (l1.length : Int) := of_decide_eq_true (by first | (with_reducible assumption) | assumption)
        obtain ⟨ad237, e237, hx237_0⟩ := Kd.at_int HR1.out t235 p237 q237
        cases e237
        replace p237 := eq_true p237; replace q237 := eq_true q237
        go_wp2
        go_ret
        exact ⟨by first | rfl | (simp; done) | (simp [*]; done), by repeat (first | exact Drawn0.refl _ | apply Drawn0.step)⟩
       ·rw [if_neg c13] at H
        exact absurd H (by simp)
      ·rw [if_neg c12] at H
       have c12b0 : (((rd_T38 l0 t235).f0) == a3) = false := beq_eq_false_iff_ne.mpr c12
       have c12b1 : (((rd_T38 l0 t235).f0) != a3) = true := bne_iff_ne.mpr c12
       by_cases c14 : t235 < (l2.length : Int)
       ·rw [if_pos c14] at H
        have c14b0 : decide (t235 < (l2.length : Int)) = true := decide_eq_true c14
        clear c14
        obtain rfl := Option.some.inj H
        have p236 : 0 ≤ (t235 : Int) := of_decide_eq_true (by first | (with_reducible assumption) | assumption)
        have q236 : t235 < (l0.length : Int) := of_decide_eq_true (by first | (with_reducible assumption) | assumption)
        obtain ⟨ad236, e236, hx236_0, hx236_1⟩ := at_T38 HR0.out t235 p236 q236
        cases e236
        replace p236 := eq_true p236; replace q236 := eq_true q236
        have p238 : 0 ≤ (t235 : Int) := of_decide_eq_true (by first | (with_reducible assumption) | assumption)
        have q238 : t235 < (l2.length : Int) := of_decide_eq_true (by first | (with_reducible assumption) | assumption)
        obtain ⟨ad238, e238, hx238_0⟩ := Kd.at_int HR2.out t235 p238 q238
        cases e238
        replace p238 := eq_true p238; replace q238 := eq_true q238
        go_wp2
        go_ret
        exact ⟨by first | rfl | (simp; done) | (simp [*]; done), by repeat (first | exact Drawn0.refl _ | apply Drawn0.step)⟩
       ·rw [if_neg c14] at H
        exact absurd H (by simp)
     ·rw [if_neg c11] at H
      exact absurd H (by simp)
    ·rw [if_neg c10] at H
     exact absurd H (by simp)

end Go.Proofs.Ytcfeehaoeaoegaa.Print
