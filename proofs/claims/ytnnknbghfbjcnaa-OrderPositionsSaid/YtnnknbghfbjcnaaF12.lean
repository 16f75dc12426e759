/- Written by a program of this claim's author (xprint.py, over the kit's print.py): the call of mapmaker/mapmakerlaw39.OrderPositions comes to what the Lean function of its name says. -/
import Derived.Test.YtnnknbghfbjcnaaPrint0
import Derived.Test.YtnnknbghfbjcnaaF32
import Derived.Test.YtnnknbghfbjcnaaF36
import Derived.Test.YtnnknbghfbjcnaaF41
import Derived.Test.YtnnknbghfbjcnaaHOCheck
import Derived.Test.YtnnknbghfbjcnaaHXOpen
import Derived.Test.YtnnknbghfbjcnaaHXShort
namespace Go.Proofs.Ytnnknbghfbjcnaa.Print
open Go.RowKit Go.Proofs.YtnnknbghfbjcnaaW.PrintWords Go.Proofs.YtnnknbghfbjcnaaW.PrintLast Go.Proofs.YtnnknbghfbjcnaaW.PrintMore
attribute [local go_sem] max2_int min2_int max_two min_two max_three min_three max_four min_four   -- for this text's walks alone
set_option linter.unusedVariables false
set_option linter.unusedSimpArgs false

/-! ### mapmakerlaw39_OrderPositions: function 12 -/
mutual
def mapmakerlaw39_OrderPositions.j0 : Nat → List Int → Bool → Option (Bool)
 | 0, _, _ => none
 | k + 1, x0, x14 => if x14 = true then ((mapmakerlaw39_lives.f).bind fun t501 => (some t501)) else ((order_Ranks.f k x0).bind fun t502 => (if (t502.length : Int) = (x0.length : Int) then (mapmakerlaw39_OrderPositions.l0 k x0 0 t502) else (some false)))
def mapmakerlaw39_OrderPositions.l0 : Nat → List Int → Int → List Int → Option (Bool)
 | 0, _, _, _ => none
 | k + 1, x0, x4, x17 => if x4 < (x17.length : Int) then (if 0 ≤ x4 then (if (rd x17 x4) < 0 then (some false) else (if (rd x17 x4) ≥ (x0.length : Int) then (some false) else (if 0 ≤ (rd x17 x4) then (if (rd x17 x4) < (x0.length : Int) then (if (rd x0 (rd x17 x4)) = x4 then (mapmakerlaw39_OrderPositions.l0 k x0 (wrap64 (x4 + 1)) x17) else (some false)) else (none)) else (none)))) else (none)) else ((order_Ranks.f k x17).bind fun t509 => ((mapmakerlaw39_ints.f k t509 x0).bind fun t512 => (if t512 = true then ((mapmakerlaw39_lives.f).bind fun t513 => (some t513)) else (some false))))
end
def mapmakerlaw39_OrderPositions.f (k : Nat) (l0 : List Int) : Option (Bool) := if (l0.length : Int) > 40 then (mapmakerlaw39_OrderPositions.j0 k l0 true) else ((order_Check.f (l0.length : Int) l0).bind fun t500 => (mapmakerlaw39_OrderPositions.j0 k l0 (t500 != 0)))
theorem mapmakerlaw39_OrderPositions.mono_l : ∀ k, (∀ y0 y1, LeO (mapmakerlaw39_OrderPositions.j0 k y0 y1) (mapmakerlaw39_OrderPositions.j0 (k + 1) y0 y1)) ∧ (∀ y0 y1 y2, LeO (mapmakerlaw39_OrderPositions.l0 k y0 y1 y2) (mapmakerlaw39_OrderPositions.l0 (k + 1) y0 y1 y2))
 | 0 => ⟨fun _ _ r h => by simp [mapmakerlaw39_OrderPositions.j0] at h, fun _ _ _ r h => by simp [mapmakerlaw39_OrderPositions.l0] at h⟩
 | k + 1 => by
  obtain ⟨ih0, ih1⟩ := mapmakerlaw39_OrderPositions.mono_l k
  refine ⟨?_, ?_⟩
  ·intro y0 y1
   unfold mapmakerlaw39_OrderPositions.j0
   repeat' first
   | (with_reducible exact ih0 _ _)
   | (with_reducible exact ih1 _ _ _)
   | (with_reducible exact mapmakerlaw39_ints.mono _ _ _)
   | (with_reducible exact order_Ranks.mono _ _)
   | (with_reducible exact LeO.refl _)
   | (with_reducible exact LeO.none _)
   | (with_reducible refine LeO.ite ?_ ?_)
   | (with_reducible refine LeO.bind ?_ (fun _ => ?_))
   | exact ih0 _ _
   | exact ih1 _ _ _
   | exact mapmakerlaw39_ints.mono _ _ _
   | exact order_Ranks.mono _ _
   | exact LeO.none _
   | refine LeO.ite ?_ ?_
   | refine LeO.bind ?_ (fun _ => ?_)
  ·intro y0 y1 y2
   unfold mapmakerlaw39_OrderPositions.l0
   repeat' first
   | (with_reducible exact ih0 _ _)
   | (with_reducible exact ih1 _ _ _)
   | (with_reducible exact mapmakerlaw39_ints.mono _ _ _)
   | (with_reducible exact order_Ranks.mono _ _)
   | (with_reducible exact LeO.refl _)
   | (with_reducible exact LeO.none _)
   | (with_reducible refine LeO.ite ?_ ?_)
   | (with_reducible refine LeO.bind ?_ (fun _ => ?_))
   | exact ih0 _ _
   | exact ih1 _ _ _
   | exact mapmakerlaw39_ints.mono _ _ _
   | exact order_Ranks.mono _ _
   | exact LeO.none _
   | refine LeO.ite ?_ ?_
   | refine LeO.bind ?_ (fun _ => ?_)
theorem mapmakerlaw39_OrderPositions.mono : ∀ a0 k, LeO (mapmakerlaw39_OrderPositions.f k a0) (mapmakerlaw39_OrderPositions.f (k + 1) a0) := by
 intro a0 k
 obtain ⟨ih0, ih1⟩ := mapmakerlaw39_OrderPositions.mono_l k
 unfold mapmakerlaw39_OrderPositions.f
 repeat' first
   | (with_reducible exact ih0 _ _)
   | (with_reducible exact ih1 _ _ _)
   | (with_reducible exact mapmakerlaw39_ints.mono _ _ _)
   | (with_reducible exact order_Ranks.mono _ _)
   | (with_reducible exact LeO.refl _)
   | (with_reducible exact LeO.none _)
   | (with_reducible refine LeO.ite ?_ ?_)
   | (with_reducible refine LeO.bind ?_ (fun _ => ?_))
   | exact ih0 _ _
   | exact ih1 _ _ _
   | exact mapmakerlaw39_ints.mono _ _ _
   | exact order_Ranks.mono _ _
   | exact LeO.none _
   | refine LeO.ite ?_ ?_
   | refine LeO.bind ?_ (fun _ => ?_)
set_option maxHeartbeats 8000000 in
set_option maxRecDepth 100000 in
theorem mapmakerlaw39_OrderPositions.calls (k : Nat) (A0 : Option Addr) (c0 : Nat) (l0 : List Int) (r : Bool) (w : World) (hr0 : Kd.C (Kd.int .i64) w A0 l0.length l0) (hc0 : l0.length ≤ c0) (h : mapmakerlaw39_OrderPositions.f k l0 = some r) :
  Calls Try.prog 12 #[.slice A0 l0.length c0] w fun e w' => e = .returned (.bool r) ∧ Below w.heap.size w w' := by
 have HR0 := Aside0.mk hr0; have HC0 := Aside0.mk hc0; clear hr0 hc0; have HB := Aside0.mk (Below.refl w.heap.size w)
 have H : (if (l0.length : Int) > 40 then (mapmakerlaw39_OrderPositions.j0 k l0 true) else ((order_Check.f (l0.length : Int) l0).bind fun t500 => (mapmakerlaw39_OrderPositions.j0 k l0 (t500 != 0)))) = some r := h
 clear h; have HC2 := Aside0.mk H; clear H
 go_enter Try.func12, Try.ntmps12
 go_upto_region 1 with (fail)
 go_cut [14] (fun v14 wc => ∃ (kq : Nat) (x14_1 : Bool), v14 = .bool x14_1 ∧ Aside0 (mapmakerlaw39_OrderPositions.j0 kq l0 x14_1 = some r) ∧ Aside0 (kq ≤ k) ∧ Aside0 (Below w.heap.size w wc))
 case first =>
  have H := HC2.out; clear HC2
  by_cases c3 : (l0.length : Int) > 40
  ·rw [if_pos c3] at H
   have c3b0 : decide (40 < (l0.length : Int)) = true := decide_eq_true c3
   have c3b1 : decide (40 < l0.length) = true := decide_eq_true (by omega)
   clear c3
   (first | rw [c3b0] | (simp only [i64_w, i32_w]; rw [c3b0]) | skip)
   have H' := Aside0.mk H
   clear H
   go_wp2
   go_meet
   case rel => exact ⟨_, (true), (by first | rfl | (simp; done) | (simp [*]; done)), H', ⟨by first | omega | exact Nat.le_refl _⟩, ⟨by repeat (first | (with_reducible first | exact HB.out | apply below_alloc | apply pw_below_drewN | apply below_drew1) | exact HB.out)⟩⟩
  ·rw [if_neg c3] at H
   have c3b0 : decide (40 < (l0.length : Int)) = false := decide_eq_false c3
   have c3b1 : decide (40 < l0.length) = false := decide_eq_false (by omega)
   clear c3
   (first | rw [c3b0] | (simp only [i64_w, i32_w]; rw [c3b0]) | skip)
   replace H := Option.bind_eq_some_iff.mp H
   obtain ⟨t500, A40, H⟩ := H
   replace H : (mapmakerlaw39_OrderPositions.j0 k l0 (t500 != 0)) = some r := H
   have A4 := Aside0.mk A40; clear A40
   have H' := Aside0.mk H
   clear H
   go_wp2_with (first | (go_at_call 33; (with_reducible refine (order_Check.calls (l0.length : Int) _ _ l0 t500 _ ?side1 ?side2 A4.out).mono ?_); (case side1 => exact byC (Kd.C_below HR0.out HB.out)); (case side2 => exact HC0.out); rintro e w5 ⟨rfl, hb⟩; have n0_ := Aside0.mk (below_step (byB HB.out) hb); clear HB; have HB := n0_; clear n0_; (try clear hb); (try clear hb2); (try clear hk); (try clear hi)))
   go_meet
   case rel => exact ⟨_, ((t500 != 0)), (by first | rfl | (simp; done) | (simp [*]; done)), H', ⟨by first | omega | exact Nat.le_refl _⟩, ⟨by repeat (first | (with_reducible first | exact HB.out | apply below_alloc | apply pw_below_drewN | apply below_drew1) | exact HB.out)⟩⟩
 case rest =>
  clear HC2
  try clear c1
  try clear p2
  try clear c3
  try clear c3b0
  try clear c3b1
  obtain ⟨kq, x14_1, rfl, HA, HJ1, HB⟩ := hcut
  cases kq with
  | zero => exact absurd HA.out (by simp [mapmakerlaw39_OrderPositions.j0])
  | succ kj1 =>
   have H := HA.out; clear HA
   simp only [mapmakerlaw39_OrderPositions.j0] at H
   by_cases c6 : x14_1 = true
   ·subst c6
    have H1 : ((mapmakerlaw39_lives.f).bind fun t501 => (some t501)) = some r := by rw [if_pos rfl] at H; exact H
    clear H; have H := H1; clear H1
    replace H := Option.bind_eq_some_iff.mp H
    obtain ⟨t501, A70, H⟩ := H
    replace H : (some t501) = some r := H
    have A7 := Aside0.mk A70; clear A70
    obtain rfl := Option.some.inj H
    go_wp2_with (first | ((with_reducible refine gate_callee (f := 32) rfl ?_); refine goesL_ (some 15) rfl rfl Try.func32 (by kernel_rfl) rfl #[] rfl byL ?_; (with_reducible refine (mapmakerlaw39_lives.calls  t501 _ A7.out).mono ?_); rintro e w8 ⟨rfl, hb⟩; refine ⟨_, rfl, ?_⟩; have n0_ := Aside0.mk (below_step (byB HB.out) hb); clear HB; have HB := n0_; clear n0_; (try clear hb); (try clear hb2); (try clear hk); (try clear hi)))
    go_ret
    exact ⟨by first | rfl | (simp [errW_none, errW_some] <;> rfl) | (simp [*, errW_none, errW_some] <;> rfl), by repeat (first | (with_reducible first | exact HB.out | apply below_alloc | apply pw_below_drewN | apply below_drew1) | exact HB.out)⟩
   ·replace c6 := Bool.eq_false_iff.mpr c6
    subst c6
    have H1 : ((order_Ranks.f kj1 l0).bind fun t502 => (if (t502.length : Int) = (l0.length : Int) then (mapmakerlaw39_OrderPositions.l0 kj1 l0 0 t502) else (some false))) = some r := by rw [if_neg (show ¬ (false = true) by decide)] at H; exact H
    clear H; have H := H1; clear H1
    replace H := Option.bind_eq_some_iff.mp H
    obtain ⟨t502, A90, H⟩ := H
    replace H : (if (t502.length : Int) = (l0.length : Int) then (mapmakerlaw39_OrderPositions.l0 kj1 l0 0 t502) else (some false)) = some r := H
    have A9 := Aside0.mk A90; clear A90
    by_cases c10 : (t502.length : Int) = (l0.length : Int)
    ·rw [if_pos c10] at H
     have c10b0 : ((t502.length : Int) == (l0.length : Int)) = true := beq_iff_eq.mpr c10
     have c10b1 : ((t502.length : Int) != (l0.length : Int)) = false := bne_eq_false_iff_eq.mpr c10
     have c10b2 : (t502.length == l0.length) = true := by first | simpa using c10 | (simp at c10 ⊢; omega)
     clear c10
     have H' := Aside0.mk H
     clear H
     go_wp2_with (first | ((with_reducible refine gate_callee (f := 41) rfl ?_); refine goesL_ (some 17) rfl rfl Try.func41 (by kernel_rfl) rfl #[.slice A0 l0.length c0] rfl byL ?_; (with_reducible refine (order_Ranks.calls kj1 _ _ l0 t502 _ ?side1 ?side2 A9.out).mono ?_); (case side1 => exact byC (Kd.C_below HR0.out HB.out)); (case side2 => exact HC0.out); rintro e w11 ⟨v503, rfl, ho0, hb⟩; refine ⟨_, rfl, ?_⟩; have n0_ := Aside0.mk (Kd.R_lower ho0 (below_size (byB HB.out))); have n1_ := Aside0.mk (below_step (byB HB.out) hb); clear HB; have HO504 := n0_; have HB := n1_; clear n0_ n1_; (try clear hb); (try clear hb2); (try clear hk); (try clear hi); (try clear ho0); obtain ⟨Ao12, co12, eo12⟩ := Kd.R_slice HO504.out; subst eo12))
     go_loopg [4] kj1 (fun kq v4 w' => ∃ (x4_2 : Int), v4 = .int .i64 x4_2 ∧ Aside0 (mapmakerlaw39_OrderPositions.l0 kq l0 x4_2 t502 = some r) ∧ Aside0 (kq ≤ kj1) ∧ Aside0 (Kd.R (Kd.int .i64) 3 w' w.heap.size (fun _ => True) (.slice Ao12 t502.length co12) t502) ∧ Aside0 (Below w.heap.size w w'))
     case atStart => exact ⟨(0), (by first | rfl | (simp; done) | (simp [*]; done)), H', ⟨Nat.le_refl _⟩, ⟨by (with_reducible repeat (first | apply Kd.R_alloc | apply Kd.R_drewN | apply Kd.R_drew)); exact HO504.out⟩, ⟨by repeat (first | (with_reducible first | exact HB.out | apply below_alloc | apply pw_below_drewN | apply below_drew1) | exact HB.out)⟩⟩
     case round =>
      clear H'
      try clear c1
      try clear p2
      try clear c3
      try clear c3b0
      try clear c3b1
      try clear c4
      try clear c6
      try clear c10
      try clear c10b0
      try clear c10b1
      try clear c10b2
      try clear c12
      try clear p2
      obtain ⟨x4_2, rfl, HA, HK2, HO_17, HB⟩ := hrel
      cases gk with
      | zero => exact absurd HA.out (by simp [mapmakerlaw39_OrderPositions.l0])
      | succ k2 =>
       have H := HA.out; clear HA
       simp only [mapmakerlaw39_OrderPositions.l0] at H
       by_cases c13 : x4_2 < (t502.length : Int)
       ·rw [if_pos c13] at H
        have c13b0 : decide (x4_2 < (t502.length : Int)) = true := decide_eq_true c13
        clear c13
        by_cases c14 : 0 ≤ x4_2
        ·rw [if_pos c14] at H
         have c14b0 : decide (0 ≤ x4_2) = true := decide_eq_true c14
         clear c14
         by_cases c15 : (rd t502 x4_2) < 0
         ·rw [if_pos c15] at H
          have c15b0 : decide ((rd t502 x4_2) < 0) = true := decide_eq_true c15
          clear c15
          obtain rfl := Option.some.inj H
          have p505 : 0 ≤ (x4_2 : Int) := of_decide_eq_true (by first | (with_reducible assumption) | assumption)
          have q505 : x4_2 < (t502.length : Int) := of_decide_eq_true (by first | (with_reducible assumption) | assumption)
          obtain ⟨ad505, e505, hx505_0⟩ := Kd.at_int (Kd.R_reads' HO_17.out).2.2 x4_2 p505 q505
          cases e505
          replace p505 := eq_true p505; replace q505 := eq_true q505
          go_wp2
          go_ret
          exact ⟨by first | rfl | (simp [errW_none, errW_some] <;> rfl) | (simp [*, errW_none, errW_some] <;> rfl), by repeat (first | (with_reducible first | exact HB.out | apply below_alloc | apply pw_below_drewN | apply below_drew1) | exact HB.out)⟩
         ·rw [if_neg c15] at H
          have c15b0 : decide ((rd t502 x4_2) < 0) = false := decide_eq_false c15
          clear c15
          by_cases c16 : (rd t502 x4_2) ≥ (l0.length : Int)
          ·rw [if_pos c16] at H
           have c16b0 : decide ((l0.length : Int) ≤ (rd t502 x4_2)) = true := decide_eq_true c16
           clear c16
           obtain rfl := Option.some.inj H
           have p505 : 0 ≤ (x4_2 : Int) := of_decide_eq_true (by first | (with_reducible assumption) | assumption)
           have q505 : x4_2 < (t502.length : Int) := of_decide_eq_true (by first | (with_reducible assumption) | assumption)
           obtain ⟨ad505, e505, hx505_0⟩ := Kd.at_int (Kd.R_reads' HO_17.out).2.2 x4_2 p505 q505
           cases e505
           replace p505 := eq_true p505; replace q505 := eq_true q505
           have p506 : 0 ≤ (x4_2 : Int) := of_decide_eq_true (by first | (with_reducible assumption) | assumption)
           have q506 : x4_2 < (t502.length : Int) := of_decide_eq_true (by first | (with_reducible assumption) | assumption)
           obtain ⟨ad506, e506, hx506_0⟩ := Kd.at_int (Kd.R_reads' HO_17.out).2.2 x4_2 p506 q506
           obtain rfl : ad505 = ad506 := (by injection e506)
           replace p506 := eq_true p506; replace q506 := eq_true q506
           go_wp2
           go_ret
           exact ⟨by first | rfl | (simp [errW_none, errW_some] <;> rfl) | (simp [*, errW_none, errW_some] <;> rfl), by repeat (first | (with_reducible first | exact HB.out | apply below_alloc | apply pw_below_drewN | apply below_drew1) | exact HB.out)⟩
          ·rw [if_neg c16] at H
           have c16b0 : decide ((l0.length : Int) ≤ (rd t502 x4_2)) = false := decide_eq_false c16
           clear c16
           by_cases c17 : 0 ≤ (rd t502 x4_2)
           ·rw [if_pos c17] at H
            have c17b0 : decide (0 ≤ (rd t502 x4_2)) = true := decide_eq_true c17
            clear c17
            by_cases c18 : (rd t502 x4_2) < (l0.length : Int)
            ·rw [if_pos c18] at H
             have c18b0 : decide ((rd t502 x4_2) < (l0.length : Int)) = true := decide_eq_true c18
             clear c18
             by_cases c19 : (rd l0 (rd t502 x4_2)) = x4_2
             ·rw [if_pos c19] at H
              have c19b0 : ((rd l0 (rd t502 x4_2)) == x4_2) = true := beq_iff_eq.mpr c19
              have c19b1 : ((rd l0 (rd t502 x4_2)) != x4_2) = false := bne_eq_false_iff_eq.mpr c19
              clear c19
              have H' := Aside0.mk H
              clear H
              have p505 : 0 ≤ (x4_2 : Int) := of_decide_eq_true (by first | (with_reducible assumption) | assumption)
              have q505 : x4_2 < (t502.length : Int) := of_decide_eq_true (by first | (with_reducible assumption) | assumption)
              obtain ⟨ad505, e505, hx505_0⟩ := Kd.at_int (Kd.R_reads' HO_17.out).2.2 x4_2 p505 q505
              cases e505
              replace p505 := eq_true p505; replace q505 := eq_true q505
              have p506 : 0 ≤ (x4_2 : Int) := of_decide_eq_true (by first | (with_reducible assumption) | assumption)
              have q506 : x4_2 < (t502.length : Int) := of_decide_eq_true (by first | (with_reducible assumption) | assumption)
              obtain ⟨ad506, e506, hx506_0⟩ := Kd.at_int (Kd.R_reads' HO_17.out).2.2 x4_2 p506 q506
              obtain rfl : ad505 = ad506 := (by injection e506)
              replace p506 := eq_true p506; replace q506 := eq_true q506
              have p507 : 0 ≤ (x4_2 : Int) := of_decide_eq_true (by first | (with_reducible assumption) | assumption)
              have q507 : x4_2 < (t502.length : Int) := of_decide_eq_true (by first | (with_reducible assumption) | assumption)
              obtain ⟨ad507, e507, hx507_0⟩ := Kd.at_int (Kd.R_reads' HO_17.out).2.2 x4_2 p507 q507
              obtain rfl : ad505 = ad507 := (by injection e507)
              replace p507 := eq_true p507; replace q507 := eq_true q507
              have p508 : 0 ≤ ((rd t502 x4_2) : Int) := of_decide_eq_true (by first | (with_reducible assumption) | assumption)
              have q508 : (rd t502 x4_2) < (l0.length : Int) := of_decide_eq_true (by first | (with_reducible assumption) | assumption)
              obtain ⟨ad508, e508, hx508_0⟩ := Kd.at_int HR0.out (rd t502 x4_2) p508 q508
              cases e508
              replace hx508_0 := (HB.out.cell (World.block_lt_of_cell? w _ hx508_0)).trans hx508_0
              replace p508 := eq_true p508; replace q508 := eq_true q508
              go_wp2
              go_roundg k2
              case measure => have := HJ1.out; have := HK2.out; omega
              case rel => exact ⟨(wrap64 (x4_2 + 1)), (by first | rfl | (simp; done) | (simp [*]; done)), H', ⟨by have := HJ1.out; have := HK2.out; omega⟩, ⟨by (with_reducible repeat (first | apply Kd.R_alloc | apply Kd.R_drewN | apply Kd.R_drew)); exact HO_17.out⟩, ⟨by repeat (first | (with_reducible first | exact HB.out | apply below_alloc | apply pw_below_drewN | apply below_drew1) | exact HB.out)⟩⟩
             ·rw [if_neg c19] at H
              have c19b0 : ((rd l0 (rd t502 x4_2)) == x4_2) = false := beq_eq_false_iff_ne.mpr c19
              have c19b1 : ((rd l0 (rd t502 x4_2)) != x4_2) = true := bne_iff_ne.mpr c19
              obtain rfl := Option.some.inj H
              have p505 : 0 ≤ (x4_2 : Int) := of_decide_eq_true (by first | (with_reducible assumption) | assumption)
              have q505 : x4_2 < (t502.length : Int) := of_decide_eq_true (by first | (with_reducible assumption) | assumption)
              obtain ⟨ad505, e505, hx505_0⟩ := Kd.at_int (Kd.R_reads' HO_17.out).2.2 x4_2 p505 q505
              cases e505
              replace p505 := eq_true p505; replace q505 := eq_true q505
              have p506 : 0 ≤ (x4_2 : Int) := of_decide_eq_true (by first | (with_reducible assumption) | assumption)
              have q506 : x4_2 < (t502.length : Int) := of_decide_eq_true (by first | (with_reducible assumption) | assumption)
              obtain ⟨ad506, e506, hx506_0⟩ := Kd.at_int (Kd.R_reads' HO_17.out).2.2 x4_2 p506 q506
              obtain rfl : ad505 = ad506 := (by injection e506)
              replace p506 := eq_true p506; replace q506 := eq_true q506
              have p507 : 0 ≤ (x4_2 : Int) := of_decide_eq_true (by first | (with_reducible assumption) | assumption)
              have q507 : x4_2 < (t502.length : Int) := of_decide_eq_true (by first | (with_reducible assumption) | assumption)
              obtain ⟨ad507, e507, hx507_0⟩ := Kd.at_int (Kd.R_reads' HO_17.out).2.2 x4_2 p507 q507
              obtain rfl : ad505 = ad507 := (by injection e507)
              replace p507 := eq_true p507; replace q507 := eq_true q507
              have p508 : 0 ≤ ((rd t502 x4_2) : Int) := of_decide_eq_true (by first | (with_reducible assumption) | assumption)
              have q508 : (rd t502 x4_2) < (l0.length : Int) := of_decide_eq_true (by first | (with_reducible assumption) | assumption)
              obtain ⟨ad508, e508, hx508_0⟩ := Kd.at_int HR0.out (rd t502 x4_2) p508 q508
              cases e508
              replace hx508_0 := (HB.out.cell (World.block_lt_of_cell? w _ hx508_0)).trans hx508_0
              replace p508 := eq_true p508; replace q508 := eq_true q508
              go_wp2
              go_ret
              exact ⟨by first | rfl | (simp [errW_none, errW_some] <;> rfl) | (simp [*, errW_none, errW_some] <;> rfl), by repeat (first | (with_reducible first | exact HB.out | apply below_alloc | apply pw_below_drewN | apply below_drew1) | exact HB.out)⟩
            ·rw [if_neg c18] at H
             exact absurd H (by simp)
           ·rw [if_neg c17] at H
            exact absurd H (by simp)
        ·rw [if_neg c14] at H
         exact absurd H (by simp)
       ·rw [if_neg c13] at H
        have c13b0 : decide (x4_2 < (t502.length : Int)) = false := decide_eq_false c13
        clear c13
        replace H := Option.bind_eq_some_iff.mp H
        obtain ⟨t509, A200, H⟩ := H
        replace H : ((mapmakerlaw39_ints.f k2 t509 l0).bind fun t512 => (if t512 = true then ((mapmakerlaw39_lives.f).bind fun t513 => (some t513)) else (some false))) = some r := H
        have A20 := Aside0.mk A200; clear A200
        replace H := Option.bind_eq_some_iff.mp H
        obtain ⟨t512, A210, H⟩ := H
        replace H : (if t512 = true then ((mapmakerlaw39_lives.f).bind fun t513 => (some t513)) else (some false)) = some r := H
        have A21 := Aside0.mk A210; clear A210
        by_cases c22 : t512 = true
        ·subst c22
         have H1 : ((mapmakerlaw39_lives.f).bind fun t513 => (some t513)) = some r := by rw [if_pos rfl] at H; exact H
         clear H; have H := H1; clear H1
         replace H := Option.bind_eq_some_iff.mp H
         obtain ⟨t513, A230, H⟩ := H
         replace H : (some t513) = some r := H
         have A23 := Aside0.mk A230; clear A230
         obtain rfl := Option.some.inj H
         go_wp2_with (first | ((with_reducible refine gate_callee (f := 41) rfl ?_); refine goesL_ (some 55) rfl rfl Try.func41 (by kernel_rfl) rfl #[.slice Ao12 t502.length co12] rfl byL ?_; (with_reducible refine (order_Ranks.calls k2 _ _ t502 t509 _ ?side1 ?side2 A20.out).mono ?_); (case side1 => repeat (first | exact (Kd.R_reads' HO_17.out).2.2 | (with_reducible refine Kd.C_alloc ?_ _) | (with_reducible refine Kd.C_drewN ?_ _) | (with_reducible refine Kd.C_drew ?_))); (case side2 => exact (Kd.R_reads' HO_17.out).2.1); rintro e w24 ⟨v510, rfl, ho0, hb⟩; refine ⟨_, rfl, ?_⟩; have n0_ := Aside0.mk (Kd.R_elder' (byR HO_17.out) (Kd.R_base ho0) hb); have n1_ := Aside0.mk (Kd.R_lower (Kd.R_new' ho0 (Kd.R_lt (byR HO_17.out))) (below_size (byB HB.out))); have n2_ := Aside0.mk (below_step (byB HB.out) hb); clear HO_17 HB; have HO_17 := n0_; have HO511 := n1_; have HB := n2_; clear n0_ n1_ n2_; (try clear hb); (try clear hb2); (try clear hk); (try clear hi); (try clear ho0); obtain ⟨Ao25, co25, eo25⟩ := Kd.R_slice HO511.out; subst eo25) | ((with_reducible refine gate_callee (f := 36) rfl ?_); refine goesL_ (some 57) rfl rfl Try.func36 (by kernel_rfl) rfl #[.slice Ao25 t509.length co25, .slice A0 l0.length c0] rfl byL ?_; (with_reducible refine (mapmakerlaw39_ints.calls k2 _ _ t509 _ _ l0 true _ ?side1 ?side2 ?side3 ?side4 A21.out).mono ?_); (case side1 => repeat (first | exact (Kd.R_reads' HO511.out).2.2 | (with_reducible refine Kd.C_alloc ?_ _) | (with_reducible refine Kd.C_drewN ?_ _) | (with_reducible refine Kd.C_drew ?_))); (case side2 => exact (Kd.R_reads' HO511.out).2.1); (case side3 => exact byC (Kd.C_below HR0.out HB.out)); (case side4 => exact HC0.out); rintro e w' ⟨rfl, ⟨nd, rfl⟩⟩; refine ⟨_, rfl, ?_⟩) | (go_at_call 32; (with_reducible refine (mapmakerlaw39_lives.calls  t513 _ A23.out).mono ?_); rintro e w26 ⟨rfl, hb⟩; have n0_ := Aside0.mk (Kd.R_below (byR HO_17.out) hb); have n1_ := Aside0.mk (Kd.R_below (byR HO511.out) hb); have n2_ := Aside0.mk (below_step (byB HB.out) hb); clear HO_17 HO511 HB; have HO_17 := n0_; have HO511 := n1_; have HB := n2_; clear n0_ n1_ n2_; (try clear hb); (try clear hb2); (try clear hk); (try clear hi)))
         go_ret
         exact ⟨by first | rfl | (simp [errW_none, errW_some] <;> rfl) | (simp [*, errW_none, errW_some] <;> rfl), by repeat (first | (with_reducible first | exact HB.out | apply below_alloc | apply pw_below_drewN | apply below_drew1) | exact HB.out)⟩
        ·replace c22 := Bool.eq_false_iff.mpr c22
         subst c22
         have H1 : (some false) = some r := by rw [if_neg (show ¬ (false = true) by decide)] at H; exact H
         clear H; have H := H1; clear H1
         obtain rfl := Option.some.inj H
         go_wp2_with (first | ((with_reducible refine gate_callee (f := 41) rfl ?_); refine goesL_ (some 55) rfl rfl Try.func41 (by kernel_rfl) rfl #[.slice Ao12 t502.length co12] rfl byL ?_; (with_reducible refine (order_Ranks.calls k2 _ _ t502 t509 _ ?side1 ?side2 A20.out).mono ?_); (case side1 => repeat (first | exact (Kd.R_reads' HO_17.out).2.2 | (with_reducible refine Kd.C_alloc ?_ _) | (with_reducible refine Kd.C_drewN ?_ _) | (with_reducible refine Kd.C_drew ?_))); (case side2 => exact (Kd.R_reads' HO_17.out).2.1); rintro e w27 ⟨v510, rfl, ho0, hb⟩; refine ⟨_, rfl, ?_⟩; have n0_ := Aside0.mk (Kd.R_elder' (byR HO_17.out) (Kd.R_base ho0) hb); have n1_ := Aside0.mk (Kd.R_lower (Kd.R_new' ho0 (Kd.R_lt (byR HO_17.out))) (below_size (byB HB.out))); have n2_ := Aside0.mk (below_step (byB HB.out) hb); clear HO_17 HB; have HO_17 := n0_; have HO511 := n1_; have HB := n2_; clear n0_ n1_ n2_; (try clear hb); (try clear hb2); (try clear hk); (try clear hi); (try clear ho0); obtain ⟨Ao28, co28, eo28⟩ := Kd.R_slice HO511.out; subst eo28) | ((with_reducible refine gate_callee (f := 36) rfl ?_); refine goesL_ (some 57) rfl rfl Try.func36 (by kernel_rfl) rfl #[.slice Ao28 t509.length co28, .slice A0 l0.length c0] rfl byL ?_; (with_reducible refine (mapmakerlaw39_ints.calls k2 _ _ t509 _ _ l0 false _ ?side1 ?side2 ?side3 ?side4 A21.out).mono ?_); (case side1 => repeat (first | exact (Kd.R_reads' HO511.out).2.2 | (with_reducible refine Kd.C_alloc ?_ _) | (with_reducible refine Kd.C_drewN ?_ _) | (with_reducible refine Kd.C_drew ?_))); (case side2 => exact (Kd.R_reads' HO511.out).2.1); (case side3 => exact byC (Kd.C_below HR0.out HB.out)); (case side4 => exact HC0.out); rintro e w' ⟨rfl, ⟨nd, rfl⟩⟩; refine ⟨_, rfl, ?_⟩))
         go_ret
         exact ⟨by first | rfl | (simp [errW_none, errW_some] <;> rfl) | (simp [*, errW_none, errW_some] <;> rfl), by repeat (first | (with_reducible first | exact HB.out | apply below_alloc | apply pw_below_drewN | apply below_drew1) | exact HB.out)⟩
    ·rw [if_neg c10] at H
     have c10b0 : ((t502.length : Int) == (l0.length : Int)) = false := beq_eq_false_iff_ne.mpr c10
     have c10b1 : ((t502.length : Int) != (l0.length : Int)) = true := bne_iff_ne.mpr c10
     have c10b2 : (t502.length == l0.length) = false := by first | simpa using c10 | (simp at c10 ⊢; omega)
     obtain rfl := Option.some.inj H
     go_wp2_with (first | ((with_reducible refine gate_callee (f := 41) rfl ?_); refine goesL_ (some 17) rfl rfl Try.func41 (by kernel_rfl) rfl #[.slice A0 l0.length c0] rfl byL ?_; (with_reducible refine (order_Ranks.calls kj1 _ _ l0 t502 _ ?side1 ?side2 A9.out).mono ?_); (case side1 => exact byC (Kd.C_below HR0.out HB.out)); (case side2 => exact HC0.out); rintro e w29 ⟨v503, rfl, ho0, hb⟩; refine ⟨_, rfl, ?_⟩; have n0_ := Aside0.mk (Kd.R_lower ho0 (below_size (byB HB.out))); have n1_ := Aside0.mk (below_step (byB HB.out) hb); clear HB; have HO504 := n0_; have HB := n1_; clear n0_ n1_; (try clear hb); (try clear hb2); (try clear hk); (try clear hi); (try clear ho0); obtain ⟨Ao30, co30, eo30⟩ := Kd.R_slice HO504.out; subst eo30))
     go_ret
     exact ⟨by first | rfl | (simp [errW_none, errW_some] <;> rfl) | (simp [*, errW_none, errW_some] <;> rfl), by repeat (first | (with_reducible first | exact HB.out | apply below_alloc | apply pw_below_drewN | apply below_drew1) | exact HB.out)⟩

def mapmakerlaw39_OrderPositions.Pure : Prop := ∀ (l0 : List Int), (l0.length * 8 ≤ 140737488351232 ∧ ∀ y ∈ l0, Wf .i64 y) → ∃ k, mapmakerlaw39_OrderPositions.f k l0 = some true

end Go.Proofs.Ytnnknbghfbjcnaa.Print
