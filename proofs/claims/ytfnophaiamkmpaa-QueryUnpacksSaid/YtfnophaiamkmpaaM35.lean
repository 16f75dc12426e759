/- Several texts of this claim in one: F20, HQCost. -/
import Derived.Test.YtfnophaiamkmpaaPrint0
import Derived.Test.YtfnophaiamkmpaaM19
import Derived.Test.YtfnophaiamkmpaaM0
import Derived.Test.YtfnophaiamkmpaaM28
namespace Go.Proofs.Ytfnophaiamkmpaa.Print
open Go.RowKit Go.Proofs.YtfnophaiamkmpaaW.PrintWords Go.Proofs.YtfnophaiamkmpaaW.PrintLast Go.Proofs.YtfnophaiamkmpaaW.PrintMore
attribute [local go_sem] max2_int min2_int max_two min_two max_three min_three max_four min_four   -- for this text's walks alone
set_option linter.unusedVariables false
set_option linter.unusedSimpArgs false
/-! ### mapmakerref38_Cost: function 20 -/
mutual
def mapmakerref38_Cost.j0 : Nat → List Int → Int → Int → List Int → Bool → Int → List (S58) → Option (Int × Bool)
 | 0, _, _, _, _, _, _, _ => none
 | k + 1, x1, x2, x3, x4, x38, x138000, x138001 => if x38 = true then (some (0, false)) else (mapmakerref38_Cost.l0 k x1 x2 x3 x4 0 0 x138000 x138001)
def mapmakerref38_Cost.l0 : Nat → List Int → Int → Int → List Int → Int → Int → Int → List (S58) → Option (Int × Bool)
 | 0, _, _, _, _, _, _, _, _ => none
 | k + 1, x1, x2, x3, x4, x12, x13, x138000, x138001 => if x13 < (x4.length : Int) then (if 0 ≤ x13 then (if (rd x4 x13) < 0 then (some (0, false)) else (if (rd x4 x13) ≥ (x138001.length : Int) then (some (0, false)) else (if 0 ≤ (rd x4 x13) then (if (rd x4 x13) < (x1.length : Int) then (if (rd x1 (rd x4 x13)) < 0 then (some (0, false)) else (if (rd x4 x13) < (x138001.length : Int) then (if ((rd_T58 x138001 (rd x4 x13)).f0) = x2 then (mapmakerref38_Cost.l0 k x1 ((rd_T58 x138001 (rd x4 x13)).f1) x3 x4 (wrap64 (x12 + (rd x1 (rd x4 x13)))) (wrap64 (x13 + 1)) x138000 x138001) else (some (0, false))) else (none))) else (none)) else (none)))) else (none)) else (if x2 = x3 then (some (x12, true)) else (some (0, false)))
end
def mapmakerref38_Cost.f (k : Nat) (a0_0 : Int) (l0_1 : List (S58)) (l1 : List Int) (a2 : Int) (a3 : Int) (l4 : List Int) : Option (Int × Bool) := (mapmakerref38_Check.f k a0_0 l0_1 l1).bind fun t138 => (if t138 = 0 then (if a2 < 0 then (mapmakerref38_Cost.j0 k l1 a2 a3 l4 true a0_0 l0_1) else (if a2 ≥ a0_0 then (mapmakerref38_Cost.j0 k l1 a2 a3 l4 true a0_0 l0_1) else (if a3 < 0 then (mapmakerref38_Cost.j0 k l1 a2 a3 l4 true a0_0 l0_1) else (mapmakerref38_Cost.j0 k l1 a2 a3 l4 (decide (a3 ≥ a0_0)) a0_0 l0_1)))) else (mapmakerref38_Cost.j0 k l1 a2 a3 l4 true a0_0 l0_1))
set_option maxHeartbeats 8000000 in
set_option maxRecDepth 100000 in
theorem mapmakerref38_Cost.calls (k : Nat) (a0_0 : Int) (A0_1 : Option Addr) (c0_1 : Nat) (l0_1 : List (S58)) (A1 : Option Addr) (c1 : Nat) (l1 : List Int) (a2 : Int) (a3 : Int) (A4 : Option Addr) (c4 : Nat) (l4 : List Int) (r1 : Int) (r2 : Bool) (w : World) (hr0_1 : Kd.C k58 w A0_1 l0_1.length l0_1) (hc0_1 : l0_1.length ≤ c0_1) (hr1 : Kd.C (Kd.int .i64) w A1 l1.length l1) (hc1 : l1.length ≤ c1) (hr4 : Kd.C (Kd.int .i64) w A4 l4.length l4) (hc4 : l4.length ≤ c4) (h : mapmakerref38_Cost.f k a0_0 l0_1 l1 a2 a3 l4 = some (r1, r2)) :
  Calls Try.prog 20 #[.agg #[.int .i64 a0_0, .slice A0_1 l0_1.length c0_1], .slice A1 l1.length c1, .int .i64 a2, .int .i64 a3, .slice A4 l4.length c4] w fun e w' => e = .returned (.tuple #[.int .i64 r1, .bool r2]) ∧ Below w.heap.size w w' := by
 have hu24 := Try.underlying24; have HR0_1 := Aside0.mk hr0_1; have HC0_1 := Aside0.mk hc0_1; clear hr0_1 hc0_1; have HR1 := Aside0.mk hr1; have HC1 := Aside0.mk hc1; clear hr1 hc1; have HR4 := Aside0.mk hr4; have HC4 := Aside0.mk hc4; clear hr4 hc4; have HB := Aside0.mk (Below.refl w.heap.size w)
 have H : ((mapmakerref38_Check.f k a0_0 l0_1 l1).bind fun t138 => (if t138 = 0 then (if a2 < 0 then (mapmakerref38_Cost.j0 k l1 a2 a3 l4 true a0_0 l0_1) else (if a2 ≥ a0_0 then (mapmakerref38_Cost.j0 k l1 a2 a3 l4 true a0_0 l0_1) else (if a3 < 0 then (mapmakerref38_Cost.j0 k l1 a2 a3 l4 true a0_0 l0_1) else (mapmakerref38_Cost.j0 k l1 a2 a3 l4 (decide (a3 ≥ a0_0)) a0_0 l0_1)))) else (mapmakerref38_Cost.j0 k l1 a2 a3 l4 true a0_0 l0_1))) = some (r1, r2) := h
 clear h; have HC6 := Aside0.mk H; clear H
 go_enter Try.func20, Try.ntmps20
 go_upto_region 1 with (first | ((with_reducible refine gate_dst (N := 5) rfl ?_); (try (refine gate_guard (by rfl) ?_; dsimp only)); refine box_event ?hg (N := 5) ?hd (cs := #[.int .i64 a0_0, .slice A0_1 l0_1.length c0_1]) (t := 24) ?hr ?_; (case hd => rfl); (case hg => rfl); (case hr => first | (go_simp; done) | (go_simp; rfl)); intro gb137 hg w7 hbox hb; have n0_ := Aside0.mk (below_step (byB HB.out) hb); have n1_ := Aside0.mk (hbox); have n2_ := Aside0.mk ((by rw [hg]; exact (below_size (byB HB.out)) : w.heap.size ≤ gb137)); have n3_ := Aside0.mk ((by rw [hg]; exact (below_size (byB HB.out)) : w.heap.size ≤ gb137)); clear HB; have HB := n0_; have BK137 := n1_; have GW137 := n2_; have GE137 := n3_; clear n0_ n1_ n2_ n3_ hb hbox hg))
 (try simp only [Act.put, List.setIfInBounds_toArray, List.set_cons_zero, List.set_cons_succ])
 go_cut [38] (fun v38 wc => ∃ (kq : Nat) (x38_5 : Bool), v38 = .bool x38_5 ∧ Aside0 (mapmakerref38_Cost.j0 kq l1 a2 a3 l4 x38_5 a0_0 l0_1 = some (r1, r2)) ∧ Aside0 (kq ≤ k) ∧ Aside0 (wc.heap[gb137]? = some (.cells #[.int .i64 a0_0, (.slice A0_1 l0_1.length c0_1)] 24 (0, 0))) ∧ Aside0 (Below w.heap.size w wc))
 case first =>
  have H := HC6.out; clear HC6
  replace H := Option.bind_eq_some_iff.mp H
  obtain ⟨t138, A80, H⟩ := H
  replace H : (if t138 = 0 then (if a2 < 0 then (mapmakerref38_Cost.j0 k l1 a2 a3 l4 true a0_0 l0_1) else (if a2 ≥ a0_0 then (mapmakerref38_Cost.j0 k l1 a2 a3 l4 true a0_0 l0_1) else (if a3 < 0 then (mapmakerref38_Cost.j0 k l1 a2 a3 l4 true a0_0 l0_1) else (mapmakerref38_Cost.j0 k l1 a2 a3 l4 (decide (a3 ≥ a0_0)) a0_0 l0_1)))) else (mapmakerref38_Cost.j0 k l1 a2 a3 l4 true a0_0 l0_1)) = some (r1, r2) := H
  have A8 := Aside0.mk A80; clear A80
  by_cases c9 : t138 = 0
  ·rw [if_pos c9] at H
   have c9b0 : (t138 == 0) = true := beq_iff_eq.mpr c9
   have c9b1 : (t138 != 0) = false := bne_eq_false_iff_eq.mpr c9
   clear c9
   (first | rw [c9b0] | (simp only [i64_w, i32_w]; rw [c9b0]) | skip)
   by_cases c10 : a2 < 0
   ·rw [if_pos c10] at H
    have c10b0 : decide (a2 < 0) = true := decide_eq_true c10
    clear c10
    have H' := Aside0.mk H
    clear H
    have hcz11_0 : w7.cell? ⟨gb137, 0, none⟩ = some (.int .i64 a0_0) := (blk_cell BK137.out 0).trans rfl
    have hcz11_1 : w7.cell? ⟨gb137, 1, none⟩ = some (.slice A0_1 l0_1.length c0_1) := (blk_cell BK137.out 1).trans rfl
    have hfz11_0 := blk_frozen BK137.out 0; have hfz11_1 := blk_frozen BK137.out 1
    go_wp2_with (first | ((with_reducible refine gate_callee (f := 30) rfl ?_); refine goesL_ (some 17) rfl rfl Try.func30 (by kernel_rfl) rfl #[.agg #[.int .i64 a0_0, .slice A0_1 l0_1.length c0_1], .slice A1 l1.length c1] rfl byL ?_; (with_reducible refine (mapmakerref38_Check.calls k a0_0 _ _ l0_1 _ _ l1 t138 _ ?side1 ?side2 ?side3 ?side4 A8.out).mono ?_); (case side1 => exact byC (Kd.C_below HR0_1.out HB.out)); (case side2 => exact HC0_1.out); (case side3 => exact byC (Kd.C_below HR1.out HB.out)); (case side4 => exact HC1.out); rintro e w12 ⟨rfl, hb⟩; refine ⟨_, rfl, ?_⟩; have n0_ := Aside0.mk (blk_below (g := gb137) (o := .cells #[.int .i64 a0_0, .slice A0_1 l0_1.length c0_1] 24 (0, 0)) (byK BK137.out) hb); have n1_ := Aside0.mk (below_step (byB1 HB.out GE137.out) hb); clear BK137 HB; have BK137 := n0_; have HB := n1_; clear n0_ n1_; (try clear hb); (try clear hb2); (try clear hk); (try clear hi)))
    go_meet
    case rel => exact ⟨_, (true), byF, H', ⟨by first | omega | exact Nat.le_refl _⟩, ⟨by (with_reducible repeat (first | refine blk_drewN ?_ _ | refine blk_drew ?_ | refine blk_alloc ?_ _)); exact BK137.out⟩, ⟨byB1 HB.out GE137.out⟩⟩
   ·rw [if_neg c10] at H
    have c10b0 : decide (a2 < 0) = false := decide_eq_false c10
    clear c10
    by_cases c13 : a2 ≥ a0_0
    ·rw [if_pos c13] at H
     have c13b0 : decide (a0_0 ≤ a2) = true := decide_eq_true c13
     clear c13
     have H' := Aside0.mk H
     clear H
     have hcz14_0 : w7.cell? ⟨gb137, 0, none⟩ = some (.int .i64 a0_0) := (blk_cell BK137.out 0).trans rfl
     have hcz14_1 : w7.cell? ⟨gb137, 1, none⟩ = some (.slice A0_1 l0_1.length c0_1) := (blk_cell BK137.out 1).trans rfl
     have hfz14_0 := blk_frozen BK137.out 0; have hfz14_1 := blk_frozen BK137.out 1
     go_wp2_with (first | ((with_reducible refine gate_callee (f := 30) rfl ?_); refine goesL_ (some 17) rfl rfl Try.func30 (by kernel_rfl) rfl #[.agg #[.int .i64 a0_0, .slice A0_1 l0_1.length c0_1], .slice A1 l1.length c1] rfl byL ?_; (with_reducible refine (mapmakerref38_Check.calls k a0_0 _ _ l0_1 _ _ l1 t138 _ ?side1 ?side2 ?side3 ?side4 A8.out).mono ?_); (case side1 => exact byC (Kd.C_below HR0_1.out HB.out)); (case side2 => exact HC0_1.out); (case side3 => exact byC (Kd.C_below HR1.out HB.out)); (case side4 => exact HC1.out); rintro e w15 ⟨rfl, hb⟩; refine ⟨_, rfl, ?_⟩; have n0_ := Aside0.mk (blk_below (g := gb137) (o := .cells #[.int .i64 a0_0, .slice A0_1 l0_1.length c0_1] 24 (0, 0)) (byK BK137.out) hb); have n1_ := Aside0.mk (below_step (byB1 HB.out GE137.out) hb); clear BK137 HB; have BK137 := n0_; have HB := n1_; clear n0_ n1_; (try clear hb); (try clear hb2); (try clear hk); (try clear hi); have hcz16_0 : w15.cell? ⟨gb137, 0, none⟩ = some (.int .i64 a0_0) := (blk_cell BK137.out 0).trans rfl; have hcz16_1 : w15.cell? ⟨gb137, 1, none⟩ = some (.slice A0_1 l0_1.length c0_1) := (blk_cell BK137.out 1).trans rfl; have hfz16_0 := blk_frozen BK137.out 0; have hfz16_1 := blk_frozen BK137.out 1))
     go_meet
     case rel => exact ⟨_, (true), byF, H', ⟨by first | omega | exact Nat.le_refl _⟩, ⟨by (with_reducible repeat (first | refine blk_drewN ?_ _ | refine blk_drew ?_ | refine blk_alloc ?_ _)); exact BK137.out⟩, ⟨byB1 HB.out GE137.out⟩⟩
    ·rw [if_neg c13] at H
     have c13b0 : decide (a0_0 ≤ a2) = false := decide_eq_false c13
     clear c13
     by_cases c17 : a3 < 0
     ·rw [if_pos c17] at H
      have c17b0 : decide (a3 < 0) = true := decide_eq_true c17
      clear c17
      have H' := Aside0.mk H
      clear H
      have hcz18_0 : w7.cell? ⟨gb137, 0, none⟩ = some (.int .i64 a0_0) := (blk_cell BK137.out 0).trans rfl
      have hcz18_1 : w7.cell? ⟨gb137, 1, none⟩ = some (.slice A0_1 l0_1.length c0_1) := (blk_cell BK137.out 1).trans rfl
      have hfz18_0 := blk_frozen BK137.out 0; have hfz18_1 := blk_frozen BK137.out 1
      go_wp2_with (first | ((with_reducible refine gate_callee (f := 30) rfl ?_); refine goesL_ (some 17) rfl rfl Try.func30 (by kernel_rfl) rfl #[.agg #[.int .i64 a0_0, .slice A0_1 l0_1.length c0_1], .slice A1 l1.length c1] rfl byL ?_; (with_reducible refine (mapmakerref38_Check.calls k a0_0 _ _ l0_1 _ _ l1 t138 _ ?side1 ?side2 ?side3 ?side4 A8.out).mono ?_); (case side1 => exact byC (Kd.C_below HR0_1.out HB.out)); (case side2 => exact HC0_1.out); (case side3 => exact byC (Kd.C_below HR1.out HB.out)); (case side4 => exact HC1.out); rintro e w19 ⟨rfl, hb⟩; refine ⟨_, rfl, ?_⟩; have n0_ := Aside0.mk (blk_below (g := gb137) (o := .cells #[.int .i64 a0_0, .slice A0_1 l0_1.length c0_1] 24 (0, 0)) (byK BK137.out) hb); have n1_ := Aside0.mk (below_step (byB1 HB.out GE137.out) hb); clear BK137 HB; have BK137 := n0_; have HB := n1_; clear n0_ n1_; (try clear hb); (try clear hb2); (try clear hk); (try clear hi); have hcz20_0 : w19.cell? ⟨gb137, 0, none⟩ = some (.int .i64 a0_0) := (blk_cell BK137.out 0).trans rfl; have hcz20_1 : w19.cell? ⟨gb137, 1, none⟩ = some (.slice A0_1 l0_1.length c0_1) := (blk_cell BK137.out 1).trans rfl; have hfz20_0 := blk_frozen BK137.out 0; have hfz20_1 := blk_frozen BK137.out 1))
      go_meet
      case rel => exact ⟨_, (true), byF, H', ⟨by first | omega | exact Nat.le_refl _⟩, ⟨by (with_reducible repeat (first | refine blk_drewN ?_ _ | refine blk_drew ?_ | refine blk_alloc ?_ _)); exact BK137.out⟩, ⟨byB1 HB.out GE137.out⟩⟩
     ·rw [if_neg c17] at H
      have c17b0 : decide (a3 < 0) = false := decide_eq_false c17
      clear c17
      have H' := Aside0.mk H
      clear H
      have hcz21_0 : w7.cell? ⟨gb137, 0, none⟩ = some (.int .i64 a0_0) := (blk_cell BK137.out 0).trans rfl
      have hcz21_1 : w7.cell? ⟨gb137, 1, none⟩ = some (.slice A0_1 l0_1.length c0_1) := (blk_cell BK137.out 1).trans rfl
      have hfz21_0 := blk_frozen BK137.out 0; have hfz21_1 := blk_frozen BK137.out 1
      go_wp2_with (first | ((with_reducible refine gate_callee (f := 30) rfl ?_); refine goesL_ (some 17) rfl rfl Try.func30 (by kernel_rfl) rfl #[.agg #[.int .i64 a0_0, .slice A0_1 l0_1.length c0_1], .slice A1 l1.length c1] rfl byL ?_; (with_reducible refine (mapmakerref38_Check.calls k a0_0 _ _ l0_1 _ _ l1 t138 _ ?side1 ?side2 ?side3 ?side4 A8.out).mono ?_); (case side1 => exact byC (Kd.C_below HR0_1.out HB.out)); (case side2 => exact HC0_1.out); (case side3 => exact byC (Kd.C_below HR1.out HB.out)); (case side4 => exact HC1.out); rintro e w22 ⟨rfl, hb⟩; refine ⟨_, rfl, ?_⟩; have n0_ := Aside0.mk (blk_below (g := gb137) (o := .cells #[.int .i64 a0_0, .slice A0_1 l0_1.length c0_1] 24 (0, 0)) (byK BK137.out) hb); have n1_ := Aside0.mk (below_step (byB1 HB.out GE137.out) hb); clear BK137 HB; have BK137 := n0_; have HB := n1_; clear n0_ n1_; (try clear hb); (try clear hb2); (try clear hk); (try clear hi); have hcz23_0 : w22.cell? ⟨gb137, 0, none⟩ = some (.int .i64 a0_0) := (blk_cell BK137.out 0).trans rfl; have hcz23_1 : w22.cell? ⟨gb137, 1, none⟩ = some (.slice A0_1 l0_1.length c0_1) := (blk_cell BK137.out 1).trans rfl; have hfz23_0 := blk_frozen BK137.out 0; have hfz23_1 := blk_frozen BK137.out 1))
      go_meet
      case rel => exact ⟨_, (decide (a3 ≥ a0_0)), byF, H', ⟨by first | omega | exact Nat.le_refl _⟩, ⟨by (with_reducible repeat (first | refine blk_drewN ?_ _ | refine blk_drew ?_ | refine blk_alloc ?_ _)); exact BK137.out⟩, ⟨byB1 HB.out GE137.out⟩⟩
  ·rw [if_neg c9] at H
   have c9b0 : (t138 == 0) = false := beq_eq_false_iff_ne.mpr c9
   have c9b1 : (t138 != 0) = true := bne_iff_ne.mpr c9
   (first | rw [c9b0] | (simp only [i64_w, i32_w]; rw [c9b0]) | skip)
   have H' := Aside0.mk H
   clear H
   have hcz24_0 : w7.cell? ⟨gb137, 0, none⟩ = some (.int .i64 a0_0) := (blk_cell BK137.out 0).trans rfl
   have hcz24_1 : w7.cell? ⟨gb137, 1, none⟩ = some (.slice A0_1 l0_1.length c0_1) := (blk_cell BK137.out 1).trans rfl
   have hfz24_0 := blk_frozen BK137.out 0; have hfz24_1 := blk_frozen BK137.out 1
   go_wp2_with (first | ((with_reducible refine gate_callee (f := 30) rfl ?_); refine goesL_ (some 17) rfl rfl Try.func30 (by kernel_rfl) rfl #[.agg #[.int .i64 a0_0, .slice A0_1 l0_1.length c0_1], .slice A1 l1.length c1] rfl byL ?_; (with_reducible refine (mapmakerref38_Check.calls k a0_0 _ _ l0_1 _ _ l1 t138 _ ?side1 ?side2 ?side3 ?side4 A8.out).mono ?_); (case side1 => exact byC (Kd.C_below HR0_1.out HB.out)); (case side2 => exact HC0_1.out); (case side3 => exact byC (Kd.C_below HR1.out HB.out)); (case side4 => exact HC1.out); rintro e w25 ⟨rfl, hb⟩; refine ⟨_, rfl, ?_⟩; have n0_ := Aside0.mk (blk_below (g := gb137) (o := .cells #[.int .i64 a0_0, .slice A0_1 l0_1.length c0_1] 24 (0, 0)) (byK BK137.out) hb); have n1_ := Aside0.mk (below_step (byB1 HB.out GE137.out) hb); clear BK137 HB; have BK137 := n0_; have HB := n1_; clear n0_ n1_; (try clear hb); (try clear hb2); (try clear hk); (try clear hi)))
   go_meet
   case rel => exact ⟨_, (true), byF, H', ⟨by first | omega | exact Nat.le_refl _⟩, ⟨by (with_reducible repeat (first | refine blk_drewN ?_ _ | refine blk_drew ?_ | refine blk_alloc ?_ _)); exact BK137.out⟩, ⟨byB1 HB.out GE137.out⟩⟩
 case rest =>
  clear HC6
  try clear c1
  try clear c2
  try clear p2
  try clear c3
  try clear c4
  try clear c9
  try clear c9b0
  try clear c9b1
  try clear c10
  try clear c10b0
  try clear c13
  try clear c13b0
  try clear c17
  try clear c17b0
  try clear c20
  try clear hcz11_0
  try clear hcz11_1
  try clear hcz14_0
  try clear hcz14_1
  try clear hcz16_0
  try clear hcz16_1
  try clear hcz18_0
  try clear hcz18_1
  try clear hcz20_0
  try clear hcz20_1
  try clear hcz21_0
  try clear hcz21_1
  try clear hcz23_0
  try clear hcz23_1
  try clear hcz24_0
  try clear hcz24_1
  try clear hfz11_0
  try clear hfz11_1
  try clear hfz14_0
  try clear hfz14_1
  try clear hfz16_0
  try clear hfz16_1
  try clear hfz18_0
  try clear hfz18_1
  try clear hfz20_0
  try clear hfz20_1
  try clear hfz21_0
  try clear hfz21_1
  try clear hfz23_0
  try clear hfz23_1
  try clear hfz24_0
  try clear hfz24_1
  obtain ⟨kq, x38_5, rfl, HA, HJ5, BK137, HB⟩ := hcut
  cases kq with
  | zero => exact absurd HA.out (by simp [mapmakerref38_Cost.j0])
  | succ kj5 =>
   have H := HA.out; clear HA
   simp only [mapmakerref38_Cost.j0] at H
   by_cases c26 : x38_5 = true
   ·subst c26
    have H1 : (some (0, false)) = some (r1, r2) := by rw [if_pos rfl] at H; exact H
    clear H; have H := H1; clear H1
    simp only [Option.some.injEq, Prod.mk.injEq] at H
    obtain ⟨rfl, rfl⟩ := H
    go_wp2
    go_ret2
    exact ⟨byE, byB1 HB.out GE137.out⟩
   ·replace c26 := Bool.eq_false_iff.mpr c26
    subst c26
    have H1 : (mapmakerref38_Cost.l0 kj5 l1 a2 a3 l4 0 0 a0_0 l0_1) = some (r1, r2) := by rw [if_neg (show ¬ (false = true) by decide)] at H; exact H
    clear H; have H := H1; clear H1
    have H' := Aside0.mk H
    clear H
    go_wp2
    go_loopg [2, 12, 13] kj5 (fun kq v2 v12 v13 w' => ∃ (x2_2 : Int) (x12_2 : Int) (x13_2 : Int), v2 = .int .i64 x2_2 ∧ v12 = .int .i64 x12_2 ∧ v13 = .int .i64 x13_2 ∧ Aside0 (mapmakerref38_Cost.l0 kq l1 x2_2 a3 l4 x12_2 x13_2 a0_0 l0_1 = some (r1, r2)) ∧ Aside0 (kq ≤ kj5) ∧ Aside0 (w'.heap[gb137]? = some (.cells #[.int .i64 a0_0, (.slice A0_1 l0_1.length c0_1)] 24 (0, 0))) ∧ Aside0 (Below w.heap.size w w'))
    case atStart => exact ⟨(a2), (0), (0), byF, byF, byF, H', ⟨Nat.le_refl _⟩, ⟨by (with_reducible repeat (first | refine blk_drewN ?_ _ | refine blk_drew ?_ | refine blk_alloc ?_ _)); exact BK137.out⟩, ⟨byB1 HB.out GE137.out⟩⟩
    case round =>
     clear H'
     try clear c1
     try clear c2
     try clear p2
     try clear c3
     try clear c4
     try clear c9
     try clear c9b0
     try clear c9b1
     try clear c10
     try clear c10b0
     try clear c13
     try clear c13b0
     try clear c17
     try clear c17b0
     try clear c20
     try clear c26
     try clear hcz11_0
     try clear hcz11_1
     try clear hcz14_0
     try clear hcz14_1
     try clear hcz16_0
     try clear hcz16_1
     try clear hcz18_0
     try clear hcz18_1
     try clear hcz20_0
     try clear hcz20_1
     try clear hcz21_0
     try clear hcz21_1
     try clear hcz23_0
     try clear hcz23_1
     try clear hcz24_0
     try clear hcz24_1
     try clear hfz11_0
     try clear hfz11_1
     try clear hfz14_0
     try clear hfz14_1
     try clear hfz16_0
     try clear hfz16_1
     try clear hfz18_0
     try clear hfz18_1
     try clear hfz20_0
     try clear hfz20_1
     try clear hfz21_0
     try clear hfz21_1
     try clear hfz23_0
     try clear hfz23_1
     try clear hfz24_0
     try clear hfz24_1
     try clear p2
     obtain ⟨x2_2, x12_2, x13_2, rfl, rfl, rfl, HA, HK2, BK137, HB⟩ := hrel
     cases gk with
     | zero => exact absurd HA.out (by simp [mapmakerref38_Cost.l0])
     | succ k2 =>
      have H := HA.out; clear HA
      simp only [mapmakerref38_Cost.l0] at H
      by_cases c27 : x13_2 < (l4.length : Int)
      ·rw [if_pos c27] at H
       have c27b0 : decide (x13_2 < (l4.length : Int)) = true := decide_eq_true c27
       clear c27
       by_cases c28 : 0 ≤ x13_2
       ·rw [if_pos c28] at H
        have c28b0 : decide (0 ≤ x13_2) = true := decide_eq_true c28
        clear c28
        by_cases c29 : (rd l4 x13_2) < 0
        ·rw [if_pos c29] at H
         have c29b0 : decide ((rd l4 x13_2) < 0) = true := decide_eq_true c29
         clear c29
         simp only [Option.some.injEq, Prod.mk.injEq] at H
         obtain ⟨rfl, rfl⟩ := H
         have p139 : 0 ≤ (x13_2 : Int) := odt
         have q139 : x13_2 < (l4.length : Int) := odt
         obtain ⟨ad139, e139, hx139_0⟩ := Kd.at_int HR4.out x13_2 p139 q139
         cases e139
         replace hx139_0 := (HB.out.cell (World.block_lt_of_cell? w _ hx139_0)).trans hx139_0
         replace p139 := eq_true p139; replace q139 := eq_true q139
         go_wp2
         go_ret2
         exact ⟨byE, byB1 HB.out GE137.out⟩
        ·rw [if_neg c29] at H
         have c29b0 : decide ((rd l4 x13_2) < 0) = false := decide_eq_false c29
         clear c29
         by_cases c30 : (rd l4 x13_2) ≥ (l0_1.length : Int)
         ·rw [if_pos c30] at H
          have c30b0 : decide ((l0_1.length : Int) ≤ (rd l4 x13_2)) = true := decide_eq_true c30
          clear c30
          simp only [Option.some.injEq, Prod.mk.injEq] at H
          obtain ⟨rfl, rfl⟩ := H
          have p139 : 0 ≤ (x13_2 : Int) := odt
          have q139 : x13_2 < (l4.length : Int) := odt
          obtain ⟨ad139, e139, hx139_0⟩ := Kd.at_int HR4.out x13_2 p139 q139
          cases e139
          replace hx139_0 := (HB.out.cell (World.block_lt_of_cell? w _ hx139_0)).trans hx139_0
          replace p139 := eq_true p139; replace q139 := eq_true q139
          have hcz31_0 : wr.cell? ⟨gb137, 0, none⟩ = some (.int .i64 a0_0) := (blk_cell BK137.out 0).trans rfl
          have hcz31_1 : wr.cell? ⟨gb137, 1, none⟩ = some (.slice A0_1 l0_1.length c0_1) := (blk_cell BK137.out 1).trans rfl
          have hfz31_0 := blk_frozen BK137.out 0; have hfz31_1 := blk_frozen BK137.out 1
          go_wp2
          go_ret2
          exact ⟨byE, byB1 HB.out GE137.out⟩
         ·rw [if_neg c30] at H
          have c30b0 : decide ((l0_1.length : Int) ≤ (rd l4 x13_2)) = false := decide_eq_false c30
          clear c30
          by_cases c32 : 0 ≤ (rd l4 x13_2)
          ·rw [if_pos c32] at H
           have c32b0 : decide (0 ≤ (rd l4 x13_2)) = true := decide_eq_true c32
           clear c32
           by_cases c33 : (rd l4 x13_2) < (l1.length : Int)
           ·rw [if_pos c33] at H
            have c33b0 : decide ((rd l4 x13_2) < (l1.length : Int)) = true := decide_eq_true c33
            clear c33
            by_cases c34 : (rd l1 (rd l4 x13_2)) < 0
            ·rw [if_pos c34] at H
             have c34b0 : decide ((rd l1 (rd l4 x13_2)) < 0) = true := decide_eq_true c34
             clear c34
             simp only [Option.some.injEq, Prod.mk.injEq] at H
             obtain ⟨rfl, rfl⟩ := H
             have p139 : 0 ≤ (x13_2 : Int) := odt
             have q139 : x13_2 < (l4.length : Int) := odt
             obtain ⟨ad139, e139, hx139_0⟩ := Kd.at_int HR4.out x13_2 p139 q139
             cases e139
             replace hx139_0 := (HB.out.cell (World.block_lt_of_cell? w _ hx139_0)).trans hx139_0
             replace p139 := eq_true p139; replace q139 := eq_true q139
             have hcz35_0 : wr.cell? ⟨gb137, 0, none⟩ = some (.int .i64 a0_0) := (blk_cell BK137.out 0).trans rfl
             have hcz35_1 : wr.cell? ⟨gb137, 1, none⟩ = some (.slice A0_1 l0_1.length c0_1) := (blk_cell BK137.out 1).trans rfl
             have hfz35_0 := blk_frozen BK137.out 0; have hfz35_1 := blk_frozen BK137.out 1
             have p140 : 0 ≤ ((rd l4 x13_2) : Int) := odt
             have q140 : (rd l4 x13_2) < (l1.length : Int) := odt
             obtain ⟨ad140, e140, hx140_0⟩ := Kd.at_int HR1.out (rd l4 x13_2) p140 q140
             cases e140
             replace hx140_0 := (HB.out.cell (World.block_lt_of_cell? w _ hx140_0)).trans hx140_0
             replace p140 := eq_true p140; replace q140 := eq_true q140
             go_wp2
             go_ret2
             exact ⟨byE, byB1 HB.out GE137.out⟩
            ·rw [if_neg c34] at H
             have c34b0 : decide ((rd l1 (rd l4 x13_2)) < 0) = false := decide_eq_false c34
             clear c34
             by_cases c36 : (rd l4 x13_2) < (l0_1.length : Int)
             ·rw [if_pos c36] at H
              have c36b0 : decide ((rd l4 x13_2) < (l0_1.length : Int)) = true := decide_eq_true c36
              clear c36
              by_cases c37 : ((rd_T58 l0_1 (rd l4 x13_2)).f0) = x2_2
              ·rw [if_pos c37] at H
               have c37b0 : (((rd_T58 l0_1 (rd l4 x13_2)).f0) == x2_2) = true := beq_iff_eq.mpr c37
               have c37b1 : (((rd_T58 l0_1 (rd l4 x13_2)).f0) != x2_2) = false := bne_eq_false_iff_eq.mpr c37
               clear c37
               have H' := Aside0.mk H
               clear H
               have p139 : 0 ≤ (x13_2 : Int) := odt
               have q139 : x13_2 < (l4.length : Int) := odt
               obtain ⟨ad139, e139, hx139_0⟩ := Kd.at_int HR4.out x13_2 p139 q139
               cases e139
               replace hx139_0 := (HB.out.cell (World.block_lt_of_cell? w _ hx139_0)).trans hx139_0
               replace p139 := eq_true p139; replace q139 := eq_true q139
               have hcz38_0 : wr.cell? ⟨gb137, 0, none⟩ = some (.int .i64 a0_0) := (blk_cell BK137.out 0).trans rfl
               have hcz38_1 : wr.cell? ⟨gb137, 1, none⟩ = some (.slice A0_1 l0_1.length c0_1) := (blk_cell BK137.out 1).trans rfl
               have hfz38_0 := blk_frozen BK137.out 0; have hfz38_1 := blk_frozen BK137.out 1
               have p140 : 0 ≤ ((rd l4 x13_2) : Int) := odt
               have q140 : (rd l4 x13_2) < (l1.length : Int) := odt
               obtain ⟨ad140, e140, hx140_0⟩ := Kd.at_int HR1.out (rd l4 x13_2) p140 q140
               cases e140
               replace hx140_0 := (HB.out.cell (World.block_lt_of_cell? w _ hx140_0)).trans hx140_0
               replace p140 := eq_true p140; replace q140 := eq_true q140
               have p141 : 0 ≤ ((rd l4 x13_2) : Int) := odt
               have q141 : (rd l4 x13_2) < (l0_1.length : Int) := odt
               obtain ⟨ad141, e141, hx141_0, hx141_1⟩ := at_T58 HR0_1.out (rd l4 x13_2) p141 q141
               cases e141
               replace hx141_0 := (HB.out.cell (World.block_lt_of_cell? w _ hx141_0)).trans hx141_0
               replace hx141_1 := (HB.out.cell (World.block_lt_of_cell? w _ hx141_1)).trans hx141_1
               replace p141 := eq_true p141; replace q141 := eq_true q141
               have p142 : 0 ≤ ((rd l4 x13_2) : Int) := odt
               have q142 : (rd l4 x13_2) < (l1.length : Int) := odt
               obtain ⟨ad142, e142, hx142_0⟩ := Kd.at_int HR1.out (rd l4 x13_2) p142 q142
               obtain rfl : ad140 = ad142 := (by injection e142)
               replace hx142_0 := (HB.out.cell (World.block_lt_of_cell? w _ hx142_0)).trans hx142_0
               replace p142 := eq_true p142; replace q142 := eq_true q142
               have p143 : 0 ≤ ((rd l4 x13_2) : Int) := odt
               have q143 : (rd l4 x13_2) < (l0_1.length : Int) := odt
               obtain ⟨ad143, e143, hx143_0, hx143_1⟩ := at_T58 HR0_1.out (rd l4 x13_2) p143 q143
               obtain rfl : ad141 = ad143 := (by injection e143)
               replace hx143_0 := (HB.out.cell (World.block_lt_of_cell? w _ hx143_0)).trans hx143_0
               replace hx143_1 := (HB.out.cell (World.block_lt_of_cell? w _ hx143_1)).trans hx143_1
               replace p143 := eq_true p143; replace q143 := eq_true q143
               go_wp2
               go_roundg k2
               case measure => have := HJ5.out; have := HK2.out; omega
               case rel => exact ⟨((rd_T58 l0_1 (rd l4 x13_2)).f1), (wrap64 (x12_2 + (rd l1 (rd l4 x13_2)))), (wrap64 (x13_2 + 1)), byF, byF, byF, H', ⟨by have := HJ5.out; have := HK2.out; omega⟩, ⟨by (with_reducible repeat (first | refine blk_drewN ?_ _ | refine blk_drew ?_ | refine blk_alloc ?_ _)); exact BK137.out⟩, ⟨byB1 HB.out GE137.out⟩⟩
              ·rw [if_neg c37] at H
               have c37b0 : (((rd_T58 l0_1 (rd l4 x13_2)).f0) == x2_2) = false := beq_eq_false_iff_ne.mpr c37
               have c37b1 : (((rd_T58 l0_1 (rd l4 x13_2)).f0) != x2_2) = true := bne_iff_ne.mpr c37
               simp only [Option.some.injEq, Prod.mk.injEq] at H
               obtain ⟨rfl, rfl⟩ := H
               have p139 : 0 ≤ (x13_2 : Int) := odt
               have q139 : x13_2 < (l4.length : Int) := odt
               obtain ⟨ad139, e139, hx139_0⟩ := Kd.at_int HR4.out x13_2 p139 q139
               cases e139
               replace hx139_0 := (HB.out.cell (World.block_lt_of_cell? w _ hx139_0)).trans hx139_0
               replace p139 := eq_true p139; replace q139 := eq_true q139
               have hcz39_0 : wr.cell? ⟨gb137, 0, none⟩ = some (.int .i64 a0_0) := (blk_cell BK137.out 0).trans rfl
               have hcz39_1 : wr.cell? ⟨gb137, 1, none⟩ = some (.slice A0_1 l0_1.length c0_1) := (blk_cell BK137.out 1).trans rfl
               have hfz39_0 := blk_frozen BK137.out 0; have hfz39_1 := blk_frozen BK137.out 1
               have p140 : 0 ≤ ((rd l4 x13_2) : Int) := odt
               have q140 : (rd l4 x13_2) < (l1.length : Int) := odt
               obtain ⟨ad140, e140, hx140_0⟩ := Kd.at_int HR1.out (rd l4 x13_2) p140 q140
               cases e140
               replace hx140_0 := (HB.out.cell (World.block_lt_of_cell? w _ hx140_0)).trans hx140_0
               replace p140 := eq_true p140; replace q140 := eq_true q140
               have p141 : 0 ≤ ((rd l4 x13_2) : Int) := odt
               have q141 : (rd l4 x13_2) < (l0_1.length : Int) := odt
               obtain ⟨ad141, e141, hx141_0, hx141_1⟩ := at_T58 HR0_1.out (rd l4 x13_2) p141 q141
               cases e141
               replace hx141_0 := (HB.out.cell (World.block_lt_of_cell? w _ hx141_0)).trans hx141_0
               replace hx141_1 := (HB.out.cell (World.block_lt_of_cell? w _ hx141_1)).trans hx141_1
               replace p141 := eq_true p141; replace q141 := eq_true q141
               go_wp2
               go_ret2
               exact ⟨byE, byB1 HB.out GE137.out⟩
             ·rw [if_neg c36] at H
              exact absurd H (by simp)
           ·rw [if_neg c33] at H
            exact absurd H (by simp)
          ·rw [if_neg c32] at H
           exact absurd H (by simp)
       ·rw [if_neg c28] at H
        exact absurd H (by simp)
      ·rw [if_neg c27] at H
       have c27b0 : decide (x13_2 < (l4.length : Int)) = false := decide_eq_false c27
       clear c27
       by_cases c40 : x2_2 = a3
       ·rw [if_pos c40] at H
        have c40b0 : (x2_2 == a3) = true := beq_iff_eq.mpr c40
        have c40b1 : (x2_2 != a3) = false := bne_eq_false_iff_eq.mpr c40
        clear c40
        simp only [Option.some.injEq, Prod.mk.injEq] at H
        obtain ⟨rfl, rfl⟩ := H
        go_wp2
        go_ret2
        exact ⟨byE, byB1 HB.out GE137.out⟩
       ·rw [if_neg c40] at H
        have c40b0 : (x2_2 == a3) = false := beq_eq_false_iff_ne.mpr c40
        have c40b1 : (x2_2 != a3) = true := bne_iff_ne.mpr c40
        simp only [Option.some.injEq, Prod.mk.injEq] at H
        obtain ⟨rfl, rfl⟩ := H
        go_wp2
        go_ret2
        exact ⟨byE, byB1 HB.out GE137.out⟩
end Go.Proofs.Ytfnophaiamkmpaa.Print
namespace Go.Proofs.Ytfnophaiamkmpaa.Print
open Go.RowKit Go.Proofs.YtfnophaiamkmpaaW.PrintWords Go.Proofs.YtfnophaiamkmpaaW.PrintLast Go.Proofs.YtfnophaiamkmpaaW.PrintMore
set_option linter.unusedVariables false
set_option linter.unusedSimpArgs false
theorem rd_at {l : List Int} {i : Nat} (h : i < l.length) : rd l (i : Int) = l.getD i 0 := by rw [rd_get l h, getD_at h]
theorem cost_l0 {n : Nat} {arcs : List S58} {ws : List Int} (hwl : ws.length = arcs.length) (hwr : ∀ i, i < ws.length → ws.getD i 0 ≤ 1073741824) {u t c : Int} {l : List Int} (h : WalkL arcs ws u t l c) :
  ∀ (pre : List Int) (a : Int), 0 ≤ a → a + c ≤ 4000000000000000000 → (pre ++ l).length ≤ 9223372036854775807 → Ev (fun k => mapmakerref38_Cost.l0 k ws u t (pre ++ l) a (pre.length : Int) (n : Int) arcs) (a + c, true) := by
 induction h with
 | nil u =>
  intro pre a h0 h1 h2
  refine Ev.step1 fun k => ?_
  simp only [mapmakerref38_Cost.l0]
  rw [if_neg (by simp), if_pos trivial, Int.add_zero]
 | cons k hk h0 hw h ih =>
  rename_i u t c l
  intro pre a ha hc hl
  have hcn := h.nonneg
  have hwk := hwr k (by omega)
  have ih1 := ih (pre ++ [(k : Int)]) (a + ws.getD k 0) (by omega) (by omega) (by rw [List.append_assoc]; exact hl)
  rw [List.append_assoc, List.singleton_append] at ih1
  have hpl : pre.length < (pre ++ (k : Int) :: l).length := by rw [List.length_append, List.length_cons]; omega
  have hrd : rd (pre ++ (k : Int) :: l) (pre.length : Int) = (k : Int) := by
   rw [rd_get _ hpl, List.getElem_append_right (Nat.le_refl _)]
   simp
  refine Ev.step (fun j => ?_) (by rw [Int.add_assoc] at ih1; exact ih1)
  simp only [mapmakerref38_Cost.l0]
  rw [hrd, if_pos (by omega), if_pos (by omega), if_neg (by omega), if_neg (by omega), if_pos (by omega), if_pos (by omega), rd_at (by omega), if_neg (by omega), if_pos (by omega), rd_getD, if_pos h0]
  have hy : wrap64 ((pre.length : Int) + 1) = ((pre.length + 1 : Nat) : Int) := by
   unfold wrap64
   omega
  rw [hy]
  have hz : wrap64 (a + ws.getD k 0) = a + ws.getD k 0 := by
   generalize ws.getD k 0 = d at *
   unfold wrap64
   omega
  rw [hz]
  have hp : ((pre ++ [(k : Int)]).length : Int) = ((pre.length + 1 : Nat) : Int) := by rw [List.length_append]; rfl
  rw [hp]
theorem cost_ev {n : Nat} {arcs : List S58} {L ws : List Int} (ho : NetOk n arcs L ws) {s t : Int} (hs : hasV n s = true) (ht : hasV n t = true) {l : List Int} {c : Int} (h : WalkL arcs ws s t l c) (hc : c ≤ 4000000000000000000) (hl : l.length ≤ 9223372036854775807) : ∃ k, mapmakerref38_Cost.f k (n : Int) arcs ws s t l = some (c, true) := by
 obtain ⟨sN, hsN, rfl⟩ := hasV_iff.1 hs
 obtain ⟨tN, htN, rfl⟩ := hasV_iff.1 ht
 have hp := ho.pc 0 0
 have hal := ho.al
 have h1 := cost_l0 (n := n) hp.wl hp.wr h [] 0 (by omega) (by omega) (by simpa using hl)
 rw [List.nil_append, Int.zero_add] at h1
 have hck := refchk_ev (n : Int) arcs ws (by omega) (by have := hp.wl; omega)
 rw [ho.hd] at hck
 have h2 : Ev (fun k => mapmakerref38_Cost.f k (n : Int) arcs ws (sN : Int) (tN : Int) l) (c, true) := by
  unfold mapmakerref38_Cost.f
  refine Ev.bind hck ?_
  refine Ev.congr (fun k => (if_pos rfl).trans ((if_neg (by omega)).trans ((if_neg (by omega)).trans ((if_neg (by omega)).trans (by rw [decide_eq_false (by omega)]))))) ?_
  refine Ev.step (fun k => ?_) h1
  simp only [mapmakerref38_Cost.j0]
  rw [if_neg Bool.false_ne_true]
  rfl
 obtain ⟨k, hk⟩ := h2
 exact ⟨k, hk k (Nat.le_refl _)⟩
end Go.Proofs.Ytfnophaiamkmpaa.Print
