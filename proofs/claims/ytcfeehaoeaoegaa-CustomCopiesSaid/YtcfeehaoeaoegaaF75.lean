/- Written by a program of this claim's author (xprint.py, over the kit's print.py): the call of mapmaker/mapmakerref41.one comes to what the Lean function of its name says. -/
import Derived.Test.YtcfeehaoeaoegaaPrint0
import Derived.Test.YtcfeehaoeaoegaaM24
import Derived.Test.YtcfeehaoeaoegaaM0
namespace Go.Proofs.Ytcfeehaoeaoegaa.Print
open Go.RowKit Go.Proofs.YtcfeehaoeaoegaaW.PrintWords Go.Proofs.YtcfeehaoeaoegaaW.PrintLast Go.Proofs.YtcfeehaoeaoegaaW.PrintMore
attribute [local go_sem] max2_int min2_int max_two min_two max_three min_three max_four min_four   -- for this text's walks alone
set_option linter.unusedVariables false
set_option linter.unusedSimpArgs false

/-! ### mapmakerref41_one: function 75 -/
mutual
def mapmakerref41_one.l0 : Nat → List (S38) → List Int → List Int → Int → Int → Int → Int → Bool → Int → List (S38) → List Int → List Int → Option (Int)
 | 0, _, _, _, _, _, _, _, _, _, _, _, _ => none
 | k + 1, x1, x2, x3, x4, x5, x13, x14, x240000, x240001, x240002, x240003, x240004 => if x14 < (x240004.length : Int) then (if 0 ≤ x14 then (if x14 < (x240002.length : Int) then (if ((rd_T38 x240002 x14).f0) = x4 then (if ((rd_T38 x240002 x14).f1) = x5 then (if (rd x240004 x14) ≥ 0 then (mapmakerref41_one.l0 k x1 x2 x3 x4 x5 (mn x13 (rd x240004 x14)) (wrap64 (x14 + 1)) x240000 x240001 x240002 x240003 x240004) else (mapmakerref41_one.l0 k x1 x2 x3 x4 x5 x13 (wrap64 (x14 + 1)) x240000 x240001 x240002 x240003 x240004)) else (mapmakerref41_one.l0 k x1 x2 x3 x4 x5 x13 (wrap64 (x14 + 1)) x240000 x240001 x240002 x240003 x240004)) else (mapmakerref41_one.l0 k x1 x2 x3 x4 x5 x13 (wrap64 (x14 + 1)) x240000 x240001 x240002 x240003 x240004)) else (none)) else (none)) else (mapmakerref41_one.l1 k x1 x2 x3 x4 x5 x13 0)
def mapmakerref41_one.l1 : Nat → List (S38) → List Int → List Int → Int → Int → Int → Int → Option (Int)
 | 0, _, _, _, _, _, _, _ => none
 | k + 1, x1, x2, x3, x4, x5, x13, x15 => if x15 < (x1.length : Int) then (if 0 ≤ x15 then ((mapmakerref41_find.f k x1 ((rd_T38 x1 x15).f0) x5).bind fun t245 => (if ((rd_T38 x1 x15).f1) = x4 then (if t245 ≥ 0 then (if 0 ≤ t245 then (if t245 < (x1.length : Int) then (mapmakerref41_one.j2 k x1 x2 x3 x4 x5 x13 x15 ((rd_T38 x1 x15).f0) (((rd_T38 x1 t245).f0) == ((rd_T38 x1 x15).f0))) else (none)) else (none)) else (mapmakerref41_one.j2 k x1 x2 x3 x4 x5 x13 x15 ((rd_T38 x1 x15).f0) false)) else (mapmakerref41_one.j2 k x1 x2 x3 x4 x5 x13 x15 ((rd_T38 x1 x15).f0) false))) else (none)) else (some x13)
def mapmakerref41_one.j2 : Nat → List (S38) → List Int → List Int → Int → Int → Int → Int → Int → Bool → Option (Int)
 | 0, _, _, _, _, _, _, _, _, _ => none
 | k + 1, x1, x2, x3, x4, x5, x13, x15, x16, x94 => if x94 = true then ((mapmakerref41_from.f k x1 x2 x3 x4 x16).bind fun t248 => ((mapmakerref41_from.f k x1 x2 x3 x16 x5).bind fun t249 => ((mapmakerref41_sum.f t248 t249).bind fun t250 => (mapmakerref41_one.l1 k x1 x2 x3 x4 x5 (mn x13 t250) (wrap64 (x15 + 1)))))) else (mapmakerref41_one.l1 k x1 x2 x3 x4 x5 x13 (wrap64 (x15 + 1)))
end
def mapmakerref41_one.f (k : Nat) (a0_0 : Bool) (a0_1 : Int) (l0_2 : List (S38)) (l0_3 : List Int) (l0_4 : List Int) (l1 : List (S38)) (l2 : List Int) (l3 : List Int) (a4 : Int) (a5 : Int) : Option (Int) := mapmakerref41_one.l0 k l1 l2 l3 a4 a5 1152921504606846976 0 a0_0 a0_1 l0_2 l0_3 l0_4
set_option maxHeartbeats 8000000 in
set_option maxRecDepth 100000 in
theorem mapmakerref41_one.calls (k : Nat) (a0_0 : Bool) (a0_1 : Int) (A0_2 : Option Addr) (c0_2 : Nat) (l0_2 : List (S38)) (A0_3 : Option Addr) (c0_3 : Nat) (l0_3 : List Int) (A0_4 : Option Addr) (c0_4 : Nat) (l0_4 : List Int) (A1 : Option Addr) (c1 : Nat) (l1 : List (S38)) (A2 : Option Addr) (c2 : Nat) (l2 : List Int) (A3 : Option Addr) (c3 : Nat) (l3 : List Int) (a4 : Int) (a5 : Int) (r : Int) (w : World) (hr0_2 : Kd.C k38 w A0_2 l0_2.length l0_2) (hc0_2 : l0_2.length ≤ c0_2) (hr0_3 : Kd.C (Kd.int .i64) w A0_3 l0_3.length l0_3) (hc0_3 : l0_3.length ≤ c0_3) (hr0_4 : Kd.C (Kd.int .i64) w A0_4 l0_4.length l0_4) (hc0_4 : l0_4.length ≤ c0_4) (hr1 : Kd.C k38 w A1 l1.length l1) (hc1 : l1.length ≤ c1) (hr2 : Kd.C (Kd.int .i64) w A2 l2.length l2) (hc2 : l2.length ≤ c2) (hr3 : Kd.C (Kd.int .i64) w A3 l3.length l3) (hc3 : l3.length ≤ c3) (h : mapmakerref41_one.f k a0_0 a0_1 l0_2 l0_3 l0_4 l1 l2 l3 a4 a5 = some r) :
  Calls Try.prog 75 #[.agg #[.bool a0_0, .int .i64 a0_1, .slice A0_2 l0_2.length c0_2, .slice A0_3 l0_3.length c0_3, .slice A0_4 l0_4.length c0_4], .slice A1 l1.length c1, .slice A2 l2.length c2, .slice A3 l3.length c3, .int .i64 a4, .int .i64 a5] w fun e w' => e = .returned (.int .i64 r) ∧ Below w.heap.size w w' := by
 have hu67 := Try.underlying67; have HR0_2 := Aside0.mk hr0_2; have HC0_2 := Aside0.mk hc0_2; clear hr0_2 hc0_2; have HR0_3 := Aside0.mk hr0_3; have HC0_3 := Aside0.mk hc0_3; clear hr0_3 hc0_3; have HR0_4 := Aside0.mk hr0_4; have HC0_4 := Aside0.mk hc0_4; clear hr0_4 hc0_4; have HR1 := Aside0.mk hr1; have HC1 := Aside0.mk hc1; clear hr1 hc1; have HR2 := Aside0.mk hr2; have HC2 := Aside0.mk hc2; clear hr2 hc2; have HR3 := Aside0.mk hr3; have HC3 := Aside0.mk hc3; clear hr3 hc3; have HB := Aside0.mk (Below.refl w.heap.size w)
 have H : (mapmakerref41_one.l0 k l1 l2 l3 a4 a5 1152921504606846976 0 a0_0 a0_1 l0_2 l0_3 l0_4) = some r := h
 clear h
 have H' := Aside0.mk H
 clear H
 go_enter Try.func75, Try.ntmps75
 go_wp2_with (first | ((with_reducible refine gate_dst (N := 6) rfl ?_); refine box_event ?hg (N := 6) ?hd (cs := #[.bool a0_0, .int .i64 a0_1, .slice A0_2 l0_2.length c0_2, .slice A0_3 l0_3.length c0_3, .slice A0_4 l0_4.length c0_4]) (t := 67) ?hr ?_; (case hd => rfl); (case hg => rfl); (case hr => first | (go_simp; done) | (go_simp; rfl)); intro gb239 hg w7 hbox hb; have n0_ := Aside0.mk (below_step (byB HB.out) hb); have n1_ := Aside0.mk (hbox); have n2_ := Aside0.mk ((by rw [hg]; exact (below_size (byB HB.out)) : w.heap.size ≤ gb239)); have n3_ := Aside0.mk ((by rw [hg]; exact (below_size (byB HB.out)) : w.heap.size ≤ gb239)); clear HB; have HB := n0_; have BK239 := n1_; have GW239 := n2_; have GE239 := n3_; clear n0_ n1_ n2_ n3_ hb hbox hg))
 go_loopg [13, 14] k (fun kq v13 v14 w' => ∃ (x13_1 : Int) (x14_1 : Int), v13 = .int .i64 x13_1 ∧ v14 = .int .i64 x14_1 ∧ Aside0 (mapmakerref41_one.l0 kq l1 l2 l3 a4 a5 x13_1 x14_1 a0_0 a0_1 l0_2 l0_3 l0_4 = some r) ∧ Aside0 (kq ≤ k) ∧ Aside0 (w'.heap[gb239]? = some (.cells #[.bool a0_0, .int .i64 a0_1, (.slice A0_2 l0_2.length c0_2), (.slice A0_3 l0_3.length c0_3), (.slice A0_4 l0_4.length c0_4)] 67 (0, 0))) ∧ Aside0 (Below w.heap.size w w'))
 case atStart => exact ⟨(1152921504606846976), (0), (by first | rfl | (simp; done) | (simp [*]; done)), (by first | rfl | (simp; done) | (simp [*]; done)), H', ⟨Nat.le_refl _⟩, ⟨by (with_reducible repeat (first | refine blk_drewN ?_ _ | refine blk_drew ?_ | refine blk_alloc ?_ _)); exact BK239.out⟩, ⟨by repeat (first | (with_reducible first | exact HB.out | apply below_alloc | apply pw_below_drewN | apply below_drew1 | refine below_set ?_ GE239.out) | exact HB.out)⟩⟩
 case round =>
  clear H'
  try clear c1
  try clear c2
  try clear p2
  try clear c3
  try clear c7
  obtain ⟨x13_1, x14_1, rfl, rfl, HA, HK1, BK239, HB⟩ := hrel
  cases gk with
  | zero => exact absurd HA.out (by simp [mapmakerref41_one.l0])
  | succ k1 =>
   have H := HA.out; clear HA
   simp only [mapmakerref41_one.l0] at H
   by_cases c8 : x14_1 < (l0_4.length : Int)
   ·rw [if_pos c8] at H
    have c8b0 : decide (x14_1 < (l0_4.length : Int)) = true := decide_eq_true c8
    clear c8
    by_cases c9 : 0 ≤ x14_1
    ·rw [if_pos c9] at H
     have c9b0 : decide (0 ≤ x14_1) = true := decide_eq_true c9
     clear c9
     by_cases c10 : x14_1 < (l0_2.length : Int)
     ·rw [if_pos c10] at H
      have c10b0 : decide (x14_1 < (l0_2.length : Int)) = true := decide_eq_true c10
      clear c10
      by_cases c11 : ((rd_T38 l0_2 x14_1).f0) = a4
      ·rw [if_pos c11] at H
       have c11b0 : (((rd_T38 l0_2 x14_1).f0) == a4) = true := beq_iff_eq.mpr c11
       have c11b1 : (((rd_T38 l0_2 x14_1).f0) != a4) = false := bne_eq_false_iff_eq.mpr c11
       clear c11
       by_cases c12 : ((rd_T38 l0_2 x14_1).f1) = a5
       ·rw [if_pos c12] at H
        have c12b0 : (((rd_T38 l0_2 x14_1).f1) == a5) = true := beq_iff_eq.mpr c12
        have c12b1 : (((rd_T38 l0_2 x14_1).f1) != a5) = false := bne_eq_false_iff_eq.mpr c12
        clear c12
        by_cases c13 : (rd l0_4 x14_1) ≥ 0
        ·rw [if_pos c13] at H
         have c13b0 : decide (0 ≤ (rd l0_4 x14_1)) = true := decide_eq_true c13
         clear c13
         obtain ⟨ji14, hji14⟩ : ∃ j_ : Int, (mn x13_1 (rd l0_4 x14_1)) = j_ := ⟨_, rfl⟩
         replace H : (mapmakerref41_one.l0 k1 l1 l2 l3 a4 a5 ji14 (wrap64 (x14_1 + 1)) a0_0 a0_1 l0_2 l0_3 l0_4) = some r := by first | (rw [hji14] at H; exact H) | (simp only [hji14] at H ⊢; exact H)
         have hji14_ : (if (rd l0_4 x14_1) < x13_1 then (rd l0_4 x14_1) else x13_1) = ji14 := hji14
         have H' := Aside0.mk H
         clear H
         have hcz15_0 : wr.cell? ⟨gb239, 0, none⟩ = some (.bool a0_0) := (blk_cell BK239.out 0).trans rfl
         have hcz15_1 : wr.cell? ⟨gb239, 1, none⟩ = some (.int .i64 a0_1) := (blk_cell BK239.out 1).trans rfl
         have hcz15_2 : wr.cell? ⟨gb239, 2, none⟩ = some (.slice A0_2 l0_2.length c0_2) := (blk_cell BK239.out 2).trans rfl
         have hcz15_3 : wr.cell? ⟨gb239, 3, none⟩ = some (.slice A0_3 l0_3.length c0_3) := (blk_cell BK239.out 3).trans rfl
         have hcz15_4 : wr.cell? ⟨gb239, 4, none⟩ = some (.slice A0_4 l0_4.length c0_4) := (blk_cell BK239.out 4).trans rfl
         have hfz15_0 := blk_frozen BK239.out 0; have hfz15_1 := blk_frozen BK239.out 1; have hfz15_2 := blk_frozen BK239.out 2; have hfz15_3 := blk_frozen BK239.out 3; have hfz15_4 := blk_frozen BK239.out 4
         have p240 : 0 ≤ (x14_1 : Int) := of_decide_eq_true (by first | (with_reducible assumption) | assumption)
         have q240 : x14_1 < (l0_2.length : Int) := of_decide_eq_true (by first | (with_reducible assumption) | assumption)
         obtain ⟨ad240, e240, hx240_0, hx240_1⟩ := at_T38 HR0_2.out x14_1 p240 q240
         cases e240
         replace hx240_0 := (HB.out.cell (World.block_lt_of_cell? w _ hx240_0)).trans hx240_0
         replace hx240_1 := (HB.out.cell (World.block_lt_of_cell? w _ hx240_1)).trans hx240_1
         replace p240 := eq_true p240; replace q240 := eq_true q240
         have p241 : 0 ≤ (x14_1 : Int) := of_decide_eq_true (by first | (with_reducible assumption) | assumption)
         have q241 : x14_1 < (l0_2.length : Int) := of_decide_eq_true (by first | (with_reducible assumption) | assumption)
         obtain ⟨ad241, e241, hx241_0, hx241_1⟩ := at_T38 HR0_2.out x14_1 p241 q241
         obtain rfl : ad240 = ad241 := (by injection e241)
         replace hx241_0 := (HB.out.cell (World.block_lt_of_cell? w _ hx241_0)).trans hx241_0
         replace hx241_1 := (HB.out.cell (World.block_lt_of_cell? w _ hx241_1)).trans hx241_1
         replace p241 := eq_true p241; replace q241 := eq_true q241
         have p242 : 0 ≤ (x14_1 : Int) := of_decide_eq_true (by first | (with_reducible assumption) | assumption)
         have q242 : x14_1 < (l0_4.length : Int) := of_decide_eq_true (by first | (with_reducible assumption) | assumption)
         obtain ⟨ad242, e242, hx242_0⟩ := Kd.at_int HR0_4.out x14_1 p242 q242
         cases e242
         replace hx242_0 := (HB.out.cell (World.block_lt_of_cell? w _ hx242_0)).trans hx242_0
         replace p242 := eq_true p242; replace q242 := eq_true q242
         have p243 : 0 ≤ (x14_1 : Int) := of_decide_eq_true (by first | (with_reducible assumption) | assumption)
         have q243 : x14_1 < (l0_4.length : Int) := of_decide_eq_true (by first | (with_reducible assumption) | assumption)
         obtain ⟨ad243, e243, hx243_0⟩ := Kd.at_int HR0_4.out x14_1 p243 q243
         obtain rfl : ad242 = ad243 := (by injection e243)
         replace hx243_0 := (HB.out.cell (World.block_lt_of_cell? w _ hx243_0)).trans hx243_0
         replace p243 := eq_true p243; replace q243 := eq_true q243
         go_wp2
         go_roundg k1
         case measure => have := HK1.out; omega
         case rel => exact ⟨(ji14), (wrap64 (x14_1 + 1)), (by first | rfl | (simp; done) | (simp only [← hji14] <;> (first | rfl | simp)) | (simp [*]; done)), (by first | rfl | (simp; done) | (simp [*]; done)), H', ⟨by have := HK1.out; omega⟩, ⟨by (with_reducible repeat (first | refine blk_drewN ?_ _ | refine blk_drew ?_ | refine blk_alloc ?_ _)); exact BK239.out⟩, ⟨by repeat (first | (with_reducible first | exact HB.out | apply below_alloc | apply pw_below_drewN | apply below_drew1 | refine below_set ?_ GE239.out) | exact HB.out)⟩⟩
        ·rw [if_neg c13] at H
         have c13b0 : decide (0 ≤ (rd l0_4 x14_1)) = false := decide_eq_false c13
         clear c13
         have H' := Aside0.mk H
         clear H
         have hcz16_0 : wr.cell? ⟨gb239, 0, none⟩ = some (.bool a0_0) := (blk_cell BK239.out 0).trans rfl
         have hcz16_1 : wr.cell? ⟨gb239, 1, none⟩ = some (.int .i64 a0_1) := (blk_cell BK239.out 1).trans rfl
         have hcz16_2 : wr.cell? ⟨gb239, 2, none⟩ = some (.slice A0_2 l0_2.length c0_2) := (blk_cell BK239.out 2).trans rfl
         have hcz16_3 : wr.cell? ⟨gb239, 3, none⟩ = some (.slice A0_3 l0_3.length c0_3) := (blk_cell BK239.out 3).trans rfl
         have hcz16_4 : wr.cell? ⟨gb239, 4, none⟩ = some (.slice A0_4 l0_4.length c0_4) := (blk_cell BK239.out 4).trans rfl
         have hfz16_0 := blk_frozen BK239.out 0; have hfz16_1 := blk_frozen BK239.out 1; have hfz16_2 := blk_frozen BK239.out 2; have hfz16_3 := blk_frozen BK239.out 3; have hfz16_4 := blk_frozen BK239.out 4
         have p240 : 0 ≤ (x14_1 : Int) := of_decide_eq_true (by first | (with_reducible assumption) | assumption)
         have q240 : x14_1 < (l0_2.length : Int) := of_decide_eq_true (by first | (with_reducible assumption) | assumption)
         obtain ⟨ad240, e240, hx240_0, hx240_1⟩ := at_T38 HR0_2.out x14_1 p240 q240
         cases e240
         replace hx240_0 := (HB.out.cell (World.block_lt_of_cell? w _ hx240_0)).trans hx240_0
         replace hx240_1 := (HB.out.cell (World.block_lt_of_cell? w _ hx240_1)).trans hx240_1
         replace p240 := eq_true p240; replace q240 := eq_true q240
         have p241 : 0 ≤ (x14_1 : Int) := of_decide_eq_true (by first | (with_reducible assumption) | assumption)
         have q241 : x14_1 < (l0_2.length : Int) := of_decide_eq_true (by first | (with_reducible assumption) | assumption)
         obtain ⟨ad241, e241, hx241_0, hx241_1⟩ := at_T38 HR0_2.out x14_1 p241 q241
         obtain rfl : ad240 = ad241 := (by injection e241)
         replace hx241_0 := (HB.out.cell (World.block_lt_of_cell? w _ hx241_0)).trans hx241_0
         replace hx241_1 := (HB.out.cell (World.block_lt_of_cell? w _ hx241_1)).trans hx241_1
         replace p241 := eq_true p241; replace q241 := eq_true q241
         have p242 : 0 ≤ (x14_1 : Int) := of_decide_eq_true (by first | (with_reducible assumption) | assumption)
         have q242 : x14_1 < (l0_4.length : Int) := of_decide_eq_true (by first | (with_reducible assumption) | assumption)
         obtain ⟨ad242, e242, hx242_0⟩ := Kd.at_int HR0_4.out x14_1 p242 q242
         cases e242
         replace hx242_0 := (HB.out.cell (World.block_lt_of_cell? w _ hx242_0)).trans hx242_0
         replace p242 := eq_true p242; replace q242 := eq_true q242
         go_wp2
         go_roundg k1
         case measure => have := HK1.out; omega
         case rel => exact ⟨(x13_1), (wrap64 (x14_1 + 1)), (by first | rfl | (simp; done) | (simp [*]; done)), (by first | rfl | (simp; done) | (simp [*]; done)), H', ⟨by have := HK1.out; omega⟩, ⟨by (with_reducible repeat (first | refine blk_drewN ?_ _ | refine blk_drew ?_ | refine blk_alloc ?_ _)); exact BK239.out⟩, ⟨by repeat (first | (with_reducible first | exact HB.out | apply below_alloc | apply pw_below_drewN | apply below_drew1 | refine below_set ?_ GE239.out) | exact HB.out)⟩⟩
       ·rw [if_neg c12] at H
        have c12b0 : (((rd_T38 l0_2 x14_1).f1) == a5) = false := beq_eq_false_iff_ne.mpr c12
        have c12b1 : (((rd_T38 l0_2 x14_1).f1) != a5) = true := bne_iff_ne.mpr c12
        have H' := Aside0.mk H
        clear H
        have hcz17_0 : wr.cell? ⟨gb239, 0, none⟩ = some (.bool a0_0) := (blk_cell BK239.out 0).trans rfl
        have hcz17_1 : wr.cell? ⟨gb239, 1, none⟩ = some (.int .i64 a0_1) := (blk_cell BK239.out 1).trans rfl
        have hcz17_2 : wr.cell? ⟨gb239, 2, none⟩ = some (.slice A0_2 l0_2.length c0_2) := (blk_cell BK239.out 2).trans rfl
        have hcz17_3 : wr.cell? ⟨gb239, 3, none⟩ = some (.slice A0_3 l0_3.length c0_3) := (blk_cell BK239.out 3).trans rfl
        have hcz17_4 : wr.cell? ⟨gb239, 4, none⟩ = some (.slice A0_4 l0_4.length c0_4) := (blk_cell BK239.out 4).trans rfl
        have hfz17_0 := blk_frozen BK239.out 0; have hfz17_1 := blk_frozen BK239.out 1; have hfz17_2 := blk_frozen BK239.out 2; have hfz17_3 := blk_frozen BK239.out 3; have hfz17_4 := blk_frozen BK239.out 4
        have p240 : 0 ≤ (x14_1 : Int) := of_decide_eq_true (by first | (with_reducible assumption) | assumption)
        have q240 : x14_1 < (l0_2.length : Int) := of_decide_eq_true (by first | (with_reducible assumption) | assumption)
        obtain ⟨ad240, e240, hx240_0, hx240_1⟩ := at_T38 HR0_2.out x14_1 p240 q240
        cases e240
        replace hx240_0 := (HB.out.cell (World.block_lt_of_cell? w _ hx240_0)).trans hx240_0
        replace hx240_1 := (HB.out.cell (World.block_lt_of_cell? w _ hx240_1)).trans hx240_1
        replace p240 := eq_true p240; replace q240 := eq_true q240
        have p241 : 0 ≤ (x14_1 : Int) := of_decide_eq_true (by first | (with_reducible assumption) | assumption)
        have q241 : x14_1 < (l0_2.length : Int) := of_decide_eq_true (by first | (with_reducible assumption) | assumption)
        obtain ⟨ad241, e241, hx241_0, hx241_1⟩ := at_T38 HR0_2.out x14_1 p241 q241
        obtain rfl : ad240 = ad241 := (by injection e241)
        replace hx241_0 := (HB.out.cell (World.block_lt_of_cell? w _ hx241_0)).trans hx241_0
        replace hx241_1 := (HB.out.cell (World.block_lt_of_cell? w _ hx241_1)).trans hx241_1
        replace p241 := eq_true p241; replace q241 := eq_true q241
        go_wp2
        go_roundg k1
        case measure => have := HK1.out; omega
        case rel => exact ⟨(x13_1), (wrap64 (x14_1 + 1)), (by first | rfl | (simp; done) | (simp [*]; done)), (by first | rfl | (simp; done) | (simp [*]; done)), H', ⟨by have := HK1.out; omega⟩, ⟨by (with_reducible repeat (first | refine blk_drewN ?_ _ | refine blk_drew ?_ | refine blk_alloc ?_ _)); exact BK239.out⟩, ⟨by repeat (first | (with_reducible first | exact HB.out | apply below_alloc | apply pw_below_drewN | apply below_drew1 | refine below_set ?_ GE239.out) | exact HB.out)⟩⟩
      ·rw [if_neg c11] at H
       have c11b0 : (((rd_T38 l0_2 x14_1).f0) == a4) = false := beq_eq_false_iff_ne.mpr c11
       have c11b1 : (((rd_T38 l0_2 x14_1).f0) != a4) = true := bne_iff_ne.mpr c11
       have H' := Aside0.mk H
       clear H
       have hcz18_0 : wr.cell? ⟨gb239, 0, none⟩ = some (.bool a0_0) := (blk_cell BK239.out 0).trans rfl
       have hcz18_1 : wr.cell? ⟨gb239, 1, none⟩ = some (.int .i64 a0_1) := (blk_cell BK239.out 1).trans rfl
       have hcz18_2 : wr.cell? ⟨gb239, 2, none⟩ = some (.slice A0_2 l0_2.length c0_2) := (blk_cell BK239.out 2).trans rfl
       have hcz18_3 : wr.cell? ⟨gb239, 3, none⟩ = some (.slice A0_3 l0_3.length c0_3) := (blk_cell BK239.out 3).trans rfl
       have hcz18_4 : wr.cell? ⟨gb239, 4, none⟩ = some (.slice A0_4 l0_4.length c0_4) := (blk_cell BK239.out 4).trans rfl
       have hfz18_0 := blk_frozen BK239.out 0; have hfz18_1 := blk_frozen BK239.out 1; have hfz18_2 := blk_frozen BK239.out 2; have hfz18_3 := blk_frozen BK239.out 3; have hfz18_4 := blk_frozen BK239.out 4
       have p240 : 0 ≤ (x14_1 : Int) := of_decide_eq_true (by first | (with_reducible assumption) | assumption)
       have q240 : x14_1 < (l0_2.length : Int) := of_decide_eq_true (by first | (with_reducible assumption) | assumption)
       obtain ⟨ad240, e240, hx240_0, hx240_1⟩ := at_T38 HR0_2.out x14_1 p240 q240
       cases e240
       replace hx240_0 := (HB.out.cell (World.block_lt_of_cell? w _ hx240_0)).trans hx240_0
       replace hx240_1 := (HB.out.cell (World.block_lt_of_cell? w _ hx240_1)).trans hx240_1
       replace p240 := eq_true p240; replace q240 := eq_true q240
       go_wp2
       go_roundg k1
       case measure => have := HK1.out; omega
       case rel => exact ⟨(x13_1), (wrap64 (x14_1 + 1)), (by first | rfl | (simp; done) | (simp [*]; done)), (by first | rfl | (simp; done) | (simp [*]; done)), H', ⟨by have := HK1.out; omega⟩, ⟨by (with_reducible repeat (first | refine blk_drewN ?_ _ | refine blk_drew ?_ | refine blk_alloc ?_ _)); exact BK239.out⟩, ⟨by repeat (first | (with_reducible first | exact HB.out | apply below_alloc | apply pw_below_drewN | apply below_drew1 | refine below_set ?_ GE239.out) | exact HB.out)⟩⟩
     ·rw [if_neg c10] at H
      exact absurd H (by simp)
    ·rw [if_neg c9] at H
     exact absurd H (by simp)
   ·rw [if_neg c8] at H
    have c8b0 : decide (x14_1 < (l0_4.length : Int)) = false := decide_eq_false c8
    clear c8
    have H' := Aside0.mk H
    clear H
    have hcz19_0 : wr.cell? ⟨gb239, 0, none⟩ = some (.bool a0_0) := (blk_cell BK239.out 0).trans rfl
    have hcz19_1 : wr.cell? ⟨gb239, 1, none⟩ = some (.int .i64 a0_1) := (blk_cell BK239.out 1).trans rfl
    have hcz19_2 : wr.cell? ⟨gb239, 2, none⟩ = some (.slice A0_2 l0_2.length c0_2) := (blk_cell BK239.out 2).trans rfl
    have hcz19_3 : wr.cell? ⟨gb239, 3, none⟩ = some (.slice A0_3 l0_3.length c0_3) := (blk_cell BK239.out 3).trans rfl
    have hcz19_4 : wr.cell? ⟨gb239, 4, none⟩ = some (.slice A0_4 l0_4.length c0_4) := (blk_cell BK239.out 4).trans rfl
    have hfz19_0 := blk_frozen BK239.out 0; have hfz19_1 := blk_frozen BK239.out 1; have hfz19_2 := blk_frozen BK239.out 2; have hfz19_3 := blk_frozen BK239.out 3; have hfz19_4 := blk_frozen BK239.out 4
    go_wp2
    go_loopg [13, 15] k1 (fun kq v13 v15 w' => ∃ (x13_2 : Int) (x15_2 : Int), v13 = .int .i64 x13_2 ∧ v15 = .int .i64 x15_2 ∧ Aside0 (mapmakerref41_one.l1 kq l1 l2 l3 a4 a5 x13_2 x15_2 = some r) ∧ Aside0 (kq ≤ k1) ∧ Aside0 (w'.heap[gb239]? = some (.cells #[.bool a0_0, .int .i64 a0_1, (.slice A0_2 l0_2.length c0_2), (.slice A0_3 l0_3.length c0_3), (.slice A0_4 l0_4.length c0_4)] 67 (0, 0))) ∧ Aside0 (Below w.heap.size w w'))
    case atStart => exact ⟨(x13_1), (0), (by first | rfl | (simp; done) | (simp [*]; done)), (by first | rfl | (simp; done) | (simp [*]; done)), H', ⟨Nat.le_refl _⟩, ⟨by (with_reducible repeat (first | refine blk_drewN ?_ _ | refine blk_drew ?_ | refine blk_alloc ?_ _)); exact BK239.out⟩, ⟨by repeat (first | (with_reducible first | exact HB.out | apply below_alloc | apply pw_below_drewN | apply below_drew1 | refine below_set ?_ GE239.out) | exact HB.out)⟩⟩
    case round =>
     clear H'
     try clear c1
     try clear c2
     try clear p2
     try clear q2
     try clear hx2
     try clear c3
     try clear p6
     try clear c7
     try clear c8
     try clear c8b0
     try clear c9
     try clear c9b0
     try clear c10
     try clear c10b0
     try clear c11
     try clear c11b0
     try clear c11b1
     try clear c12
     try clear c12b0
     try clear c12b1
     try clear c13
     try clear c13b0
     try clear hcz15_0
     try clear hcz15_1
     try clear hcz15_2
     try clear hcz15_3
     try clear hcz15_4
     try clear hcz16_0
     try clear hcz16_1
     try clear hcz16_2
     try clear hcz16_3
     try clear hcz16_4
     try clear hcz17_0
     try clear hcz17_1
     try clear hcz17_2
     try clear hcz17_3
     try clear hcz17_4
     try clear hcz18_0
     try clear hcz18_1
     try clear hcz18_2
     try clear hcz18_3
     try clear hcz18_4
     try clear hcz19_0
     try clear hcz19_1
     try clear hcz19_2
     try clear hcz19_3
     try clear hcz19_4
     try clear hfz15_0
     try clear hfz15_1
     try clear hfz15_2
     try clear hfz15_3
     try clear hfz15_4
     try clear hfz16_0
     try clear hfz16_1
     try clear hfz16_2
     try clear hfz16_3
     try clear hfz16_4
     try clear hfz17_0
     try clear hfz17_1
     try clear hfz17_2
     try clear hfz17_3
     try clear hfz17_4
     try clear hfz18_0
     try clear hfz18_1
     try clear hfz18_2
     try clear hfz18_3
     try clear hfz18_4
     try clear hfz19_0
     try clear hfz19_1
     try clear hfz19_2
     try clear hfz19_3
     try clear hfz19_4
     try clear hx240_0
     try clear hx240_1
     try clear hx241_0
     try clear hx241_1
     try clear hx242_0
     try clear hx243_0
     try clear p2
     try clear p240
     try clear p241
     try clear p242
     try clear p243
     try clear q240
     try clear q241
     try clear q242
     try clear q243
     obtain ⟨x13_2, x15_2, rfl, rfl, HA, HK2, BK239, HB⟩ := hrel
     cases gk with
     | zero => exact absurd HA.out (by simp [mapmakerref41_one.l1])
     | succ k2 =>
      have H := HA.out; clear HA
      simp only [mapmakerref41_one.l1] at H
      by_cases c20 : x15_2 < (l1.length : Int)
      ·rw [if_pos c20] at H
       have c20b0 : decide (x15_2 < (l1.length : Int)) = true := decide_eq_true c20
       clear c20
       by_cases c21 : 0 ≤ x15_2
       ·rw [if_pos c21] at H
        have c21b0 : decide (0 ≤ x15_2) = true := decide_eq_true c21
        clear c21
        replace H := Option.bind_eq_some_iff.mp H
        obtain ⟨t245, A220, H⟩ := H
        replace H : (if ((rd_T38 l1 x15_2).f1) = a4 then (if t245 ≥ 0 then (if 0 ≤ t245 then (if t245 < (l1.length : Int) then (mapmakerref41_one.j2 k2 l1 l2 l3 a4 a5 x13_2 x15_2 ((rd_T38 l1 x15_2).f0) (((rd_T38 l1 t245).f0) == ((rd_T38 l1 x15_2).f0))) else (none)) else (none)) else (mapmakerref41_one.j2 k2 l1 l2 l3 a4 a5 x13_2 x15_2 ((rd_T38 l1 x15_2).f0) false)) else (mapmakerref41_one.j2 k2 l1 l2 l3 a4 a5 x13_2 x15_2 ((rd_T38 l1 x15_2).f0) false)) = some r := H
        have A22 := Aside0.mk A220; clear A220; have HC23 := Aside0.mk H; clear H
        have p244 : 0 ≤ (x15_2 : Int) := of_decide_eq_true (by first | (with_reducible assumption) | assumption)
        have q244 : x15_2 < (l1.length : Int) := of_decide_eq_true (by first | (with_reducible assumption) | assumption)
        obtain ⟨ad244, e244, hx244_0, hx244_1⟩ := at_T38 HR1.out x15_2 p244 q244
        cases e244
        replace hx244_0 := (HB.out.cell (World.block_lt_of_cell? w _ hx244_0)).trans hx244_0
        replace hx244_1 := (HB.out.cell (World.block_lt_of_cell? w _ hx244_1)).trans hx244_1
        replace p244 := eq_true p244; replace q244 := eq_true q244
        go_upto_region 12 with (first | ((with_reducible refine gate_callee (f := 79) rfl ?_); refine goesL_ (some 74) rfl rfl Try.func79 (by kernel_rfl) rfl #[.slice (some ad244) l1.length c1, .int .i64 ((rd_T38 l1 x15_2).f0), .int .i64 a5] rfl byL ?_; (with_reducible refine (mapmakerref41_find.calls k2 _ _ l1 ((rd_T38 l1 x15_2).f0) a5 t245 _ ?side1 ?side2 A22.out).mono ?_); (case side1 => exact byC (Kd.C_below HR1.out HB.out)); (case side2 => exact HC1.out); rintro e w' ⟨rfl, ⟨nd, rfl⟩⟩; refine ⟨_, rfl, ?_⟩))
        (try simp only [Act.put, List.setIfInBounds_toArray, List.set_cons_zero, List.set_cons_succ])
        go_cut [94] (fun v94 wc => ∃ (kq : Nat) (x94_22 : Bool), v94 = .bool x94_22 ∧ Aside0 (mapmakerref41_one.j2 kq l1 l2 l3 a4 a5 x13_2 x15_2 ((rd_T38 l1 x15_2).f0) x94_22 = some r) ∧ Aside0 (kq ≤ k2) ∧ Aside0 (wc.heap[gb239]? = some (.cells #[.bool a0_0, .int .i64 a0_1, (.slice A0_2 l0_2.length c0_2), (.slice A0_3 l0_3.length c0_3), (.slice A0_4 l0_4.length c0_4)] 67 (0, 0))) ∧ Aside0 (Below w.heap.size w wc))
        case first =>
         have H := HC23.out; clear HC23
         by_cases c24 : ((rd_T38 l1 x15_2).f1) = a4
         ·rw [if_pos c24] at H
          have c24b0 : (((rd_T38 l1 x15_2).f1) == a4) = true := beq_iff_eq.mpr c24
          have c24b1 : (((rd_T38 l1 x15_2).f1) != a4) = false := bne_eq_false_iff_eq.mpr c24
          clear c24
          (first | rw [c24b0] | (simp only [i64_w, i32_w]; rw [c24b0]) | skip)
          by_cases c25 : t245 ≥ 0
          ·rw [if_pos c25] at H
           have c25b0 : decide (0 ≤ t245) = true := decide_eq_true c25
           clear c25
           by_cases c26 : 0 ≤ t245
           ·rw [if_pos c26] at H
            have c26b0 : decide (0 ≤ t245) = true := decide_eq_true c26
            clear c26
            by_cases c27 : t245 < (l1.length : Int)
            ·rw [if_pos c27] at H
             have c27b0 : decide (t245 < (l1.length : Int)) = true := decide_eq_true c27
             clear c27
             have H' := Aside0.mk H
             clear H
             have p246 : 0 ≤ (x15_2 : Int) := of_decide_eq_true (by first | (with_reducible assumption) | assumption)
             have q246 : x15_2 < (l1.length : Int) := of_decide_eq_true (by first | (with_reducible assumption) | assumption)
             obtain ⟨ad246, e246, hx246_0, hx246_1⟩ := at_T38 HR1.out x15_2 p246 q246
             obtain rfl : ad244 = ad246 := (by injection e246)
             replace hx246_0 := (HB.out.cell (World.block_lt_of_cell? w _ hx246_0)).trans hx246_0
             replace hx246_1 := (HB.out.cell (World.block_lt_of_cell? w _ hx246_1)).trans hx246_1
             replace p246 := eq_true p246; replace q246 := eq_true q246
             have p247 : 0 ≤ (t245 : Int) := of_decide_eq_true (by first | (with_reducible assumption) | assumption)
             have q247 : t245 < (l1.length : Int) := of_decide_eq_true (by first | (with_reducible assumption) | assumption)
             obtain ⟨ad247, e247, hx247_0, hx247_1⟩ := at_T38 HR1.out t245 p247 q247
             obtain rfl : ad244 = ad247 := (by injection e247)
             replace hx247_0 := (HB.out.cell (World.block_lt_of_cell? w _ hx247_0)).trans hx247_0
             replace hx247_1 := (HB.out.cell (World.block_lt_of_cell? w _ hx247_1)).trans hx247_1
             replace p247 := eq_true p247; replace q247 := eq_true q247
             go_wp2
             go_meet
             case rel => exact ⟨_, ((((rd_T38 l1 t245).f0) == ((rd_T38 l1 x15_2).f0))), (by first | rfl | (simp; done) | (simp [*]; done)), H', ⟨by have := HK1.out; have := HK2.out; first | omega | exact Nat.le_refl _⟩, ⟨by (with_reducible repeat (first | refine blk_drewN ?_ _ | refine blk_drew ?_ | refine blk_alloc ?_ _)); exact BK239.out⟩, ⟨by repeat (first | (with_reducible first | exact HB.out | apply below_alloc | apply pw_below_drewN | apply below_drew1 | refine below_set ?_ GE239.out) | exact HB.out)⟩⟩
            ·rw [if_neg c27] at H
             exact absurd H (by simp)
           ·rw [if_neg c26] at H
            exact absurd H (by simp)
          ·rw [if_neg c25] at H
           have c25b0 : decide (0 ≤ t245) = false := decide_eq_false c25
           clear c25
           have H' := Aside0.mk H
           clear H
           have p246 : 0 ≤ (x15_2 : Int) := of_decide_eq_true (by first | (with_reducible assumption) | assumption)
           have q246 : x15_2 < (l1.length : Int) := of_decide_eq_true (by first | (with_reducible assumption) | assumption)
           obtain ⟨ad246, e246, hx246_0, hx246_1⟩ := at_T38 HR1.out x15_2 p246 q246
           obtain rfl : ad244 = ad246 := (by injection e246)
           replace hx246_0 := (HB.out.cell (World.block_lt_of_cell? w _ hx246_0)).trans hx246_0
           replace hx246_1 := (HB.out.cell (World.block_lt_of_cell? w _ hx246_1)).trans hx246_1
           replace p246 := eq_true p246; replace q246 := eq_true q246
           go_wp2
           go_meet
           case rel => exact ⟨_, (false), (by first | rfl | (simp; done) | (simp [*]; done)), H', ⟨by have := HK1.out; have := HK2.out; first | omega | exact Nat.le_refl _⟩, ⟨by (with_reducible repeat (first | refine blk_drewN ?_ _ | refine blk_drew ?_ | refine blk_alloc ?_ _)); exact BK239.out⟩, ⟨by repeat (first | (with_reducible first | exact HB.out | apply below_alloc | apply pw_below_drewN | apply below_drew1 | refine below_set ?_ GE239.out) | exact HB.out)⟩⟩
         ·rw [if_neg c24] at H
          have c24b0 : (((rd_T38 l1 x15_2).f1) == a4) = false := beq_eq_false_iff_ne.mpr c24
          have c24b1 : (((rd_T38 l1 x15_2).f1) != a4) = true := bne_iff_ne.mpr c24
          (first | rw [c24b0] | (simp only [i64_w, i32_w]; rw [c24b0]) | skip)
          have H' := Aside0.mk H
          clear H
          have p246 : 0 ≤ (x15_2 : Int) := of_decide_eq_true (by first | (with_reducible assumption) | assumption)
          have q246 : x15_2 < (l1.length : Int) := of_decide_eq_true (by first | (with_reducible assumption) | assumption)
          obtain ⟨ad246, e246, hx246_0, hx246_1⟩ := at_T38 HR1.out x15_2 p246 q246
          obtain rfl : ad244 = ad246 := (by injection e246)
          replace hx246_0 := (HB.out.cell (World.block_lt_of_cell? w _ hx246_0)).trans hx246_0
          replace hx246_1 := (HB.out.cell (World.block_lt_of_cell? w _ hx246_1)).trans hx246_1
          replace p246 := eq_true p246; replace q246 := eq_true q246
          go_wp2
          go_meet
          case rel => exact ⟨_, (false), (by first | rfl | (simp; done) | (simp [*]; done)), H', ⟨by have := HK1.out; have := HK2.out; first | omega | exact Nat.le_refl _⟩, ⟨by (with_reducible repeat (first | refine blk_drewN ?_ _ | refine blk_drew ?_ | refine blk_alloc ?_ _)); exact BK239.out⟩, ⟨by repeat (first | (with_reducible first | exact HB.out | apply below_alloc | apply pw_below_drewN | apply below_drew1 | refine below_set ?_ GE239.out) | exact HB.out)⟩⟩
        case rest =>
         clear HC23
         try clear c1
         try clear c2
         try clear p2
         try clear q2
         try clear hx2
         try clear c3
         try clear p6
         try clear c7
         try clear c8
         try clear c8b0
         try clear c9
         try clear c9b0
         try clear c10
         try clear c10b0
         try clear c11
         try clear c11b0
         try clear c11b1
         try clear c12
         try clear c12b0
         try clear c12b1
         try clear c13
         try clear c13b0
         try clear c20
         try clear c20b0
         try clear c21
         try clear c21b0
         try clear c24
         try clear c24b0
         try clear c24b1
         try clear p24
         try clear q24
         try clear hx24
         try clear c25
         try clear c25b0
         try clear c26
         try clear c26b0
         try clear c27
         try clear c27b0
         try clear hcz15_0
         try clear hcz15_1
         try clear hcz15_2
         try clear hcz15_3
         try clear hcz15_4
         try clear hcz16_0
         try clear hcz16_1
         try clear hcz16_2
         try clear hcz16_3
         try clear hcz16_4
         try clear hcz17_0
         try clear hcz17_1
         try clear hcz17_2
         try clear hcz17_3
         try clear hcz17_4
         try clear hcz18_0
         try clear hcz18_1
         try clear hcz18_2
         try clear hcz18_3
         try clear hcz18_4
         try clear hcz19_0
         try clear hcz19_1
         try clear hcz19_2
         try clear hcz19_3
         try clear hcz19_4
         try clear hfz15_0
         try clear hfz15_1
         try clear hfz15_2
         try clear hfz15_3
         try clear hfz15_4
         try clear hfz16_0
         try clear hfz16_1
         try clear hfz16_2
         try clear hfz16_3
         try clear hfz16_4
         try clear hfz17_0
         try clear hfz17_1
         try clear hfz17_2
         try clear hfz17_3
         try clear hfz17_4
         try clear hfz18_0
         try clear hfz18_1
         try clear hfz18_2
         try clear hfz18_3
         try clear hfz18_4
         try clear hfz19_0
         try clear hfz19_1
         try clear hfz19_2
         try clear hfz19_3
         try clear hfz19_4
         try clear hx240_0
         try clear hx240_1
         try clear hx241_0
         try clear hx241_1
         try clear hx242_0
         try clear hx243_0
         try clear hx244_0
         try clear hx244_1
         try clear hx246_0
         try clear hx246_1
         try clear hx247_0
         try clear hx247_1
         try clear p2
         try clear p240
         try clear p241
         try clear p242
         try clear p243
         try clear p244
         try clear p246
         try clear p247
         try clear p6
         try clear q2
         try clear q240
         try clear q241
         try clear q242
         try clear q243
         try clear q244
         try clear q246
         try clear q247
         obtain ⟨kq, x94_22, rfl, HA, HJ22, BK239, HB⟩ := hcut
         cases kq with
         | zero => exact absurd HA.out (by simp [mapmakerref41_one.j2])
         | succ kj22 =>
          have H := HA.out; clear HA
          simp only [mapmakerref41_one.j2] at H
          by_cases c28 : x94_22 = true
          ·subst c28
           have H1 : ((mapmakerref41_from.f kj22 l1 l2 l3 a4 ((rd_T38 l1 x15_2).f0)).bind fun t248 => ((mapmakerref41_from.f kj22 l1 l2 l3 ((rd_T38 l1 x15_2).f0) a5).bind fun t249 => ((mapmakerref41_sum.f t248 t249).bind fun t250 => (mapmakerref41_one.l1 kj22 l1 l2 l3 a4 a5 (mn x13_2 t250) (wrap64 (x15_2 + 1)))))) = some r := by rw [if_pos rfl] at H; exact H
           clear H; have H := H1; clear H1
           replace H := Option.bind_eq_some_iff.mp H
           obtain ⟨t248, A290, H⟩ := H
           replace H : ((mapmakerref41_from.f kj22 l1 l2 l3 ((rd_T38 l1 x15_2).f0) a5).bind fun t249 => ((mapmakerref41_sum.f t248 t249).bind fun t250 => (mapmakerref41_one.l1 kj22 l1 l2 l3 a4 a5 (mn x13_2 t250) (wrap64 (x15_2 + 1))))) = some r := H
           have A29 := Aside0.mk A290; clear A290
           replace H := Option.bind_eq_some_iff.mp H
           obtain ⟨t249, A300, H⟩ := H
           replace H : ((mapmakerref41_sum.f t248 t249).bind fun t250 => (mapmakerref41_one.l1 kj22 l1 l2 l3 a4 a5 (mn x13_2 t250) (wrap64 (x15_2 + 1)))) = some r := H
           have A30 := Aside0.mk A300; clear A300
           replace H := Option.bind_eq_some_iff.mp H
           obtain ⟨t250, A310, H⟩ := H
           replace H : (mapmakerref41_one.l1 kj22 l1 l2 l3 a4 a5 (mn x13_2 t250) (wrap64 (x15_2 + 1))) = some r := H
           have A31 := Aside0.mk A310; clear A310
           obtain ⟨ji32, hji32⟩ : ∃ j_ : Int, (mn x13_2 t250) = j_ := ⟨_, rfl⟩
           replace H : (mapmakerref41_one.l1 kj22 l1 l2 l3 a4 a5 ji32 (wrap64 (x15_2 + 1))) = some r := by first | (rw [hji32] at H; exact H) | (simp only [hji32] at H ⊢; exact H)
           (try rw [hji32] at A29)
           (try rw [hji32] at A30)
           (try rw [hji32] at A31)
           have hji32_ : (if t250 < x13_2 then t250 else x13_2) = ji32 := hji32
           have H' := Aside0.mk H
           clear H
           go_wp2_with (first | ((with_reducible refine gate_callee (f := 81) rfl ?_); refine goesL_ (some 101) rfl rfl Try.func81 (by kernel_rfl) rfl #[.slice (some ad244) l1.length c1, .slice A2 l2.length c2, .slice A3 l3.length c3, .int .i64 a4, .int .i64 ((rd_T38 l1 x15_2).f0)] rfl byL ?_; (with_reducible refine (mapmakerref41_from.calls kj22 _ _ l1 _ _ l2 _ _ l3 a4 ((rd_T38 l1 x15_2).f0) t248 _ ?side1 ?side2 ?side3 ?side4 ?side5 ?side6 A29.out).mono ?_); (case side1 => exact byC (Kd.C_below HR1.out HB.out)); (case side2 => exact HC1.out); (case side3 => exact byC (Kd.C_below HR2.out HB.out)); (case side4 => exact HC2.out); (case side5 => exact byC (Kd.C_below HR3.out HB.out)); (case side6 => exact HC3.out); rintro e w' ⟨rfl, ⟨nd, rfl⟩⟩; refine ⟨_, rfl, ?_⟩) | ((with_reducible refine gate_callee (f := 81) rfl ?_); refine goesL_ (some 107) rfl rfl Try.func81 (by kernel_rfl) rfl #[.slice (some ad244) l1.length c1, .slice A2 l2.length c2, .slice A3 l3.length c3, .int .i64 ((rd_T38 l1 x15_2).f0), .int .i64 a5] rfl byL ?_; (with_reducible refine (mapmakerref41_from.calls kj22 _ _ l1 _ _ l2 _ _ l3 ((rd_T38 l1 x15_2).f0) a5 t249 _ ?side1 ?side2 ?side3 ?side4 ?side5 ?side6 A30.out).mono ?_); (case side1 => exact byC (Kd.C_below HR1.out (byB1 HB.out GE239.out))); (case side2 => exact HC1.out); (case side3 => exact byC (Kd.C_below HR2.out (byB1 HB.out GE239.out))); (case side4 => exact HC2.out); (case side5 => exact byC (Kd.C_below HR3.out (byB1 HB.out GE239.out))); (case side6 => exact HC3.out); rintro e w' ⟨rfl, ⟨nd, rfl⟩⟩; refine ⟨_, rfl, ?_⟩) | ((with_reducible refine gate_callee (f := 80) rfl ?_); refine goesL_ (some 108) rfl rfl Try.func80 (by kernel_rfl) rfl #[.int .i64 t248, .int .i64 t249] rfl byL ?_; (with_reducible refine (mapmakerref41_sum.calls t248 t249 t250 _ A31.out).mono ?_); rintro e w' ⟨rfl, ⟨nd, rfl⟩⟩; refine ⟨_, rfl, ?_⟩))
           go_roundg kj22
           case measure => have := HK1.out; have := HK2.out; have := HJ22.out; omega
           case rel => exact ⟨(ji32), (wrap64 (x15_2 + 1)), (by first | rfl | (simp; done) | (simp only [← hji32] <;> (first | rfl | simp)) | (simp [*]; done)), (by first | rfl | (simp; done) | (simp [*]; done)), H', ⟨by have := HK1.out; have := HK2.out; have := HJ22.out; omega⟩, ⟨by (with_reducible repeat (first | refine blk_drewN ?_ _ | refine blk_drew ?_ | refine blk_alloc ?_ _)); exact BK239.out⟩, ⟨by repeat (first | (with_reducible first | exact HB.out | apply below_alloc | apply pw_below_drewN | apply below_drew1 | refine below_set ?_ GE239.out) | exact HB.out)⟩⟩
          ·replace c28 := Bool.eq_false_iff.mpr c28
           subst c28
           have H1 : (mapmakerref41_one.l1 kj22 l1 l2 l3 a4 a5 x13_2 (wrap64 (x15_2 + 1))) = some r := by rw [if_neg (show ¬ (false = true) by decide)] at H; exact H
           clear H; have H := H1; clear H1
           have H' := Aside0.mk H
           clear H
           go_wp2
           go_roundg kj22
           case measure => have := HK1.out; have := HK2.out; have := HJ22.out; omega
           case rel => exact ⟨(x13_2), (wrap64 (x15_2 + 1)), (by first | rfl | (simp; done) | (simp [*]; done)), (by first | rfl | (simp; done) | (simp [*]; done)), H', ⟨by have := HK1.out; have := HK2.out; have := HJ22.out; omega⟩, ⟨by (with_reducible repeat (first | refine blk_drewN ?_ _ | refine blk_drew ?_ | refine blk_alloc ?_ _)); exact BK239.out⟩, ⟨by repeat (first | (with_reducible first | exact HB.out | apply below_alloc | apply pw_below_drewN | apply below_drew1 | refine below_set ?_ GE239.out) | exact HB.out)⟩⟩
       ·rw [if_neg c21] at H
        exact absurd H (by simp)
      ·rw [if_neg c20] at H
       have c20b0 : decide (x15_2 < (l1.length : Int)) = false := decide_eq_false c20
       clear c20
       obtain rfl := Option.some.inj H
       go_wp2
       go_ret
       exact ⟨by first | rfl | (simp [errW_none, errW_some] <;> rfl) | (simp [*, errW_none, errW_some] <;> rfl), by repeat (first | (with_reducible first | exact HB.out | apply below_alloc | apply pw_below_drewN | apply below_drew1 | refine below_set ?_ GE239.out) | exact HB.out)⟩

end Go.Proofs.Ytcfeehaoeaoegaa.Print
