/- Written by a program of this claim's author (xprint.py, over the kit's print.py): the call of mapmaker/mapmakerref47.Expand comes to what the Lean function of its name says. -/
import Derived.Test.YtaodlehnfjalnaaPrint0
import Derived.Test.YtaodlehnfjalnaaM6
import Derived.Test.YtaodlehnfjalnaaF20
import Derived.Test.YtaodlehnfjalnaaM9
import Derived.Test.YtaodlehnfjalnaaM0
namespace Go.Proofs.Ytaodlehnfjalnaa.Print
open Go.RowKit Go.Proofs.YtaodlehnfjalnaaW.PrintWords Go.Proofs.YtaodlehnfjalnaaW.PrintLast Go.Proofs.YtaodlehnfjalnaaW.PrintMore
attribute [local go_sem] max2_int min2_int max_two min_two max_three min_three max_four min_four   -- for this text's walks alone
set_option linter.unusedVariables false
set_option linter.unusedSimpArgs false
/-! ### mapmakerref47_Expand: function 43 -/
mutual
def mapmakerref47_Expand.l0 : Nat → List (S42) → Int → Int → List Int → List (S158) → List (S58) → Int → List (S92) → Option (Int × (List (S92)))
 | 0, _, _, _, _, _, _, _, _ => none
 | k + 1, x1, x5, x7, x262000, x262001, x262002, x265000, x265001 => if x7 < x5 then (if 0 ≤ x7 then (if x7 < (x262002.length : Int) then ((mapmakerref47_Source.f k x262000 x262001 x262002 ((rd_T58 x262002 x7).f0)).bind fun t266 => (if x265001.length < 8796093022208 then (mapmakerref47_Expand.l0 k x1 x5 (wrap64 (x7 + 1)) x262000 x262001 x262002 x265000 (x265001 ++ [(⟨t266, x7⟩ : S92)])) else (none))) else (none)) else (none)) else (mapmakerref47_Expand.l1 k x1 x5 0 x262000 x262001 x262002 x265000 x265001)
def mapmakerref47_Expand.l1 : Nat → List (S42) → Int → Int → List Int → List (S158) → List (S58) → Int → List (S92) → Option (Int × (List (S92)))
 | 0, _, _, _, _, _, _, _, _ => none
 | k + 1, x1, x5, x8, x262000, x262001, x262002, x265000, x265001 => if x8 < x5 then (mapmakerref47_Expand.l2 k x1 x5 x8 0 x262000 x262001 x262002 x265000 x265001) else (mapmakerref47_Expand.l3 k x5 0 x262000 x262001 x262002 x265000 x265001)
def mapmakerref47_Expand.l2 : Nat → List (S42) → Int → Int → Int → List Int → List (S158) → List (S58) → Int → List (S92) → Option (Int × (List (S92)))
 | 0, _, _, _, _, _, _, _, _, _ => none
 | k + 1, x1, x5, x8, x9, x262000, x262001, x262002, x265000, x265001 => if x9 < x5 then ((mapmakerref47_Allowed.f x262000 x262001 x262002 x1 x8 x9).bind fun t270 => (if t270 = true then (if x265001.length < 8796093022208 then (mapmakerref47_Expand.l2 k x1 x5 x8 (wrap64 (x9 + 1)) x262000 x262001 x262002 x265000 (x265001 ++ [(⟨x8, x9⟩ : S92)])) else (none)) else (mapmakerref47_Expand.l2 k x1 x5 x8 (wrap64 (x9 + 1)) x262000 x262001 x262002 x265000 x265001))) else (mapmakerref47_Expand.l1 k x1 x5 (wrap64 (x8 + 1)) x262000 x262001 x262002 x265000 x265001)
def mapmakerref47_Expand.l3 : Nat → Int → Int → List Int → List (S158) → List (S58) → Int → List (S92) → Option (Int × (List (S92)))
 | 0, _, _, _, _, _, _, _ => none
 | k + 1, x5, x10, x262000, x262001, x262002, x265000, x265001 => if x10 < x5 then (if 0 ≤ x10 then (if x10 < (x262002.length : Int) then ((mapmakerref47_Target.f k x262000 x262001 x262002 ((rd_T58 x262002 x10).f1)).bind fun t275 => (if x265001.length < 8796093022208 then (mapmakerref47_Expand.l3 k x5 (wrap64 (x10 + 1)) x262000 x262001 x262002 x265000 (x265001 ++ [(⟨x10, t275⟩ : S92)])) else (none))) else (none)) else (none)) else (some (x265000, x265001))
end
def mapmakerref47_Expand.f (k : Nat) (l0_0 : List Int) (l0_1 : List (S158)) (l0_2 : List (S58)) (l1 : List (S42)) : Option (Int × (List (S92))) := (mapmakerref46_Check.f k l0_0 l0_1 l0_2).bind fun t263 => (if t263 = 0 then (mapmakerref47_Expand.l0 k l1 (l0_2.length : Int) 0 l0_0 l0_1 l0_2 (wrap64 ((l0_2.length : Int) + (wrap64 (2 * (l0_0.length : Int))))) ([] : List (S92))) else (some (0, ([] : List (S92)))))
def mapmakerref47_Expand.T8 : Bool × List (List Nat × List Nat) := (true, [([], []), ([0], [0]), ([], []), ([], []), ([3], [3]), ([], []), ([4, 5], [4, 5]), ([6], [6]), ([7], [7]), ([2, 8], [2, 8]), ([], []), ([9, 10], [9, 10]), ([11], [11]), ([1, 12, 9], [1, 12]), ([0, 1, 2, 3, 4, 5, 6, 7, 8, 9, 10, 11, 12, 13], []), ([14, 13, 13, 0, 1, 2, 3, 4, 5, 6, 7, 8, 9, 10, 11, 12, 13], [13, 14])])
def mapmakerref47_Expand.B8 : List Nat := [0, 1, 0, 0, 8, 0, 56, 120, 248, 508, 0, 2044, 4092, 8191, 16383, 32767]
theorem mapmakerref47_Expand.tab8 : rtab .any (opsOf Try.f43 8) = mapmakerref47_Expand.T8 := by kernel_rfl
theorem mapmakerref47_Expand.bits8 : waitsOk mapmakerref47_Expand.T8.2 mapmakerref47_Expand.B8 = true := by kernel_rfl
def mapmakerref47_Expand.T20 : Bool × List (List Nat × List Nat) := (true, [([], []), ([0], [0]), ([], []), ([], []), ([], []), ([4], [4]), ([], []), ([5, 6], [5, 6]), ([7], [7]), ([8], [8]), ([3, 9], [3, 9]), ([2, 10], [2, 10]), ([11], [11]), ([1, 12, 10], [1, 12]), ([0, 1, 2, 3, 4, 5, 6, 7, 8, 9, 10, 11, 12, 13], []), ([14, 13, 13, 0, 1, 2, 3, 4, 5, 6, 7, 8, 9, 10, 11, 12, 13], [13, 14])])
def mapmakerref47_Expand.B20 : List Nat := [0, 1, 0, 0, 0, 16, 0, 112, 240, 496, 1016, 2044, 4092, 8191, 16383, 32767]
theorem mapmakerref47_Expand.tab20 : rtab .any (opsOf Try.f43 20) = mapmakerref47_Expand.T20 := by kernel_rfl
theorem mapmakerref47_Expand.bits20 : waitsOk mapmakerref47_Expand.T20.2 mapmakerref47_Expand.B20 = true := by kernel_rfl
set_option maxHeartbeats 8000000 in
set_option maxRecDepth 100000 in
theorem mapmakerref47_Expand.calls (k : Nat) (A0_0 : Option Addr) (c0_0 : Nat) (l0_0 : List Int) (A0_1 : Option Addr) (c0_1 : Nat) (l0_1 : List (S158)) (A0_2 : Option Addr) (c0_2 : Nat) (l0_2 : List (S58)) (A1 : Option Addr) (c1 : Nat) (l1 : List (S42)) (r1 : Int) (r2 : List (S92)) (w : World) (hr0_0 : Kd.C (Kd.int .i64) w A0_0 l0_0.length l0_0) (hc0_0 : l0_0.length ≤ c0_0) (hr0_1 : Kd.C k158 w A0_1 l0_1.length l0_1) (hc0_1 : l0_1.length ≤ c0_1) (hr0_2 : Kd.C k58 w A0_2 l0_2.length l0_2) (hc0_2 : l0_2.length ≤ c0_2) (hr1 : Kd.C k42 w A1 l1.length l1) (hc1 : l1.length ≤ c1) (h : mapmakerref47_Expand.f k l0_0 l0_1 l0_2 l1 = some (r1, r2)) :
  Calls Try.prog 43 #[.agg #[.slice A0_0 l0_0.length c0_0, .slice A0_1 l0_1.length c0_1, .slice A0_2 l0_2.length c0_2], .slice A1 l1.length c1] w fun e w' => ∃ v1_ : Value, e = .returned (.agg #[.int .i64 r1, v1_]) ∧ Kd.R k92 92 w' w.heap.size (fun _ => True) v1_ r2 ∧ Below w.heap.size w w' := by
 have hu37 := Try.underlying37; have hu51 := Try.underlying51; have hu92 := Try.underlying92; have HR0_0 := Aside0.mk hr0_0; have HC0_0 := Aside0.mk hc0_0; clear hr0_0 hc0_0; have HR0_1 := Aside0.mk hr0_1; have HC0_1 := Aside0.mk hc0_1; clear hr0_1 hc0_1; have HR0_2 := Aside0.mk hr0_2; have HC0_2 := Aside0.mk hc0_2; clear hr0_2 hc0_2; have HR1 := Aside0.mk hr1; have HC1 := Aside0.mk hc1; clear hr1 hc1; have HB := Aside0.mk (Below.refl w.heap.size w)
 have H : ((mapmakerref46_Check.f k l0_0 l0_1 l0_2).bind fun t263 => (if t263 = 0 then (mapmakerref47_Expand.l0 k l1 (l0_2.length : Int) 0 l0_0 l0_1 l0_2 (wrap64 ((l0_2.length : Int) + (wrap64 (2 * (l0_0.length : Int))))) ([] : List (S92))) else (some (0, ([] : List (S92)))))) = some (r1, r2) := h
 clear h
 replace H := Option.bind_eq_some_iff.mp H
 obtain ⟨t263, A30, H⟩ := H
 replace H : (if t263 = 0 then (mapmakerref47_Expand.l0 k l1 (l0_2.length : Int) 0 l0_0 l0_1 l0_2 (wrap64 ((l0_2.length : Int) + (wrap64 (2 * (l0_0.length : Int))))) ([] : List (S92))) else (some (0, ([] : List (S92))))) = some (r1, r2) := H
 have A3 := Aside0.mk A30; clear A30
 by_cases c4 : t263 = 0
 ·rw [if_pos c4] at H
  have c4b0 : (t263 == 0) = true := beq_iff_eq.mpr c4
  have c4b1 : (t263 != 0) = false := bne_eq_false_iff_eq.mpr c4
  clear c4
  have H' := Aside0.mk H
  clear H
  go_enter Try.func43, Try.ntmps43
  go_wp2_with (first | ((with_reducible refine gate_dst (N := 2) rfl ?_); refine box_event ?hg (N := 2) ?hd (cs := #[.slice A0_0 l0_0.length c0_0, .slice A0_1 l0_1.length c0_1, .slice A0_2 l0_2.length c0_2]) (t := 37) ?hr ?_; (case hd => rfl); (case hg => rfl); (case hr => first | (go_simp; done) | (go_simp; rfl)); intro gb261 hg w5 hbox hb; have n0_ := Aside0.mk (below_step (byB HB.out) hb); have n1_ := Aside0.mk (hbox); have n2_ := Aside0.mk ((by rw [hg]; exact (below_size (byB HB.out)) : w.heap.size ≤ gb261)); have n3_ := Aside0.mk ((by rw [hg]; exact (below_size (byB HB.out)) : w.heap.size ≤ gb261)); clear HB; have HB := n0_; have BK261 := n1_; have GW261 := n2_; have GE261 := n3_; clear n0_ n1_ n2_ n3_ hb hbox hg) | ((with_reducible refine gate_dst (N := 4) rfl ?_); refine box_event ?hg (N := 4) ?hd (cs := #[.int .i64 0, .slice none 0 0]) (t := 51) ?hr ?_; (case hd => rfl); (case hg => rfl); (case hr => first | (go_simp; done) | (go_simp; rfl)); intro gb262 hg w6 hbox hb; have n0_ := Aside0.mk (blk_below (g := gb261) (o := .cells #[.slice A0_0 l0_0.length c0_0, .slice A0_1 l0_1.length c0_1, .slice A0_2 l0_2.length c0_2] 37 (0, 0)) (byK BK261.out) hb); have n1_ := Aside0.mk (below_step (byB1 HB.out GE261.out) hb); have n2_ := Aside0.mk (hbox); have n3_ := Aside0.mk ((by rw [hg]; exact (below_size (byB1 HB.out GE261.out)) : w.heap.size ≤ gb262)); have n4_ := Aside0.mk ((by rw [hg]; exact (below_size (byB1 HB.out GE261.out)) : w.heap.size ≤ gb262)); have n5_ := Aside0.mk ((by rw [hg]; exact Nat.ne_of_lt (blk_lt (g := gb261) (o := .cells #[.slice A0_0 l0_0.length c0_0, .slice A0_1 l0_1.length c0_1, .slice A0_2 l0_2.length c0_2] 37 (0, 0)) (byK BK261.out)) : gb261 ≠ gb262)); have n6_ := Aside0.mk ((by rw [hg]; exact Nat.ne_of_gt (blk_lt (g := gb261) (o := .cells #[.slice A0_0 l0_0.length c0_0, .slice A0_1 l0_1.length c0_1, .slice A0_2 l0_2.length c0_2] 37 (0, 0)) (byK BK261.out)) : gb262 ≠ gb261)); clear BK261 HB; have BK261 := n0_; have HB := n1_; have BK262 := n2_; have GW262 := n3_; have GE262 := n4_; have NB261_262 := n5_; have NB262_261 := n6_; clear n0_ n1_ n2_ n3_ n4_ n5_ n6_ hb hbox hg; have hnb7 := NB261_262.out; have hnc7 := NB262_261.out; have hcz8_0 : w6.cell? ⟨gb261, 0, none⟩ = some (.slice A0_0 l0_0.length c0_0) := (blk_cell BK261.out 0).trans rfl; have hcz8_1 : w6.cell? ⟨gb261, 1, none⟩ = some (.slice A0_1 l0_1.length c0_1) := (blk_cell BK261.out 1).trans rfl; have hcz8_2 : w6.cell? ⟨gb261, 2, none⟩ = some (.slice A0_2 l0_2.length c0_2) := (blk_cell BK261.out 2).trans rfl; have hfz8_0 := blk_frozen BK261.out 0; have hfz8_1 := blk_frozen BK261.out 1; have hfz8_2 := blk_frozen BK261.out 2) | ((with_reducible refine gate_callee (f := 20) rfl ?_); refine goesL_ (some 12) rfl rfl Try.func20 (by kernel_rfl) rfl #[.agg #[.slice A0_0 l0_0.length c0_0, .slice A0_1 l0_1.length c0_1, .slice A0_2 l0_2.length c0_2]] rfl byL ?_; (with_reducible refine (mapmakerref46_Check.calls k _ _ l0_0 _ _ l0_1 _ _ l0_2 t263 _ ?side1 ?side2 ?side3 ?side4 ?side5 ?side6 A3.out).mono ?_); (case side1 => exact byC (Kd.C_below HR0_0.out HB.out)); (case side2 => exact HC0_0.out); (case side3 => exact byC (Kd.C_below HR0_1.out HB.out)); (case side4 => exact HC0_1.out); (case side5 => exact byC (Kd.C_below HR0_2.out HB.out)); (case side6 => exact HC0_2.out); rintro e w9 ⟨rfl, hb⟩; refine ⟨_, rfl, ?_⟩; have n0_ := Aside0.mk (blk_below (g := gb261) (o := .cells #[.slice A0_0 l0_0.length c0_0, .slice A0_1 l0_1.length c0_1, .slice A0_2 l0_2.length c0_2] 37 (0, 0)) (byK BK261.out) hb); have n1_ := Aside0.mk (blk_below (g := gb262) (o := .cells #[.int .i64 0, .slice none 0 0] 51 (0, 0)) (byK BK262.out) hb); have n2_ := Aside0.mk (below_step (byB2 HB.out GE261.out GE262.out) hb); clear BK261 BK262 HB; have BK261 := n0_; have BK262 := n1_; have HB := n2_; clear n0_ n1_ n2_; (try clear hb); (try clear hb2); (try clear hk); (try clear hi); have hcz10_0 : w9.cell? ⟨gb261, 0, none⟩ = some (.slice A0_0 l0_0.length c0_0) := (blk_cell BK261.out 0).trans rfl; have hcz10_1 : w9.cell? ⟨gb261, 1, none⟩ = some (.slice A0_1 l0_1.length c0_1) := (blk_cell BK261.out 1).trans rfl; have hcz10_2 : w9.cell? ⟨gb261, 2, none⟩ = some (.slice A0_2 l0_2.length c0_2) := (blk_cell BK261.out 2).trans rfl; have hfz10_0 := blk_frozen BK261.out 0; have hfz10_1 := blk_frozen BK261.out 1; have hfz10_2 := blk_frozen BK261.out 2) | ((with_reducible refine gate_dst (N := 6) rfl ?_); refine box_event ?hg (N := 6) ?hd (cs := #[.int .i64 0, .slice none 0 0]) (t := 51) ?hr ?_; (case hd => rfl); (case hg => rfl); (case hr => first | (go_simp; done) | (go_simp; rfl)); intro gb264 hg w11 hbox hb; have n0_ := Aside0.mk (blk_below (g := gb261) (o := .cells #[.slice A0_0 l0_0.length c0_0, .slice A0_1 l0_1.length c0_1, .slice A0_2 l0_2.length c0_2] 37 (0, 0)) (byK BK261.out) hb); have n1_ := Aside0.mk (blk_below (g := gb262) (o := .cells #[.int .i64 0, .slice none 0 0] 51 (0, 0)) (byK BK262.out) hb); have n2_ := Aside0.mk (below_step (byB2 HB.out GE261.out GE262.out) hb); have n3_ := Aside0.mk (hbox); have n4_ := Aside0.mk ((by rw [hg]; exact (below_size (byB2 HB.out GE261.out GE262.out)) : w.heap.size ≤ gb264)); have n5_ := Aside0.mk ((by rw [hg]; exact (below_size (byB2 HB.out GE261.out GE262.out)) : w.heap.size ≤ gb264)); have n6_ := Aside0.mk ((by rw [hg]; exact Nat.ne_of_lt (blk_lt (g := gb261) (o := .cells #[.slice A0_0 l0_0.length c0_0, .slice A0_1 l0_1.length c0_1, .slice A0_2 l0_2.length c0_2] 37 (0, 0)) (byK BK261.out)) : gb261 ≠ gb264)); have n7_ := Aside0.mk ((by rw [hg]; exact Nat.ne_of_gt (blk_lt (g := gb261) (o := .cells #[.slice A0_0 l0_0.length c0_0, .slice A0_1 l0_1.length c0_1, .slice A0_2 l0_2.length c0_2] 37 (0, 0)) (byK BK261.out)) : gb264 ≠ gb261)); have n8_ := Aside0.mk ((by rw [hg]; exact Nat.ne_of_lt (blk_lt (g := gb262) (o := .cells #[.int .i64 0, .slice none 0 0] 51 (0, 0)) (byK BK262.out)) : gb262 ≠ gb264)); have n9_ := Aside0.mk ((by rw [hg]; exact Nat.ne_of_gt (blk_lt (g := gb262) (o := .cells #[.int .i64 0, .slice none 0 0] 51 (0, 0)) (byK BK262.out)) : gb264 ≠ gb262)); clear BK261 BK262 HB; have BK261 := n0_; have BK262 := n1_; have HB := n2_; have BK264 := n3_; have GW264 := n4_; have GE264 := n5_; have NB261_264 := n6_; have NB264_261 := n7_; have NB262_264 := n8_; have NB264_262 := n9_; clear n0_ n1_ n2_ n3_ n4_ n5_ n6_ n7_ n8_ n9_ hb hbox hg; have hnb12 := NB264_261.out; have hnc12 := NB261_264.out; have hnb13 := NB264_262.out; have hnc13 := NB262_264.out; have hcz14_0 : w11.cell? ⟨gb264, 0, none⟩ = some (.int .i64 0) := (blk_cell BK264.out 0).trans rfl; have hcz14_1 : w11.cell? ⟨gb264, 1, none⟩ = some (.slice none 0 0) := (blk_cell BK264.out 1).trans rfl; have hfz14_0 := blk_frozen BK264.out 0; have hfz14_1 := blk_frozen BK264.out 1))
  go_loopg [7] k (fun kq v7 w' => ∃ (x7_1 : Int) (x265001_1 : List (S92)) (u265001 : Value), v7 = .int .i64 x7_1 ∧ Aside0 (mapmakerref47_Expand.l0 kq l1 (l0_2.length : Int) x7_1 l0_0 l0_1 l0_2 (wrap64 ((l0_2.length : Int) + (wrap64 (2 * (l0_0.length : Int))))) x265001_1 = some (r1, r2)) ∧ Aside0 (kq ≤ k) ∧ Aside0 (Kd.R k92 92 w' w.heap.size (fun _ => True) u265001 x265001_1) ∧ Aside0 (w'.heap[gb261]? = some (.cells #[(.slice A0_0 l0_0.length c0_0), (.slice A0_1 l0_1.length c0_1), (.slice A0_2 l0_2.length c0_2)] 37 (0, 0))) ∧ Aside0 (w'.heap[gb262]? = some (.cells #[.int .i64 0, (.slice none 0 0)] 51 (0, 0))) ∧ Aside0 (w'.heap[gb264]? = some (.cells #[.int .i64 (wrap64 ((l0_2.length : Int) + (wrap64 (2 * (l0_0.length : Int))))), u265001] 51 (0, 0))) ∧ Aside0 (Below w.heap.size w w'))
  case atStart => exact ⟨(0), (([] : List (S92))), (.slice none 0 0), byF, H', ⟨Nat.le_refl _⟩, ⟨by first | exact Kd.R_nil _ _ _ _ _ | exact Kd.N_nil _ _ _ _ _ | exact Kd.V_nil _ _ _ _ _ | exact Kd.Q_nil _ _ _ _ _ | exact Kd.S_nil _ _ _ _ _⟩, ⟨by (with_reducible repeat (first | refine blk_drewN ?_ _ | refine blk_drew ?_ | refine blk_alloc ?_ _)); refine blk_far ?_ NB261_264.out _; (with_reducible repeat (first | refine blk_drewN ?_ _ | refine blk_drew ?_ | refine blk_alloc ?_ _)); refine blk_far ?_ NB261_264.out _; (with_reducible repeat (first | refine blk_drewN ?_ _ | refine blk_drew ?_ | refine blk_alloc ?_ _)); exact BK261.out⟩, ⟨by (with_reducible repeat (first | refine blk_drewN ?_ _ | refine blk_drew ?_ | refine blk_alloc ?_ _)); refine blk_far ?_ NB262_264.out _; (with_reducible repeat (first | refine blk_drewN ?_ _ | refine blk_drew ?_ | refine blk_alloc ?_ _)); refine blk_far ?_ NB262_264.out _; (with_reducible repeat (first | refine blk_drewN ?_ _ | refine blk_drew ?_ | refine blk_alloc ?_ _)); exact BK262.out⟩, ⟨by (with_reducible repeat (first | refine blk_drewN ?_ _ | refine blk_drew ?_ | refine blk_alloc ?_ _)); refine blk_put (cs := #[.int .i64 (wrap64 ((l0_2.length : Int) + (wrap64 (2 * (l0_0.length : Int))))), .slice none 0 0]) ?_ 1 _ rfl; (with_reducible repeat (first | refine blk_drewN ?_ _ | refine blk_drew ?_ | refine blk_alloc ?_ _)); refine blk_put (cs := #[.int .i64 0, .slice none 0 0]) ?_ 0 _ rfl; (with_reducible repeat (first | refine blk_drewN ?_ _ | refine blk_drew ?_ | refine blk_alloc ?_ _)); exact BK264.out⟩, ⟨byB3 HB.out GE261.out GE262.out GE264.out⟩⟩
  case round =>
   clear H'
   try clear c1
   try clear c2
   try clear p2
   try clear c4
   try clear c4b0
   try clear c4b1
   try clear p6
   try clear c7
   try clear c12
   try clear c13
   try clear hcz10_0
   try clear hcz10_1
   try clear hcz10_2
   try clear hcz14_0
   try clear hcz14_1
   try clear hcz8_0
   try clear hcz8_1
   try clear hcz8_2
   try clear hfz10_0
   try clear hfz10_1
   try clear hfz10_2
   try clear hfz14_0
   try clear hfz14_1
   try clear hfz8_0
   try clear hfz8_1
   try clear hfz8_2
   obtain ⟨x7_1, x265001_1, u265001, rfl, HA, HK1, HO_265001, BK261, BK262, BK264, HB⟩ := hrel
   cases gk with
   | zero => exact absurd HA.out (by simp [mapmakerref47_Expand.l0])
   | succ k1 =>
    have H := HA.out; clear HA
    simp only [mapmakerref47_Expand.l0] at H
    by_cases c15 : x7_1 < (l0_2.length : Int)
    ·rw [if_pos c15] at H
     have c15b0 : decide (x7_1 < (l0_2.length : Int)) = true := decide_eq_true c15
     clear c15
     by_cases c16 : 0 ≤ x7_1
     ·rw [if_pos c16] at H
      have c16b0 : decide (0 ≤ x7_1) = true := decide_eq_true c16
      clear c16
      by_cases c17 : x7_1 < (l0_2.length : Int)
      ·rw [if_pos c17] at H
       have c17b0 : decide (x7_1 < (l0_2.length : Int)) = true := decide_eq_true c17
       clear c17
       replace H := Option.bind_eq_some_iff.mp H
       obtain ⟨t266, A180, H⟩ := H
       replace H : (if x265001_1.length < 8796093022208 then (mapmakerref47_Expand.l0 k1 l1 (l0_2.length : Int) (wrap64 (x7_1 + 1)) l0_0 l0_1 l0_2 (wrap64 ((l0_2.length : Int) + (wrap64 (2 * (l0_0.length : Int))))) (x265001_1 ++ [(⟨t266, x7_1⟩ : S92)])) else (none)) = some (r1, r2) := H
       have A18 := Aside0.mk A180; clear A180
       by_cases c19 : x265001_1.length < 8796093022208
       ·rw [if_pos c19] at H
        have LMc19 := Aside0.mk c19; clear c19
        obtain ⟨y267, hy267⟩ : ∃ y_ : List (S92), y_ = (x265001_1 ++ [(⟨t266, x7_1⟩ : S92)]) := ⟨_, rfl⟩
        replace H : (mapmakerref47_Expand.l0 k1 l1 (l0_2.length : Int) (wrap64 (x7_1 + 1)) l0_0 l0_1 l0_2 (wrap64 ((l0_2.length : Int) + (wrap64 (2 * (l0_0.length : Int))))) y267) = some (r1, r2) := by first | (rw [hy267]; with_reducible exact H) | (have H2_ := (Option.bind_some _ _).symm.trans H; rw [hy267]; with_reducible exact H2_) | (have H2_ := (Option.bind_some _ _).symm.trans H; with_reducible exact H2_) | with_reducible exact H | (rw [hy267]; exact H) | exact H
        have Ny267 := Aside0.mk hy267; clear hy267
        have H' := Aside0.mk H
        clear H
        try go_wp2
        have n0_ := Aside0.mk (Kd.R_drew HO_265001.out); have n1_ := Aside0.mk (blk_drew BK261.out); have n2_ := Aside0.mk (blk_drew BK262.out); have n3_ := Aside0.mk (blk_drew BK264.out); have n4_ := Aside0.mk (below_drew1 HB.out); clear HO_265001 BK261 BK262 BK264 HB; have HO_265001 := n0_; have BK261 := n1_; have BK262 := n2_; have BK264 := n3_; have HB := n4_; clear n0_ n1_ n2_ n3_ n4_
        have p265 : 0 ≤ (x7_1 : Int) := odt
        have q265 : x7_1 < (l0_2.length : Int) := odt
        obtain ⟨ad265, A265_5, c265_5, e265, hx265_0, hx265_1, hx265_2, hx265_3, hx265_4, hx265_5, hx265_6, hx265_7, hl265_5, hi265_5⟩ := at_T58 HR0_2.out x7_1 p265 q265
        have hw265_7 := hx265_7; have hw265_6 := hx265_6; have hw265_5 := hx265_5; have hw265_4 := hx265_4; have hw265_3 := hx265_3; have hw265_2 := hx265_2; have hw265_1 := hx265_1; have hw265_0 := hx265_0
        cases e265
        replace hx265_0 := (HB.out.cell (World.block_lt_of_cell? w _ hx265_0)).trans hx265_0
        replace hx265_1 := (HB.out.cell (World.block_lt_of_cell? w _ hx265_1)).trans hx265_1
        replace hx265_2 := (HB.out.cell (World.block_lt_of_cell? w _ hx265_2)).trans hx265_2
        replace hx265_3 := (HB.out.cell (World.block_lt_of_cell? w _ hx265_3)).trans hx265_3
        replace hx265_4 := (HB.out.cell (World.block_lt_of_cell? w _ hx265_4)).trans hx265_4
        replace hx265_5 := (HB.out.cell (World.block_lt_of_cell? w _ hx265_5)).trans hx265_5
        replace hx265_6 := (HB.out.cell (World.block_lt_of_cell? w _ hx265_6)).trans hx265_6
        replace hx265_7 := (HB.out.cell (World.block_lt_of_cell? w _ hx265_7)).trans hx265_7
        have HR265_5 := Aside0.mk hi265_5; have HC265_5 := Aside0.mk hl265_5; clear hi265_5 hl265_5; replace p265 := eq_true p265; replace q265 := eq_true q265
        refine start_ (n := 16) (S := fun w' => w'.cell? ⟨gb264, 0, none⟩ = some (.int .i64 (wrap64 ((l0_2.length : Int) + (wrap64 (2 * (l0_0.length : Int)))))) ∧ w'.cell? ⟨gb264, 1, none⟩ = some (u265001) ∧ w'.cell? ⟨gb261, 0, none⟩ = some (.slice A0_0 l0_0.length c0_0) ∧ w'.cell? ⟨gb261, 1, none⟩ = some (.slice A0_1 l0_1.length c0_1) ∧ w'.cell? ⟨gb261, 2, none⟩ = some (.slice (some ad265) l0_2.length c0_2) ∧ w'.cell? (ad265.add ((x7_1).toNat * 8)) = some (.int .i64 ((rd_T58 l0_2 x7_1).f0)) ∧ w'.cell? ⟨(ad265.add ((x7_1).toNat * 8)).block, (ad265.add ((x7_1).toNat * 8)).off + 1, none⟩ = some (.int .i64 ((rd_T58 l0_2 x7_1).f1)) ∧ w'.cell? ⟨(ad265.add ((x7_1).toNat * 8)).block, (ad265.add ((x7_1).toNat * 8)).off + 2, none⟩ = some (.int .i64 ((rd_T58 l0_2 x7_1).f2)) ∧ w'.cell? ⟨(ad265.add ((x7_1).toNat * 8)).block, (ad265.add ((x7_1).toNat * 8)).off + 3, none⟩ = some (.int .i64 ((rd_T58 l0_2 x7_1).f3)) ∧ w'.cell? ⟨(ad265.add ((x7_1).toNat * 8)).block, (ad265.add ((x7_1).toNat * 8)).off + 4, none⟩ = some (.int .i64 ((rd_T58 l0_2 x7_1).f4)) ∧ w'.cell? ⟨(ad265.add ((x7_1).toNat * 8)).block, (ad265.add ((x7_1).toNat * 8)).off + 5, none⟩ = some (.slice A265_5 ((rd_T58 l0_2 x7_1).f5.f0).length c265_5) ∧ w'.cell? ⟨(ad265.add ((x7_1).toNat * 8)).block, (ad265.add ((x7_1).toNat * 8)).off + 6, none⟩ = some (.int .i64 ((rd_T58 l0_2 x7_1).f5.f1)) ∧ w'.cell? ⟨(ad265.add ((x7_1).toNat * 8)).block, (ad265.add ((x7_1).toNat * 8)).off + 7, none⟩ = some (.int .i64 ((rd_T58 l0_2 x7_1).f5.f2))) (ds := [15]) (bits 16 0) (by kernel_rfl) rfl rfl ⟨(blk_cell BK264.out 0).trans rfl, (blk_cell BK264.out 1).trans rfl, (blk_cell BK261.out 0).trans rfl, (blk_cell BK261.out 1).trans rfl, (blk_cell BK261.out 2).trans rfl, ((HB.out.cell (World.block_lt_of_cell? w _ hw265_0)).trans hw265_0), ((HB.out.cell (World.block_lt_of_cell? w _ hw265_1)).trans hw265_1), ((HB.out.cell (World.block_lt_of_cell? w _ hw265_2)).trans hw265_2), ((HB.out.cell (World.block_lt_of_cell? w _ hw265_3)).trans hw265_3), ((HB.out.cell (World.block_lt_of_cell? w _ hw265_4)).trans hw265_4), ((HB.out.cell (World.block_lt_of_cell? w _ hw265_5)).trans hw265_5), ((HB.out.cell (World.block_lt_of_cell? w _ hw265_6)).trans hw265_6), ((HB.out.cell (World.block_lt_of_cell? w _ hw265_7)).trans hw265_7)⟩ (fun hHeld => ?_); refine with_tabW mapmakerref47_Expand.tab8 mapmakerref47_Expand.bits8 (fun HT_ HW_ => ?_)
        generalize wr.drew = w20 at HO_265001 BK261 BK262 BK264 HB HR265_5 hx265_0 hx265_1 hx265_2 hx265_3 hx265_4 hx265_5 hx265_6 hx265_7 hHeld ⊢
        refine q_ 0 30 HT_ ?_; refine q_ 3 33 HT_ ?_; refine q_ 5 35 HT_ ?_; refine q_ 10 40 HT_ ?_; refine take_ (i := 1) (N := some 31) (v := ?_) (a' := ?_) (bits 16 1067) rfl rfl (take_ofW HT_.out HW_.out (by kernel_rfl)) (fun _ _ _ h => h) (Or.inl ⟨by rfl, ?_⟩) hHeld ?_ ?_; rotate_left; (·rintro w' ⟨s0, s1, s2, s3, s4, s5, s6, s7, s8, s9, s10, s11, s12⟩; go_simp; with_reducible rfl); rotate_left; (·simp only [putW]; rfl); refine take_ (i := 2) (N := some 32) (v := ?_) (a' := ?_) (bits 16 1071) rfl rfl (take_ofW HT_.out HW_.out (by kernel_rfl)) (fun _ _ _ h => h) (Or.inl ⟨by rfl, ?_⟩) hHeld ?_ ?_; rotate_left; (·rintro w' ⟨s0, s1, s2, s3, s4, s5, s6, s7, s8, s9, s10, s11, s12⟩; go_simp; with_reducible rfl); rotate_left; (·simp only [putW]; rfl); refine take_ (i := 4) (N := some 34) (v := ?_) (a' := ?_) (bits 16 1087) rfl rfl (take_ofW HT_.out HW_.out (by kernel_rfl)) (fun _ _ _ h => h) (Or.inl ⟨by rfl, ?_⟩) hHeld ?_ ?_; rotate_left; (·rintro w' ⟨s0, s1, s2, s3, s4, s5, s6, s7, s8, s9, s10, s11, s12⟩; go_simp; with_reducible rfl); rotate_left; (·simp only [putW]; rfl); refine q_ 6 36 HT_ ?_; refine q_ 7 37 HT_ ?_; refine take_ (i := 8) (N := some 38) (v := ?_) (a' := ?_) (bits 16 1535) rfl rfl (take_ofW HT_.out HW_.out (by kernel_rfl)) (fun _ _ _ h => h) (Or.inl ⟨by rfl, ?_⟩) hHeld ?_ ?_; rotate_left; (·rintro w' ⟨s0, s1, s2, s3, s4, s5, s6, s7, s8, s9, s10, s11, s12⟩; go_simp; with_reducible rfl); rotate_left; (·simp only [putW]; rfl); refine one_ (i := 9) (N := some 39) (bits 16 2047) rfl rfl (one_of HT_.out (by kernel_rfl)) (by decide) (fun K hK => ?_)
        refine goes_ Try.func17 (by kernel_rfl) rfl #[.agg #[.slice A0_0 l0_0.length c0_0, .slice A0_1 l0_1.length c0_1, .slice (some ad265) l0_2.length c0_2], .int .i64 ((rd_T58 l0_2 x7_1).f0)] (by rfl) rfl rfl byL ?_
        with_reducible refine (mapmakerref47_Source.calls k1 _ _ l0_0 _ _ l0_1 _ _ l0_2 ((rd_T58 l0_2 x7_1).f0) t266 _ ?side1 ?side2 ?side3 ?side4 ?side5 ?side6 A18.out).mono ?_
        (case side1 => exact byC (Kd.C_below HR0_0.out HB.out))
        (case side2 => exact HC0_0.out)
        (case side3 => exact byC (Kd.C_below HR0_1.out HB.out))
        (case side4 => exact HC0_1.out)
        (case side5 => exact byC (Kd.C_below HR0_2.out HB.out))
        (case side6 => exact HC0_2.out)
        rintro e w21 ⟨rfl, hb⟩
        refine ⟨_, rfl, ?_⟩
        have n0_ := Aside0.mk (Kd.R_below (byR HO_265001.out) hb); have n1_ := Aside0.mk (blk_below (g := gb261) (o := .cells #[.slice A0_0 l0_0.length c0_0, .slice A0_1 l0_1.length c0_1, .slice (some ad265) l0_2.length c0_2] 37 (0, 0)) (byK BK261.out) hb); have n2_ := Aside0.mk (blk_below (g := gb262) (o := .cells #[.int .i64 0, .slice none 0 0] 51 (0, 0)) (byK BK262.out) hb); have n3_ := Aside0.mk (blk_below (g := gb264) (o := .cells #[.int .i64 (wrap64 ((l0_2.length : Int) + (wrap64 (2 * (l0_0.length : Int))))), u265001] 51 (0, 0)) (byK BK264.out) hb); have n4_ := Aside0.mk (below_step (byB3 HB.out GE261.out GE262.out GE264.out) hb); clear HO_265001 BK261 BK262 BK264 HB; have HO_265001 := n0_; have BK261 := n1_; have BK262 := n2_; have BK264 := n3_; have HB := n4_; clear n0_ n1_ n2_ n3_ n4_
        (try clear hb)
        (try clear hb2)
        (try clear hk)
        (try clear hi)
        refine hK.out _ _ ⟨(blk_cell BK264.out 0).trans rfl, (blk_cell BK264.out 1).trans rfl, (blk_cell BK261.out 0).trans rfl, (blk_cell BK261.out 1).trans rfl, (blk_cell BK261.out 2).trans rfl, ((HB.out.cell (World.block_lt_of_cell? w _ hw265_0)).trans hw265_0), ((HB.out.cell (World.block_lt_of_cell? w _ hw265_1)).trans hw265_1), ((HB.out.cell (World.block_lt_of_cell? w _ hw265_2)).trans hw265_2), ((HB.out.cell (World.block_lt_of_cell? w _ hw265_3)).trans hw265_3), ((HB.out.cell (World.block_lt_of_cell? w _ hw265_4)).trans hw265_4), ((HB.out.cell (World.block_lt_of_cell? w _ hw265_5)).trans hw265_5), ((HB.out.cell (World.block_lt_of_cell? w _ hw265_6)).trans hw265_6), ((HB.out.cell (World.block_lt_of_cell? w _ hw265_7)).trans hw265_7)⟩ (fun hHeld => ?_)
        clear hK K
        refine norm_ (a' := ?_) ?_ ?_
        rotate_left
        ·show Act.put _ (some 39) _ = _
         simp only [putW]; rfl
        refine q_ 11 41 HT_ ?_; refine one_ (i := 12) (N := some 42) (bits 16 8191) rfl rfl (one_of HT_.out (by kernel_rfl)) (by decide) (fun K hK => ?_)
        refine value_ (w1 := ?_) (v := ?_) (by rfl) rfl ?_ ?_
        rotate_left 2
        ·go_simp
         constructor
         (·rfl); (·rfl)
        refine hK.out _ _ ⟨(blk_cell (blk_alloc BK264.out _) 0).trans rfl, (blk_cell (blk_alloc BK264.out _) 1).trans rfl, (blk_cell (blk_alloc BK261.out _) 0).trans rfl, (blk_cell (blk_alloc BK261.out _) 1).trans rfl, (blk_cell (blk_alloc BK261.out _) 2).trans rfl, (World.cell?_alloc_lt _ _ _ (World.block_lt_of_cell? _ _ (((HB.out.cell (World.block_lt_of_cell? w _ hw265_0)).trans hw265_0)))).trans (((HB.out.cell (World.block_lt_of_cell? w _ hw265_0)).trans hw265_0)), (World.cell?_alloc_lt _ _ _ (World.block_lt_of_cell? _ _ (((HB.out.cell (World.block_lt_of_cell? w _ hw265_1)).trans hw265_1)))).trans (((HB.out.cell (World.block_lt_of_cell? w _ hw265_1)).trans hw265_1)), (World.cell?_alloc_lt _ _ _ (World.block_lt_of_cell? _ _ (((HB.out.cell (World.block_lt_of_cell? w _ hw265_2)).trans hw265_2)))).trans (((HB.out.cell (World.block_lt_of_cell? w _ hw265_2)).trans hw265_2)), (World.cell?_alloc_lt _ _ _ (World.block_lt_of_cell? _ _ (((HB.out.cell (World.block_lt_of_cell? w _ hw265_3)).trans hw265_3)))).trans (((HB.out.cell (World.block_lt_of_cell? w _ hw265_3)).trans hw265_3)), (World.cell?_alloc_lt _ _ _ (World.block_lt_of_cell? _ _ (((HB.out.cell (World.block_lt_of_cell? w _ hw265_4)).trans hw265_4)))).trans (((HB.out.cell (World.block_lt_of_cell? w _ hw265_4)).trans hw265_4)), (World.cell?_alloc_lt _ _ _ (World.block_lt_of_cell? _ _ (((HB.out.cell (World.block_lt_of_cell? w _ hw265_5)).trans hw265_5)))).trans (((HB.out.cell (World.block_lt_of_cell? w _ hw265_5)).trans hw265_5)), (World.cell?_alloc_lt _ _ _ (World.block_lt_of_cell? _ _ (((HB.out.cell (World.block_lt_of_cell? w _ hw265_6)).trans hw265_6)))).trans (((HB.out.cell (World.block_lt_of_cell? w _ hw265_6)).trans hw265_6)), (World.cell?_alloc_lt _ _ _ (World.block_lt_of_cell? _ _ (((HB.out.cell (World.block_lt_of_cell? w _ hw265_7)).trans hw265_7)))).trans (((HB.out.cell (World.block_lt_of_cell? w _ hw265_7)).trans hw265_7))⟩ (fun hHeld => ?_)
        clear hK K
        refine norm_ (a' := ?_) ?_ ?_
        rotate_left
        ·show Act.put _ (some 42) _ = _
         simp only [putW]; rfl
        refine one_ (i := 13) (N := some 43) (bits 16 16383) rfl rfl (one_of HT_.out (by kernel_rfl)) (by decide) (fun K hK => ?_)
        refine Kd.R_append_step k92 (w0 := w) w.heap.size (by rfl) (.tmp 31) (.tmp 42) 49 92 (.agg #[(.int .i64 0), (.int .i64 0)]) 16 rfl Try.underlying49 info92 rfl (by decide) (by omega) u265001 x265001_1 (⟨t266, x7_1⟩ : S92) [.int .i64 t266, .int .i64 x7_1] (fun _ => True) (fun _ => False) rfl rfl ?aP (fun _ hk => hk.elim) ?aF ?aO ?aB ?aS ?aL ?_
        (case aP => exact k92_mkM _ _ _ (⟨t266, x7_1⟩ : S92))
        (case aB => exact (byB3 HB.out GE261.out GE262.out GE264.out))
        (case aF => exact (fun _ _ => trivial))
        (case aO => exact (byR HO_265001.out))
        (case aS => exact (below_size (byB3 HB.out GE261.out GE262.out GE264.out)))
        (case aL => have := LMc19.out; omega)
        intro v268 w22 ho hb hg hat
        rw [← Ny267.out] at ho
        have n0_ := Aside0.mk (blk_grown (g := gb261) (o := .cells #[.slice A0_0 l0_0.length c0_0, .slice A0_1 l0_1.length c0_1, .slice (some ad265) l0_2.length c0_2] 37 (0, 0)) (byK BK261.out) hg (Kd.R_ne HO_265001.out BK261.out (by decide))); have n1_ := Aside0.mk (blk_grown (g := gb262) (o := .cells #[.int .i64 0, .slice none 0 0] 51 (0, 0)) (byK BK262.out) hg (Kd.R_ne HO_265001.out BK262.out (by decide))); have n2_ := Aside0.mk (blk_grown (g := gb264) (o := .cells #[.int .i64 (wrap64 ((l0_2.length : Int) + (wrap64 (2 * (l0_0.length : Int))))), u265001] 51 (0, 0)) (byK BK264.out) hg (Kd.R_ne HO_265001.out BK264.out (by decide))); have n3_ := Aside0.mk (hb); have n4_ := Aside0.mk (ho); clear BK261 BK262 BK264 HB HO_265001; have BK261 := n0_; have BK262 := n1_; have BK264 := n2_; have HB := n3_; have HO269 := n4_; clear n0_ n1_ n2_ n3_ n4_ ho hb hg hat
        obtain ⟨Ao23, co23, eo23⟩ := Kd.R_slice HO269.out
        (first | subst eo23 | (injection eo23 with f1_ f2_ f3_; have f4_ := f1_.symm; have f5_ := f3_.symm; clear f1_ f2_ f3_; subst f4_; subst f5_))
        refine hK.out _ _ ⟨(blk_cell BK264.out 0).trans rfl, (blk_cell BK264.out 1).trans rfl, (blk_cell BK261.out 0).trans rfl, (blk_cell BK261.out 1).trans rfl, (blk_cell BK261.out 2).trans rfl, ((HB.out.cell (World.block_lt_of_cell? w _ hw265_0)).trans hw265_0), ((HB.out.cell (World.block_lt_of_cell? w _ hw265_1)).trans hw265_1), ((HB.out.cell (World.block_lt_of_cell? w _ hw265_2)).trans hw265_2), ((HB.out.cell (World.block_lt_of_cell? w _ hw265_3)).trans hw265_3), ((HB.out.cell (World.block_lt_of_cell? w _ hw265_4)).trans hw265_4), ((HB.out.cell (World.block_lt_of_cell? w _ hw265_5)).trans hw265_5), ((HB.out.cell (World.block_lt_of_cell? w _ hw265_6)).trans hw265_6), ((HB.out.cell (World.block_lt_of_cell? w _ hw265_7)).trans hw265_7)⟩ (fun hHeld => ?_)
        clear hK K
        refine norm_ (a' := ?_) ?_ ?_
        rotate_left
        ·show Act.put _ (some 43) _ = _
         simp only [putW]; rfl
        refine q_ 14 44 HT_ ?_
        refine last_ (i := 15) (N := none) (bits 16 65535) rfl rfl (one_of HT_.out (by kernel_rfl)) (by decide) (fun K hK => ?_)
        have hs24 : w22.cell? ⟨gb264, 1, none⟩ = some (u265001) := (blk_cell BK264.out 1).trans rfl
        have hfs24 := blk_frozen BK264.out 1; have hns24_0 := NB261_264.out; have hns24_1 := NB262_264.out; have hms24_0 := NB264_261.out; have hms24_1 := NB264_262.out
        refine skip_ (w1 := ?_) (by rfl) rfl ?_ ?_
        rotate_left; (·go_simp; rfl)
        refine hK.out _ _ ?_
        clear hK K
        refine done_ (done_of HT_.out (by kernel_rfl)) ?_
        try go_wp2
        go_roundg k1
        case measure => have := HK1.out; omega
        case rel => exact ⟨(wrap64 (x7_1 + 1)), (y267), (.slice Ao23 y267.length co23), byF, H', ⟨by have := HK1.out; omega⟩, ⟨by (with_reducible repeat (first | apply Kd.R_alloc | apply Kd.R_drewN | apply Kd.R_drew)); exact Kd.R_mono (Kd.R_far (p := ⟨gb264, 1, none⟩) (Kd.R_types HO269.out BK264.out (by decide)) (fun _ hk => hk.2) (.slice Ao23 y267.length co23)) (fun _ hk => trivial)⟩, ⟨by (with_reducible repeat (first | refine blk_drewN ?_ _ | refine blk_drew ?_ | refine blk_alloc ?_ _)); refine blk_far ?_ NB261_264.out _; (with_reducible repeat (first | refine blk_drewN ?_ _ | refine blk_drew ?_ | refine blk_alloc ?_ _)); exact BK261.out⟩, ⟨by (with_reducible repeat (first | refine blk_drewN ?_ _ | refine blk_drew ?_ | refine blk_alloc ?_ _)); refine blk_far ?_ NB262_264.out _; (with_reducible repeat (first | refine blk_drewN ?_ _ | refine blk_drew ?_ | refine blk_alloc ?_ _)); exact BK262.out⟩, ⟨by (with_reducible repeat (first | refine blk_drewN ?_ _ | refine blk_drew ?_ | refine blk_alloc ?_ _)); refine blk_put (cs := #[.int .i64 (wrap64 ((l0_2.length : Int) + (wrap64 (2 * (l0_0.length : Int))))), u265001]) ?_ 1 _ rfl; (with_reducible repeat (first | refine blk_drewN ?_ _ | refine blk_drew ?_ | refine blk_alloc ?_ _)); exact BK264.out⟩, ⟨byB3 HB.out GE261.out GE262.out GE264.out⟩⟩
       ·rw [if_neg c19] at H
        exact absurd H (by simp)
      ·rw [if_neg c17] at H
       exact absurd H (by simp)
     ·rw [if_neg c16] at H
      exact absurd H (by simp)
    ·rw [if_neg c15] at H
     have c15b0 : decide (x7_1 < (l0_2.length : Int)) = false := decide_eq_false c15
     clear c15
     have H' := Aside0.mk H
     clear H
     go_wp2
     go_loopg [8] k1 (fun kq v8 w' => ∃ (x8_2 : Int) (x265001_2 : List (S92)) (u265001 : Value), v8 = .int .i64 x8_2 ∧ Aside0 (mapmakerref47_Expand.l1 kq l1 (l0_2.length : Int) x8_2 l0_0 l0_1 l0_2 (wrap64 ((l0_2.length : Int) + (wrap64 (2 * (l0_0.length : Int))))) x265001_2 = some (r1, r2)) ∧ Aside0 (kq ≤ k1) ∧ Aside0 (Kd.R k92 92 w' w.heap.size (fun _ => True) u265001 x265001_2) ∧ Aside0 (w'.heap[gb261]? = some (.cells #[(.slice A0_0 l0_0.length c0_0), (.slice A0_1 l0_1.length c0_1), (.slice A0_2 l0_2.length c0_2)] 37 (0, 0))) ∧ Aside0 (w'.heap[gb262]? = some (.cells #[.int .i64 0, (.slice none 0 0)] 51 (0, 0))) ∧ Aside0 (w'.heap[gb264]? = some (.cells #[.int .i64 (wrap64 ((l0_2.length : Int) + (wrap64 (2 * (l0_0.length : Int))))), u265001] 51 (0, 0))) ∧ Aside0 (Below w.heap.size w w'))
     case atStart => exact ⟨(0), (x265001_1), (u265001), byF, H', ⟨Nat.le_refl _⟩, ⟨by (with_reducible repeat (first | apply Kd.R_alloc | apply Kd.R_drewN | apply Kd.R_drew)); exact HO_265001.out⟩, ⟨by (with_reducible repeat (first | refine blk_drewN ?_ _ | refine blk_drew ?_ | refine blk_alloc ?_ _)); exact BK261.out⟩, ⟨by (with_reducible repeat (first | refine blk_drewN ?_ _ | refine blk_drew ?_ | refine blk_alloc ?_ _)); exact BK262.out⟩, ⟨by (with_reducible repeat (first | refine blk_drewN ?_ _ | refine blk_drew ?_ | refine blk_alloc ?_ _)); exact BK264.out⟩, ⟨byB3 HB.out GE261.out GE262.out GE264.out⟩⟩
     case round =>
      clear H'
      try clear c1
      try clear c2
      try clear p2
      try clear q2
      try clear hx2
      try clear c4
      try clear c4b0
      try clear c4b1
      try clear p6
      try clear c7
      try clear c12
      try clear c13
      try clear c15
      try clear c15b0
      try clear c16
      try clear c16b0
      try clear c17
      try clear c17b0
      try clear c19
      try clear c20
      try clear hcz10_0
      try clear hcz10_1
      try clear hcz10_2
      try clear hcz14_0
      try clear hcz14_1
      try clear hcz8_0
      try clear hcz8_1
      try clear hcz8_2
      try clear hfz10_0
      try clear hfz10_1
      try clear hfz10_2
      try clear hfz14_0
      try clear hfz14_1
      try clear hfz8_0
      try clear hfz8_1
      try clear hfz8_2
      try clear hx265_0
      try clear hx265_1
      try clear hx265_2
      try clear hx265_3
      try clear hx265_4
      try clear hx265_5
      try clear hx265_6
      try clear hx265_7
      try clear p2
      try clear p265
      try clear p6
      try clear q265
      obtain ⟨x8_2, x265001_2, u265001, rfl, HA, HK2, HO_265001, BK261, BK262, BK264, HB⟩ := hrel
      cases gk with
      | zero => exact absurd HA.out (by simp [mapmakerref47_Expand.l1])
      | succ k2 =>
       have H := HA.out; clear HA
       simp only [mapmakerref47_Expand.l1] at H
       by_cases c25 : x8_2 < (l0_2.length : Int)
       ·rw [if_pos c25] at H
        have c25b0 : decide (x8_2 < (l0_2.length : Int)) = true := decide_eq_true c25
        clear c25
        have H' := Aside0.mk H
        clear H
        go_wp2
        go_loopg [9] k2 (fun kq v9 w' => ∃ (x9_3 : Int) (x265001_3 : List (S92)) (u265001 : Value), v9 = .int .i64 x9_3 ∧ Aside0 (mapmakerref47_Expand.l2 kq l1 (l0_2.length : Int) x8_2 x9_3 l0_0 l0_1 l0_2 (wrap64 ((l0_2.length : Int) + (wrap64 (2 * (l0_0.length : Int))))) x265001_3 = some (r1, r2)) ∧ Aside0 (kq ≤ k2) ∧ Aside0 (Kd.R k92 92 w' w.heap.size (fun _ => True) u265001 x265001_3) ∧ Aside0 (w'.heap[gb261]? = some (.cells #[(.slice A0_0 l0_0.length c0_0), (.slice A0_1 l0_1.length c0_1), (.slice A0_2 l0_2.length c0_2)] 37 (0, 0))) ∧ Aside0 (w'.heap[gb262]? = some (.cells #[.int .i64 0, (.slice none 0 0)] 51 (0, 0))) ∧ Aside0 (w'.heap[gb264]? = some (.cells #[.int .i64 (wrap64 ((l0_2.length : Int) + (wrap64 (2 * (l0_0.length : Int))))), u265001] 51 (0, 0))) ∧ Aside0 (Below w.heap.size w w'))
        case atStart => exact ⟨(0), (x265001_2), (u265001), byF, H', ⟨Nat.le_refl _⟩, ⟨by (with_reducible repeat (first | apply Kd.R_alloc | apply Kd.R_drewN | apply Kd.R_drew)); exact HO_265001.out⟩, ⟨by (with_reducible repeat (first | refine blk_drewN ?_ _ | refine blk_drew ?_ | refine blk_alloc ?_ _)); exact BK261.out⟩, ⟨by (with_reducible repeat (first | refine blk_drewN ?_ _ | refine blk_drew ?_ | refine blk_alloc ?_ _)); exact BK262.out⟩, ⟨by (with_reducible repeat (first | refine blk_drewN ?_ _ | refine blk_drew ?_ | refine blk_alloc ?_ _)); exact BK264.out⟩, ⟨byB3 HB.out GE261.out GE262.out GE264.out⟩⟩
        case round =>
         clear H'
         try clear c1
         try clear c2
         try clear p2
         try clear q2
         try clear hx2
         try clear c4
         try clear c4b0
         try clear c4b1
         try clear p6
         try clear c7
         try clear c12
         try clear c13
         try clear c15
         try clear c15b0
         try clear c16
         try clear c16b0
         try clear c17
         try clear c17b0
         try clear c19
         try clear c20
         try clear c25
         try clear c25b0
         try clear hcz10_0
         try clear hcz10_1
         try clear hcz10_2
         try clear hcz14_0
         try clear hcz14_1
         try clear hcz8_0
         try clear hcz8_1
         try clear hcz8_2
         try clear hfz10_0
         try clear hfz10_1
         try clear hfz10_2
         try clear hfz14_0
         try clear hfz14_1
         try clear hfz8_0
         try clear hfz8_1
         try clear hfz8_2
         try clear hx265_0
         try clear hx265_1
         try clear hx265_2
         try clear hx265_3
         try clear hx265_4
         try clear hx265_5
         try clear hx265_6
         try clear hx265_7
         try clear p2
         try clear p265
         try clear p6
         try clear q2
         try clear q265
         obtain ⟨x9_3, x265001_3, u265001, rfl, HA, HK3, HO_265001, BK261, BK262, BK264, HB⟩ := hrel
         cases gk with
         | zero => exact absurd HA.out (by simp [mapmakerref47_Expand.l2])
         | succ k3 =>
          have H := HA.out; clear HA
          simp only [mapmakerref47_Expand.l2] at H
          by_cases c26 : x9_3 < (l0_2.length : Int)
          ·rw [if_pos c26] at H
           have c26b0 : decide (x9_3 < (l0_2.length : Int)) = true := decide_eq_true c26
           clear c26
           replace H := Option.bind_eq_some_iff.mp H
           obtain ⟨t270, A270, H⟩ := H
           replace H : (if t270 = true then (if x265001_3.length < 8796093022208 then (mapmakerref47_Expand.l2 k3 l1 (l0_2.length : Int) x8_2 (wrap64 (x9_3 + 1)) l0_0 l0_1 l0_2 (wrap64 ((l0_2.length : Int) + (wrap64 (2 * (l0_0.length : Int))))) (x265001_3 ++ [(⟨x8_2, x9_3⟩ : S92)])) else (none)) else (mapmakerref47_Expand.l2 k3 l1 (l0_2.length : Int) x8_2 (wrap64 (x9_3 + 1)) l0_0 l0_1 l0_2 (wrap64 ((l0_2.length : Int) + (wrap64 (2 * (l0_0.length : Int))))) x265001_3)) = some (r1, r2) := H
           have A27 := Aside0.mk A270; clear A270
           by_cases c28 : t270 = true
           ·subst c28
            have H1 : (if x265001_3.length < 8796093022208 then (mapmakerref47_Expand.l2 k3 l1 (l0_2.length : Int) x8_2 (wrap64 (x9_3 + 1)) l0_0 l0_1 l0_2 (wrap64 ((l0_2.length : Int) + (wrap64 (2 * (l0_0.length : Int))))) (x265001_3 ++ [(⟨x8_2, x9_3⟩ : S92)])) else (none)) = some (r1, r2) := by rw [if_pos rfl] at H; exact H
            clear H; have H := H1; clear H1
            by_cases c29 : x265001_3.length < 8796093022208
            ·rw [if_pos c29] at H
             have LMc29 := Aside0.mk c29; clear c29
             obtain ⟨y271, hy271⟩ : ∃ y_ : List (S92), y_ = (x265001_3 ++ [(⟨x8_2, x9_3⟩ : S92)]) := ⟨_, rfl⟩
             replace H : (mapmakerref47_Expand.l2 k3 l1 (l0_2.length : Int) x8_2 (wrap64 (x9_3 + 1)) l0_0 l0_1 l0_2 (wrap64 ((l0_2.length : Int) + (wrap64 (2 * (l0_0.length : Int))))) y271) = some (r1, r2) := by first | (rw [hy271]; with_reducible exact H) | (have H2_ := (Option.bind_some _ _).symm.trans H; rw [hy271]; with_reducible exact H2_) | (have H2_ := (Option.bind_some _ _).symm.trans H; with_reducible exact H2_) | with_reducible exact H | (rw [hy271]; exact H) | exact H
             have Ny271 := Aside0.mk hy271; clear hy271
             have H' := Aside0.mk H
             clear H; have hnb30 := NB261_262.out; have hnc30 := NB262_261.out; have hnb31 := NB261_264.out; have hnc31 := NB264_261.out
             have hcz32_0 : wr.cell? ⟨gb261, 0, none⟩ = some (.slice A0_0 l0_0.length c0_0) := (blk_cell BK261.out 0).trans rfl
             have hcz32_1 : wr.cell? ⟨gb261, 1, none⟩ = some (.slice A0_1 l0_1.length c0_1) := (blk_cell BK261.out 1).trans rfl
             have hcz32_2 : wr.cell? ⟨gb261, 2, none⟩ = some (.slice A0_2 l0_2.length c0_2) := (blk_cell BK261.out 2).trans rfl
             have hfz32_0 := blk_frozen BK261.out 0; have hfz32_1 := blk_frozen BK261.out 1; have hfz32_2 := blk_frozen BK261.out 2
             go_wp2_with (first | ((with_reducible refine gate_callee (f := 15) rfl ?_); refine goesL_ (some 59) rfl rfl Try.func15 (by kernel_rfl) rfl #[.agg #[.slice A0_0 l0_0.length c0_0, .slice A0_1 l0_1.length c0_1, .slice A0_2 l0_2.length c0_2], .slice A1 l1.length c1, .int .i64 x8_2, .int .i64 x9_3] rfl byL ?_; (with_reducible refine (mapmakerref47_Allowed.calls _ _ l0_0 _ _ l0_1 _ _ l0_2 _ _ l1 x8_2 x9_3 true _ ?side1 ?side2 ?side3 ?side4 ?side5 ?side6 ?side7 ?side8 A27.out).mono ?_); (case side1 => exact byC (Kd.C_below HR0_0.out HB.out)); (case side2 => exact HC0_0.out); (case side3 => exact byC (Kd.C_below HR0_1.out HB.out)); (case side4 => exact HC0_1.out); (case side5 => exact byC (Kd.C_below HR0_2.out HB.out)); (case side6 => exact HC0_2.out); (case side7 => exact byC (Kd.C_below HR1.out HB.out)); (case side8 => exact HC1.out); rintro e w33 ⟨rfl, hb⟩; refine ⟨_, rfl, ?_⟩; have n0_ := Aside0.mk (Kd.R_below (byR HO_265001.out) hb); have n1_ := Aside0.mk (blk_below (g := gb261) (o := .cells #[.slice A0_0 l0_0.length c0_0, .slice A0_1 l0_1.length c0_1, .slice A0_2 l0_2.length c0_2] 37 (0, 0)) (byK BK261.out) hb); have n2_ := Aside0.mk (blk_below (g := gb262) (o := .cells #[.int .i64 0, .slice none 0 0] 51 (0, 0)) (byK BK262.out) hb); have n3_ := Aside0.mk (blk_below (g := gb264) (o := .cells #[.int .i64 (wrap64 ((l0_2.length : Int) + (wrap64 (2 * (l0_0.length : Int))))), u265001] 51 (0, 0)) (byK BK264.out) hb); have n4_ := Aside0.mk (below_step (byB3 HB.out GE261.out GE262.out GE264.out) hb); clear HO_265001 BK261 BK262 BK264 HB; have HO_265001 := n0_; have BK261 := n1_; have BK262 := n2_; have BK264 := n3_; have HB := n4_; clear n0_ n1_ n2_ n3_ n4_; (try clear hb); (try clear hb2); (try clear hk); (try clear hi); have hnb34 := NB264_262.out; have hnc34 := NB262_264.out; have hcz35_0 : w33.cell? ⟨gb264, 0, none⟩ = some (.int .i64 (wrap64 ((l0_2.length : Int) + (wrap64 (2 * (l0_0.length : Int)))))) := (blk_cell BK264.out 0).trans rfl; have hcz35_1 : w33.cell? ⟨gb264, 1, none⟩ = some (u265001) := (blk_cell BK264.out 1).trans rfl; have hfz35_0 := blk_frozen BK264.out 0; have hfz35_1 := blk_frozen BK264.out 1) | ((with_reducible refine gate_builtin (b := .append) (xs := #[.tmp 61, .tmp 65]) rfl ?_); at_builtin; refine Kd.R_append k92 (w0 := w) w.heap.size rfl (.tmp 61) (.tmp 65) 49 92 (.agg #[(.int .i64 0), (.int .i64 0)]) 16 rfl Try.underlying49 info92 rfl (by decide) (by omega) u265001 x265001_3 (⟨x8_2, x9_3⟩ : S92) [.int .i64 x8_2, .int .i64 x9_3] (fun _ => True) (fun _ => False) rfl rfl ?aP (fun _ hk => hk.elim) ?aF ?aO ?aB ?aS ?aL ?_; (case aP => exact k92_mkM _ _ _ (⟨x8_2, x9_3⟩ : S92)); (case aB => exact (byB3 HB.out GE261.out GE262.out GE264.out)); (case aF => exact (fun _ _ => trivial)); (case aO => exact (byR HO_265001.out)); (case aS => exact (below_size (byB3 HB.out GE261.out GE262.out GE264.out))); (case aL => have := LMc29.out; omega); intro v272 w36 ho hb hg hat; rw [← Ny271.out] at ho; have n0_ := Aside0.mk (blk_grown (g := gb261) (o := .cells #[.slice A0_0 l0_0.length c0_0, .slice A0_1 l0_1.length c0_1, .slice A0_2 l0_2.length c0_2] 37 (0, 0)) (byK BK261.out) hg (Kd.R_ne HO_265001.out BK261.out (by decide))); have n1_ := Aside0.mk (blk_grown (g := gb262) (o := .cells #[.int .i64 0, .slice none 0 0] 51 (0, 0)) (byK BK262.out) hg (Kd.R_ne HO_265001.out BK262.out (by decide))); have n2_ := Aside0.mk (blk_grown (g := gb264) (o := .cells #[.int .i64 (wrap64 ((l0_2.length : Int) + (wrap64 (2 * (l0_0.length : Int))))), u265001] 51 (0, 0)) (byK BK264.out) hg (Kd.R_ne HO_265001.out BK264.out (by decide))); have n3_ := Aside0.mk (hb); have n4_ := Aside0.mk (ho); clear BK261 BK262 BK264 HB HO_265001; have BK261 := n0_; have BK262 := n1_; have BK264 := n2_; have HB := n3_; have HO273 := n4_; clear n0_ n1_ n2_ n3_ n4_ ho hb hg hat; obtain ⟨Ao37, co37, eo37⟩ := Kd.R_slice HO273.out; subst eo37; have hcz38_0 : w36.cell? ⟨gb264, 0, none⟩ = some (.int .i64 (wrap64 ((l0_2.length : Int) + (wrap64 (2 * (l0_0.length : Int)))))) := (blk_cell BK264.out 0).trans rfl; have hcz38_1 : w36.cell? ⟨gb264, 1, none⟩ = some (u265001) := (blk_cell BK264.out 1).trans rfl; have hfz38_0 := blk_frozen BK264.out 0; have hfz38_1 := blk_frozen BK264.out 1))
             go_roundg k3
             case measure => have := HK1.out; have := HK2.out; have := HK3.out; omega
             case rel => exact ⟨(wrap64 (x9_3 + 1)), (y271), (.slice Ao37 y271.length co37), byF, H', ⟨by have := HK1.out; have := HK2.out; have := HK3.out; omega⟩, ⟨by (with_reducible repeat (first | apply Kd.R_alloc | apply Kd.R_drewN | apply Kd.R_drew)); exact Kd.R_mono (Kd.R_far (p := ⟨gb264, 1, none⟩) (Kd.R_types HO273.out BK264.out (by decide)) (fun _ hk => hk.2) (.slice Ao37 y271.length co37)) (fun _ hk => trivial)⟩, ⟨by (with_reducible repeat (first | refine blk_drewN ?_ _ | refine blk_drew ?_ | refine blk_alloc ?_ _)); refine blk_far ?_ NB261_264.out _; (with_reducible repeat (first | refine blk_drewN ?_ _ | refine blk_drew ?_ | refine blk_alloc ?_ _)); exact BK261.out⟩, ⟨by (with_reducible repeat (first | refine blk_drewN ?_ _ | refine blk_drew ?_ | refine blk_alloc ?_ _)); refine blk_far ?_ NB262_264.out _; (with_reducible repeat (first | refine blk_drewN ?_ _ | refine blk_drew ?_ | refine blk_alloc ?_ _)); exact BK262.out⟩, ⟨by (with_reducible repeat (first | refine blk_drewN ?_ _ | refine blk_drew ?_ | refine blk_alloc ?_ _)); refine blk_put (cs := #[.int .i64 (wrap64 ((l0_2.length : Int) + (wrap64 (2 * (l0_0.length : Int))))), u265001]) ?_ 1 _ rfl; (with_reducible repeat (first | refine blk_drewN ?_ _ | refine blk_drew ?_ | refine blk_alloc ?_ _)); exact BK264.out⟩, ⟨byB3 HB.out GE261.out GE262.out GE264.out⟩⟩
            ·rw [if_neg c29] at H
             exact absurd H (by simp)
           ·replace c28 := Bool.eq_false_iff.mpr c28
            subst c28
            have H1 : (mapmakerref47_Expand.l2 k3 l1 (l0_2.length : Int) x8_2 (wrap64 (x9_3 + 1)) l0_0 l0_1 l0_2 (wrap64 ((l0_2.length : Int) + (wrap64 (2 * (l0_0.length : Int))))) x265001_3) = some (r1, r2) := by rw [if_neg (show ¬ (false = true) by decide)] at H; exact H
            clear H; have H := H1; clear H1
            have H' := Aside0.mk H
            clear H; have hnb39 := NB261_262.out; have hnc39 := NB262_261.out; have hnb40 := NB261_264.out; have hnc40 := NB264_261.out
            have hcz41_0 : wr.cell? ⟨gb261, 0, none⟩ = some (.slice A0_0 l0_0.length c0_0) := (blk_cell BK261.out 0).trans rfl
            have hcz41_1 : wr.cell? ⟨gb261, 1, none⟩ = some (.slice A0_1 l0_1.length c0_1) := (blk_cell BK261.out 1).trans rfl
            have hcz41_2 : wr.cell? ⟨gb261, 2, none⟩ = some (.slice A0_2 l0_2.length c0_2) := (blk_cell BK261.out 2).trans rfl
            have hfz41_0 := blk_frozen BK261.out 0; have hfz41_1 := blk_frozen BK261.out 1; have hfz41_2 := blk_frozen BK261.out 2
            go_wp2_with (first | ((with_reducible refine gate_callee (f := 15) rfl ?_); refine goesL_ (some 59) rfl rfl Try.func15 (by kernel_rfl) rfl #[.agg #[.slice A0_0 l0_0.length c0_0, .slice A0_1 l0_1.length c0_1, .slice A0_2 l0_2.length c0_2], .slice A1 l1.length c1, .int .i64 x8_2, .int .i64 x9_3] rfl byL ?_; (with_reducible refine (mapmakerref47_Allowed.calls _ _ l0_0 _ _ l0_1 _ _ l0_2 _ _ l1 x8_2 x9_3 false _ ?side1 ?side2 ?side3 ?side4 ?side5 ?side6 ?side7 ?side8 A27.out).mono ?_); (case side1 => exact byC (Kd.C_below HR0_0.out HB.out)); (case side2 => exact HC0_0.out); (case side3 => exact byC (Kd.C_below HR0_1.out HB.out)); (case side4 => exact HC0_1.out); (case side5 => exact byC (Kd.C_below HR0_2.out HB.out)); (case side6 => exact HC0_2.out); (case side7 => exact byC (Kd.C_below HR1.out HB.out)); (case side8 => exact HC1.out); rintro e w42 ⟨rfl, hb⟩; refine ⟨_, rfl, ?_⟩; have n0_ := Aside0.mk (Kd.R_below (byR HO_265001.out) hb); have n1_ := Aside0.mk (blk_below (g := gb261) (o := .cells #[.slice A0_0 l0_0.length c0_0, .slice A0_1 l0_1.length c0_1, .slice A0_2 l0_2.length c0_2] 37 (0, 0)) (byK BK261.out) hb); have n2_ := Aside0.mk (blk_below (g := gb262) (o := .cells #[.int .i64 0, .slice none 0 0] 51 (0, 0)) (byK BK262.out) hb); have n3_ := Aside0.mk (blk_below (g := gb264) (o := .cells #[.int .i64 (wrap64 ((l0_2.length : Int) + (wrap64 (2 * (l0_0.length : Int))))), u265001] 51 (0, 0)) (byK BK264.out) hb); have n4_ := Aside0.mk (below_step (byB3 HB.out GE261.out GE262.out GE264.out) hb); clear HO_265001 BK261 BK262 BK264 HB; have HO_265001 := n0_; have BK261 := n1_; have BK262 := n2_; have BK264 := n3_; have HB := n4_; clear n0_ n1_ n2_ n3_ n4_; (try clear hb); (try clear hb2); (try clear hk); (try clear hi)))
            go_roundg k3
            case measure => have := HK1.out; have := HK2.out; have := HK3.out; omega
            case rel => exact ⟨(wrap64 (x9_3 + 1)), (x265001_3), (u265001), byF, H', ⟨by have := HK1.out; have := HK2.out; have := HK3.out; omega⟩, ⟨by (with_reducible repeat (first | apply Kd.R_alloc | apply Kd.R_drewN | apply Kd.R_drew)); exact HO_265001.out⟩, ⟨by (with_reducible repeat (first | refine blk_drewN ?_ _ | refine blk_drew ?_ | refine blk_alloc ?_ _)); exact BK261.out⟩, ⟨by (with_reducible repeat (first | refine blk_drewN ?_ _ | refine blk_drew ?_ | refine blk_alloc ?_ _)); exact BK262.out⟩, ⟨by (with_reducible repeat (first | refine blk_drewN ?_ _ | refine blk_drew ?_ | refine blk_alloc ?_ _)); exact BK264.out⟩, ⟨byB3 HB.out GE261.out GE262.out GE264.out⟩⟩
          ·rw [if_neg c26] at H
           have c26b0 : decide (x9_3 < (l0_2.length : Int)) = false := decide_eq_false c26
           clear c26
           have H' := Aside0.mk H
           clear H
           go_wp2
           go_roundg k3
           case measure => have := HK1.out; have := HK2.out; have := HK3.out; omega
           case rel => exact ⟨(wrap64 (x8_2 + 1)), (x265001_3), (u265001), byF, H', ⟨by have := HK1.out; have := HK2.out; have := HK3.out; omega⟩, ⟨by (with_reducible repeat (first | apply Kd.R_alloc | apply Kd.R_drewN | apply Kd.R_drew)); exact HO_265001.out⟩, ⟨by (with_reducible repeat (first | refine blk_drewN ?_ _ | refine blk_drew ?_ | refine blk_alloc ?_ _)); exact BK261.out⟩, ⟨by (with_reducible repeat (first | refine blk_drewN ?_ _ | refine blk_drew ?_ | refine blk_alloc ?_ _)); exact BK262.out⟩, ⟨by (with_reducible repeat (first | refine blk_drewN ?_ _ | refine blk_drew ?_ | refine blk_alloc ?_ _)); exact BK264.out⟩, ⟨byB3 HB.out GE261.out GE262.out GE264.out⟩⟩
       ·rw [if_neg c25] at H
        have c25b0 : decide (x8_2 < (l0_2.length : Int)) = false := decide_eq_false c25
        clear c25
        have H' := Aside0.mk H
        clear H
        go_wp2
        go_loopg [10] k2 (fun kq v10 w' => ∃ (x10_3 : Int) (x265001_3 : List (S92)) (u265001 : Value), v10 = .int .i64 x10_3 ∧ Aside0 (mapmakerref47_Expand.l3 kq (l0_2.length : Int) x10_3 l0_0 l0_1 l0_2 (wrap64 ((l0_2.length : Int) + (wrap64 (2 * (l0_0.length : Int))))) x265001_3 = some (r1, r2)) ∧ Aside0 (kq ≤ k2) ∧ Aside0 (Kd.R k92 92 w' w.heap.size (fun _ => True) u265001 x265001_3) ∧ Aside0 (w'.heap[gb261]? = some (.cells #[(.slice A0_0 l0_0.length c0_0), (.slice A0_1 l0_1.length c0_1), (.slice A0_2 l0_2.length c0_2)] 37 (0, 0))) ∧ Aside0 (w'.heap[gb262]? = some (.cells #[.int .i64 0, (.slice none 0 0)] 51 (0, 0))) ∧ Aside0 (w'.heap[gb264]? = some (.cells #[.int .i64 (wrap64 ((l0_2.length : Int) + (wrap64 (2 * (l0_0.length : Int))))), u265001] 51 (0, 0))) ∧ Aside0 (Below w.heap.size w w'))
        case atStart => exact ⟨(0), (x265001_2), (u265001), byF, H', ⟨Nat.le_refl _⟩, ⟨by (with_reducible repeat (first | apply Kd.R_alloc | apply Kd.R_drewN | apply Kd.R_drew)); exact HO_265001.out⟩, ⟨by (with_reducible repeat (first | refine blk_drewN ?_ _ | refine blk_drew ?_ | refine blk_alloc ?_ _)); exact BK261.out⟩, ⟨by (with_reducible repeat (first | refine blk_drewN ?_ _ | refine blk_drew ?_ | refine blk_alloc ?_ _)); exact BK262.out⟩, ⟨by (with_reducible repeat (first | refine blk_drewN ?_ _ | refine blk_drew ?_ | refine blk_alloc ?_ _)); exact BK264.out⟩, ⟨byB3 HB.out GE261.out GE262.out GE264.out⟩⟩
        case round =>
         clear H'
         try clear c1
         try clear c2
         try clear p2
         try clear q2
         try clear hx2
         try clear c3
         try clear c4
         try clear c4b0
         try clear c4b1
         try clear p6
         try clear c7
         try clear c12
         try clear c13
         try clear c15
         try clear c15b0
         try clear c16
         try clear c16b0
         try clear c17
         try clear c17b0
         try clear c19
         try clear c20
         try clear c25
         try clear c25b0
         try clear c26
         try clear c26b0
         try clear p26
         try clear q26
         try clear hx26
         try clear c28
         try clear c29
         try clear c30
         try clear c31
         try clear c34
         try clear c39
         try clear c40
         try clear hcz10_0
         try clear hcz10_1
         try clear hcz10_2
         try clear hcz14_0
         try clear hcz14_1
         try clear hcz32_0
         try clear hcz32_1
         try clear hcz32_2
         try clear hcz35_0
         try clear hcz35_1
         try clear hcz38_0
         try clear hcz38_1
         try clear hcz41_0
         try clear hcz41_1
         try clear hcz41_2
         try clear hcz8_0
         try clear hcz8_1
         try clear hcz8_2
         try clear hfz10_0
         try clear hfz10_1
         try clear hfz10_2
         try clear hfz14_0
         try clear hfz14_1
         try clear hfz32_0
         try clear hfz32_1
         try clear hfz32_2
         try clear hfz35_0
         try clear hfz35_1
         try clear hfz38_0
         try clear hfz38_1
         try clear hfz41_0
         try clear hfz41_1
         try clear hfz41_2
         try clear hfz8_0
         try clear hfz8_1
         try clear hfz8_2
         try clear hx265_0
         try clear hx265_1
         try clear hx265_2
         try clear hx265_3
         try clear hx265_4
         try clear hx265_5
         try clear hx265_6
         try clear hx265_7
         try clear p2
         try clear p265
         try clear p6
         try clear q2
         try clear q265
         obtain ⟨x10_3, x265001_3, u265001, rfl, HA, HK3, HO_265001, BK261, BK262, BK264, HB⟩ := hrel
         cases gk with
         | zero => exact absurd HA.out (by simp [mapmakerref47_Expand.l3])
         | succ k3 =>
          have H := HA.out; clear HA
          simp only [mapmakerref47_Expand.l3] at H
          by_cases c43 : x10_3 < (l0_2.length : Int)
          ·rw [if_pos c43] at H
           have c43b0 : decide (x10_3 < (l0_2.length : Int)) = true := decide_eq_true c43
           clear c43
           by_cases c44 : 0 ≤ x10_3
           ·rw [if_pos c44] at H
            have c44b0 : decide (0 ≤ x10_3) = true := decide_eq_true c44
            clear c44
            by_cases c45 : x10_3 < (l0_2.length : Int)
            ·rw [if_pos c45] at H
             have c45b0 : decide (x10_3 < (l0_2.length : Int)) = true := decide_eq_true c45
             clear c45
             replace H := Option.bind_eq_some_iff.mp H
             obtain ⟨t275, A460, H⟩ := H
             replace H : (if x265001_3.length < 8796093022208 then (mapmakerref47_Expand.l3 k3 (l0_2.length : Int) (wrap64 (x10_3 + 1)) l0_0 l0_1 l0_2 (wrap64 ((l0_2.length : Int) + (wrap64 (2 * (l0_0.length : Int))))) (x265001_3 ++ [(⟨x10_3, t275⟩ : S92)])) else (none)) = some (r1, r2) := H
             have A46 := Aside0.mk A460; clear A460
             by_cases c47 : x265001_3.length < 8796093022208
             ·rw [if_pos c47] at H
              have LMc47 := Aside0.mk c47; clear c47
              obtain ⟨y276, hy276⟩ : ∃ y_ : List (S92), y_ = (x265001_3 ++ [(⟨x10_3, t275⟩ : S92)]) := ⟨_, rfl⟩
              replace H : (mapmakerref47_Expand.l3 k3 (l0_2.length : Int) (wrap64 (x10_3 + 1)) l0_0 l0_1 l0_2 (wrap64 ((l0_2.length : Int) + (wrap64 (2 * (l0_0.length : Int))))) y276) = some (r1, r2) := by first | (rw [hy276]; with_reducible exact H) | (have H2_ := (Option.bind_some _ _).symm.trans H; rw [hy276]; with_reducible exact H2_) | (have H2_ := (Option.bind_some _ _).symm.trans H; with_reducible exact H2_) | with_reducible exact H | (rw [hy276]; exact H) | exact H
              have Ny276 := Aside0.mk hy276; clear hy276
              have H' := Aside0.mk H
              clear H
              try go_wp2
              have n0_ := Aside0.mk (Kd.R_drew HO_265001.out); have n1_ := Aside0.mk (blk_drew BK261.out); have n2_ := Aside0.mk (blk_drew BK262.out); have n3_ := Aside0.mk (blk_drew BK264.out); have n4_ := Aside0.mk (below_drew1 HB.out); clear HO_265001 BK261 BK262 BK264 HB; have HO_265001 := n0_; have BK261 := n1_; have BK262 := n2_; have BK264 := n3_; have HB := n4_; clear n0_ n1_ n2_ n3_ n4_
              have p274 : 0 ≤ (x10_3 : Int) := odt
              have q274 : x10_3 < (l0_2.length : Int) := odt
              obtain ⟨ad274, A274_5, c274_5, e274, hx274_0, hx274_1, hx274_2, hx274_3, hx274_4, hx274_5, hx274_6, hx274_7, hl274_5, hi274_5⟩ := at_T58 HR0_2.out x10_3 p274 q274
              have hw274_7 := hx274_7; have hw274_6 := hx274_6; have hw274_5 := hx274_5; have hw274_4 := hx274_4; have hw274_3 := hx274_3; have hw274_2 := hx274_2; have hw274_1 := hx274_1; have hw274_0 := hx274_0
              cases e274
              replace hx274_0 := (HB.out.cell (World.block_lt_of_cell? w _ hx274_0)).trans hx274_0
              replace hx274_1 := (HB.out.cell (World.block_lt_of_cell? w _ hx274_1)).trans hx274_1
              replace hx274_2 := (HB.out.cell (World.block_lt_of_cell? w _ hx274_2)).trans hx274_2
              replace hx274_3 := (HB.out.cell (World.block_lt_of_cell? w _ hx274_3)).trans hx274_3
              replace hx274_4 := (HB.out.cell (World.block_lt_of_cell? w _ hx274_4)).trans hx274_4
              replace hx274_5 := (HB.out.cell (World.block_lt_of_cell? w _ hx274_5)).trans hx274_5
              replace hx274_6 := (HB.out.cell (World.block_lt_of_cell? w _ hx274_6)).trans hx274_6
              replace hx274_7 := (HB.out.cell (World.block_lt_of_cell? w _ hx274_7)).trans hx274_7
              have HR274_5 := Aside0.mk hi274_5; have HC274_5 := Aside0.mk hl274_5; clear hi274_5 hl274_5; replace p274 := eq_true p274; replace q274 := eq_true q274
              refine start_ (n := 16) (S := fun w' => w'.cell? ⟨gb264, 0, none⟩ = some (.int .i64 (wrap64 ((l0_2.length : Int) + (wrap64 (2 * (l0_0.length : Int)))))) ∧ w'.cell? ⟨gb264, 1, none⟩ = some (u265001) ∧ w'.cell? ⟨gb261, 0, none⟩ = some (.slice A0_0 l0_0.length c0_0) ∧ w'.cell? ⟨gb261, 1, none⟩ = some (.slice A0_1 l0_1.length c0_1) ∧ w'.cell? ⟨gb261, 2, none⟩ = some (.slice (some ad274) l0_2.length c0_2) ∧ w'.cell? (ad274.add ((x10_3).toNat * 8)) = some (.int .i64 ((rd_T58 l0_2 x10_3).f0)) ∧ w'.cell? ⟨(ad274.add ((x10_3).toNat * 8)).block, (ad274.add ((x10_3).toNat * 8)).off + 1, none⟩ = some (.int .i64 ((rd_T58 l0_2 x10_3).f1)) ∧ w'.cell? ⟨(ad274.add ((x10_3).toNat * 8)).block, (ad274.add ((x10_3).toNat * 8)).off + 2, none⟩ = some (.int .i64 ((rd_T58 l0_2 x10_3).f2)) ∧ w'.cell? ⟨(ad274.add ((x10_3).toNat * 8)).block, (ad274.add ((x10_3).toNat * 8)).off + 3, none⟩ = some (.int .i64 ((rd_T58 l0_2 x10_3).f3)) ∧ w'.cell? ⟨(ad274.add ((x10_3).toNat * 8)).block, (ad274.add ((x10_3).toNat * 8)).off + 4, none⟩ = some (.int .i64 ((rd_T58 l0_2 x10_3).f4)) ∧ w'.cell? ⟨(ad274.add ((x10_3).toNat * 8)).block, (ad274.add ((x10_3).toNat * 8)).off + 5, none⟩ = some (.slice A274_5 ((rd_T58 l0_2 x10_3).f5.f0).length c274_5) ∧ w'.cell? ⟨(ad274.add ((x10_3).toNat * 8)).block, (ad274.add ((x10_3).toNat * 8)).off + 6, none⟩ = some (.int .i64 ((rd_T58 l0_2 x10_3).f5.f1)) ∧ w'.cell? ⟨(ad274.add ((x10_3).toNat * 8)).block, (ad274.add ((x10_3).toNat * 8)).off + 7, none⟩ = some (.int .i64 ((rd_T58 l0_2 x10_3).f5.f2))) (ds := [15]) (bits 16 0) (by kernel_rfl) rfl rfl ⟨(blk_cell BK264.out 0).trans rfl, (blk_cell BK264.out 1).trans rfl, (blk_cell BK261.out 0).trans rfl, (blk_cell BK261.out 1).trans rfl, (blk_cell BK261.out 2).trans rfl, ((HB.out.cell (World.block_lt_of_cell? w _ hw274_0)).trans hw274_0), ((HB.out.cell (World.block_lt_of_cell? w _ hw274_1)).trans hw274_1), ((HB.out.cell (World.block_lt_of_cell? w _ hw274_2)).trans hw274_2), ((HB.out.cell (World.block_lt_of_cell? w _ hw274_3)).trans hw274_3), ((HB.out.cell (World.block_lt_of_cell? w _ hw274_4)).trans hw274_4), ((HB.out.cell (World.block_lt_of_cell? w _ hw274_5)).trans hw274_5), ((HB.out.cell (World.block_lt_of_cell? w _ hw274_6)).trans hw274_6), ((HB.out.cell (World.block_lt_of_cell? w _ hw274_7)).trans hw274_7)⟩ (fun hHeld => ?_); refine with_tabW mapmakerref47_Expand.tab20 mapmakerref47_Expand.bits20 (fun HT_ HW_ => ?_)
              generalize wr.drew = w48 at HO_265001 BK261 BK262 BK264 HB HR274_5 hx274_0 hx274_1 hx274_2 hx274_3 hx274_4 hx274_5 hx274_6 hx274_7 hHeld ⊢
              refine q_ 0 73 HT_ ?_; refine q_ 2 75 HT_ ?_; refine q_ 4 77 HT_ ?_; refine q_ 6 79 HT_ ?_; refine take_ (i := 1) (N := some 74) (v := ?_) (a' := ?_) (bits 16 87) rfl rfl (take_ofW HT_.out HW_.out (by kernel_rfl)) (fun _ _ _ h => h) (Or.inl ⟨by rfl, ?_⟩) hHeld ?_ ?_; rotate_left; (·rintro w' ⟨s0, s1, s2, s3, s4, s5, s6, s7, s8, s9, s10, s11, s12⟩; go_simp; with_reducible rfl); rotate_left; (·simp only [putW]; rfl); refine take_ (i := 3) (N := some 76) (v := ?_) (a' := ?_) (bits 16 95) rfl rfl (take_ofW HT_.out HW_.out (by kernel_rfl)) (fun _ _ _ h => h) (Or.inl ⟨by rfl, ?_⟩) hHeld ?_ ?_; rotate_left; (·rintro w' ⟨s0, s1, s2, s3, s4, s5, s6, s7, s8, s9, s10, s11, s12⟩; go_simp; with_reducible rfl); rotate_left; (·simp only [putW]; rfl); refine take_ (i := 5) (N := some 78) (v := ?_) (a' := ?_) (bits 16 127) rfl rfl (take_ofW HT_.out HW_.out (by kernel_rfl)) (fun _ _ _ h => h) (Or.inl ⟨by rfl, ?_⟩) hHeld ?_ ?_; rotate_left; (·rintro w' ⟨s0, s1, s2, s3, s4, s5, s6, s7, s8, s9, s10, s11, s12⟩; go_simp; with_reducible rfl); rotate_left; (·simp only [putW]; rfl); refine q_ 7 80 HT_ ?_; refine q_ 8 81 HT_ ?_; refine take_ (i := 9) (N := some 82) (v := ?_) (a' := ?_) (bits 16 1023) rfl rfl (take_ofW HT_.out HW_.out (by kernel_rfl)) (fun _ _ _ h => h) (Or.inl ⟨by rfl, ?_⟩) hHeld ?_ ?_; rotate_left; (·rintro w' ⟨s0, s1, s2, s3, s4, s5, s6, s7, s8, s9, s10, s11, s12⟩; go_simp; with_reducible rfl); rotate_left; (·simp only [putW]; rfl); refine one_ (i := 10) (N := some 83) (bits 16 2047) rfl rfl (one_of HT_.out (by kernel_rfl)) (by decide) (fun K hK => ?_)
              refine goes_ Try.func19 (by kernel_rfl) rfl #[.agg #[.slice A0_0 l0_0.length c0_0, .slice A0_1 l0_1.length c0_1, .slice (some ad274) l0_2.length c0_2], .int .i64 ((rd_T58 l0_2 x10_3).f1)] (by rfl) rfl rfl byL ?_
              with_reducible refine (mapmakerref47_Target.calls k3 _ _ l0_0 _ _ l0_1 _ _ l0_2 ((rd_T58 l0_2 x10_3).f1) t275 _ ?side1 ?side2 ?side3 ?side4 ?side5 ?side6 A46.out).mono ?_
              (case side1 => exact byC (Kd.C_below HR0_0.out HB.out))
              (case side2 => exact HC0_0.out)
              (case side3 => exact byC (Kd.C_below HR0_1.out HB.out))
              (case side4 => exact HC0_1.out)
              (case side5 => exact byC (Kd.C_below HR0_2.out HB.out))
              (case side6 => exact HC0_2.out)
              rintro e w49 ⟨rfl, hb⟩
              refine ⟨_, rfl, ?_⟩
              have n0_ := Aside0.mk (Kd.R_below (byR HO_265001.out) hb); have n1_ := Aside0.mk (blk_below (g := gb261) (o := .cells #[.slice A0_0 l0_0.length c0_0, .slice A0_1 l0_1.length c0_1, .slice (some ad274) l0_2.length c0_2] 37 (0, 0)) (byK BK261.out) hb); have n2_ := Aside0.mk (blk_below (g := gb262) (o := .cells #[.int .i64 0, .slice none 0 0] 51 (0, 0)) (byK BK262.out) hb); have n3_ := Aside0.mk (blk_below (g := gb264) (o := .cells #[.int .i64 (wrap64 ((l0_2.length : Int) + (wrap64 (2 * (l0_0.length : Int))))), u265001] 51 (0, 0)) (byK BK264.out) hb); have n4_ := Aside0.mk (below_step (byB3 HB.out GE261.out GE262.out GE264.out) hb); clear HO_265001 BK261 BK262 BK264 HB; have HO_265001 := n0_; have BK261 := n1_; have BK262 := n2_; have BK264 := n3_; have HB := n4_; clear n0_ n1_ n2_ n3_ n4_
              (try clear hb)
              (try clear hb2)
              (try clear hk)
              (try clear hi)
              refine hK.out _ _ ⟨(blk_cell BK264.out 0).trans rfl, (blk_cell BK264.out 1).trans rfl, (blk_cell BK261.out 0).trans rfl, (blk_cell BK261.out 1).trans rfl, (blk_cell BK261.out 2).trans rfl, ((HB.out.cell (World.block_lt_of_cell? w _ hw274_0)).trans hw274_0), ((HB.out.cell (World.block_lt_of_cell? w _ hw274_1)).trans hw274_1), ((HB.out.cell (World.block_lt_of_cell? w _ hw274_2)).trans hw274_2), ((HB.out.cell (World.block_lt_of_cell? w _ hw274_3)).trans hw274_3), ((HB.out.cell (World.block_lt_of_cell? w _ hw274_4)).trans hw274_4), ((HB.out.cell (World.block_lt_of_cell? w _ hw274_5)).trans hw274_5), ((HB.out.cell (World.block_lt_of_cell? w _ hw274_6)).trans hw274_6), ((HB.out.cell (World.block_lt_of_cell? w _ hw274_7)).trans hw274_7)⟩ (fun hHeld => ?_)
              clear hK K
              refine norm_ (a' := ?_) ?_ ?_
              rotate_left
              ·show Act.put _ (some 83) _ = _
               simp only [putW]; rfl
              refine q_ 11 84 HT_ ?_; refine one_ (i := 12) (N := some 85) (bits 16 8191) rfl rfl (one_of HT_.out (by kernel_rfl)) (by decide) (fun K hK => ?_)
              refine value_ (w1 := ?_) (v := ?_) (by rfl) rfl ?_ ?_
              rotate_left 2
              ·go_simp
               constructor
               (·rfl); (·rfl)
              refine hK.out _ _ ⟨(blk_cell (blk_alloc BK264.out _) 0).trans rfl, (blk_cell (blk_alloc BK264.out _) 1).trans rfl, (blk_cell (blk_alloc BK261.out _) 0).trans rfl, (blk_cell (blk_alloc BK261.out _) 1).trans rfl, (blk_cell (blk_alloc BK261.out _) 2).trans rfl, (World.cell?_alloc_lt _ _ _ (World.block_lt_of_cell? _ _ (((HB.out.cell (World.block_lt_of_cell? w _ hw274_0)).trans hw274_0)))).trans (((HB.out.cell (World.block_lt_of_cell? w _ hw274_0)).trans hw274_0)), (World.cell?_alloc_lt _ _ _ (World.block_lt_of_cell? _ _ (((HB.out.cell (World.block_lt_of_cell? w _ hw274_1)).trans hw274_1)))).trans (((HB.out.cell (World.block_lt_of_cell? w _ hw274_1)).trans hw274_1)), (World.cell?_alloc_lt _ _ _ (World.block_lt_of_cell? _ _ (((HB.out.cell (World.block_lt_of_cell? w _ hw274_2)).trans hw274_2)))).trans (((HB.out.cell (World.block_lt_of_cell? w _ hw274_2)).trans hw274_2)), (World.cell?_alloc_lt _ _ _ (World.block_lt_of_cell? _ _ (((HB.out.cell (World.block_lt_of_cell? w _ hw274_3)).trans hw274_3)))).trans (((HB.out.cell (World.block_lt_of_cell? w _ hw274_3)).trans hw274_3)), (World.cell?_alloc_lt _ _ _ (World.block_lt_of_cell? _ _ (((HB.out.cell (World.block_lt_of_cell? w _ hw274_4)).trans hw274_4)))).trans (((HB.out.cell (World.block_lt_of_cell? w _ hw274_4)).trans hw274_4)), (World.cell?_alloc_lt _ _ _ (World.block_lt_of_cell? _ _ (((HB.out.cell (World.block_lt_of_cell? w _ hw274_5)).trans hw274_5)))).trans (((HB.out.cell (World.block_lt_of_cell? w _ hw274_5)).trans hw274_5)), (World.cell?_alloc_lt _ _ _ (World.block_lt_of_cell? _ _ (((HB.out.cell (World.block_lt_of_cell? w _ hw274_6)).trans hw274_6)))).trans (((HB.out.cell (World.block_lt_of_cell? w _ hw274_6)).trans hw274_6)), (World.cell?_alloc_lt _ _ _ (World.block_lt_of_cell? _ _ (((HB.out.cell (World.block_lt_of_cell? w _ hw274_7)).trans hw274_7)))).trans (((HB.out.cell (World.block_lt_of_cell? w _ hw274_7)).trans hw274_7))⟩ (fun hHeld => ?_)
              clear hK K
              refine norm_ (a' := ?_) ?_ ?_
              rotate_left
              ·show Act.put _ (some 85) _ = _
               simp only [putW]; rfl
              refine one_ (i := 13) (N := some 86) (bits 16 16383) rfl rfl (one_of HT_.out (by kernel_rfl)) (by decide) (fun K hK => ?_)
              refine Kd.R_append_step k92 (w0 := w) w.heap.size (by rfl) (.tmp 74) (.tmp 85) 49 92 (.agg #[(.int .i64 0), (.int .i64 0)]) 16 rfl Try.underlying49 info92 rfl (by decide) (by omega) u265001 x265001_3 (⟨x10_3, t275⟩ : S92) [.int .i64 x10_3, .int .i64 t275] (fun _ => True) (fun _ => False) rfl rfl ?aP (fun _ hk => hk.elim) ?aF ?aO ?aB ?aS ?aL ?_
              (case aP => exact k92_mkM _ _ _ (⟨x10_3, t275⟩ : S92))
              (case aB => exact (byB3 HB.out GE261.out GE262.out GE264.out))
              (case aF => exact (fun _ _ => trivial))
              (case aO => exact (byR HO_265001.out))
              (case aS => exact (below_size (byB3 HB.out GE261.out GE262.out GE264.out)))
              (case aL => have := LMc47.out; omega)
              intro v277 w50 ho hb hg hat
              rw [← Ny276.out] at ho
              have n0_ := Aside0.mk (blk_grown (g := gb261) (o := .cells #[.slice A0_0 l0_0.length c0_0, .slice A0_1 l0_1.length c0_1, .slice (some ad274) l0_2.length c0_2] 37 (0, 0)) (byK BK261.out) hg (Kd.R_ne HO_265001.out BK261.out (by decide))); have n1_ := Aside0.mk (blk_grown (g := gb262) (o := .cells #[.int .i64 0, .slice none 0 0] 51 (0, 0)) (byK BK262.out) hg (Kd.R_ne HO_265001.out BK262.out (by decide))); have n2_ := Aside0.mk (blk_grown (g := gb264) (o := .cells #[.int .i64 (wrap64 ((l0_2.length : Int) + (wrap64 (2 * (l0_0.length : Int))))), u265001] 51 (0, 0)) (byK BK264.out) hg (Kd.R_ne HO_265001.out BK264.out (by decide))); have n3_ := Aside0.mk (hb); have n4_ := Aside0.mk (ho); clear BK261 BK262 BK264 HB HO_265001; have BK261 := n0_; have BK262 := n1_; have BK264 := n2_; have HB := n3_; have HO278 := n4_; clear n0_ n1_ n2_ n3_ n4_ ho hb hg hat
              obtain ⟨Ao51, co51, eo51⟩ := Kd.R_slice HO278.out
              (first | subst eo51 | (injection eo51 with f1_ f2_ f3_; have f4_ := f1_.symm; have f5_ := f3_.symm; clear f1_ f2_ f3_; subst f4_; subst f5_))
              refine hK.out _ _ ⟨(blk_cell BK264.out 0).trans rfl, (blk_cell BK264.out 1).trans rfl, (blk_cell BK261.out 0).trans rfl, (blk_cell BK261.out 1).trans rfl, (blk_cell BK261.out 2).trans rfl, ((HB.out.cell (World.block_lt_of_cell? w _ hw274_0)).trans hw274_0), ((HB.out.cell (World.block_lt_of_cell? w _ hw274_1)).trans hw274_1), ((HB.out.cell (World.block_lt_of_cell? w _ hw274_2)).trans hw274_2), ((HB.out.cell (World.block_lt_of_cell? w _ hw274_3)).trans hw274_3), ((HB.out.cell (World.block_lt_of_cell? w _ hw274_4)).trans hw274_4), ((HB.out.cell (World.block_lt_of_cell? w _ hw274_5)).trans hw274_5), ((HB.out.cell (World.block_lt_of_cell? w _ hw274_6)).trans hw274_6), ((HB.out.cell (World.block_lt_of_cell? w _ hw274_7)).trans hw274_7)⟩ (fun hHeld => ?_)
              clear hK K
              refine norm_ (a' := ?_) ?_ ?_
              rotate_left
              ·show Act.put _ (some 86) _ = _
               simp only [putW]; rfl
              refine q_ 14 87 HT_ ?_
              refine last_ (i := 15) (N := none) (bits 16 65535) rfl rfl (one_of HT_.out (by kernel_rfl)) (by decide) (fun K hK => ?_)
              have hs52 : w50.cell? ⟨gb264, 1, none⟩ = some (u265001) := (blk_cell BK264.out 1).trans rfl
              have hfs52 := blk_frozen BK264.out 1; have hns52_0 := NB261_264.out; have hns52_1 := NB262_264.out; have hms52_0 := NB264_261.out; have hms52_1 := NB264_262.out
              refine skip_ (w1 := ?_) (by rfl) rfl ?_ ?_
              rotate_left; (·go_simp; rfl)
              refine hK.out _ _ ?_
              clear hK K
              refine done_ (done_of HT_.out (by kernel_rfl)) ?_
              try go_wp2
              go_roundg k3
              case measure => have := HK1.out; have := HK2.out; have := HK3.out; omega
              case rel => exact ⟨(wrap64 (x10_3 + 1)), (y276), (.slice Ao51 y276.length co51), byF, H', ⟨by have := HK1.out; have := HK2.out; have := HK3.out; omega⟩, ⟨by (with_reducible repeat (first | apply Kd.R_alloc | apply Kd.R_drewN | apply Kd.R_drew)); exact Kd.R_mono (Kd.R_far (p := ⟨gb264, 1, none⟩) (Kd.R_types HO278.out BK264.out (by decide)) (fun _ hk => hk.2) (.slice Ao51 y276.length co51)) (fun _ hk => trivial)⟩, ⟨by (with_reducible repeat (first | refine blk_drewN ?_ _ | refine blk_drew ?_ | refine blk_alloc ?_ _)); refine blk_far ?_ NB261_264.out _; (with_reducible repeat (first | refine blk_drewN ?_ _ | refine blk_drew ?_ | refine blk_alloc ?_ _)); exact BK261.out⟩, ⟨by (with_reducible repeat (first | refine blk_drewN ?_ _ | refine blk_drew ?_ | refine blk_alloc ?_ _)); refine blk_far ?_ NB262_264.out _; (with_reducible repeat (first | refine blk_drewN ?_ _ | refine blk_drew ?_ | refine blk_alloc ?_ _)); exact BK262.out⟩, ⟨by (with_reducible repeat (first | refine blk_drewN ?_ _ | refine blk_drew ?_ | refine blk_alloc ?_ _)); refine blk_put (cs := #[.int .i64 (wrap64 ((l0_2.length : Int) + (wrap64 (2 * (l0_0.length : Int))))), u265001]) ?_ 1 _ rfl; (with_reducible repeat (first | refine blk_drewN ?_ _ | refine blk_drew ?_ | refine blk_alloc ?_ _)); exact BK264.out⟩, ⟨byB3 HB.out GE261.out GE262.out GE264.out⟩⟩
             ·rw [if_neg c47] at H
              exact absurd H (by simp)
            ·rw [if_neg c45] at H
             exact absurd H (by simp)
           ·rw [if_neg c44] at H
            exact absurd H (by simp)
          ·rw [if_neg c43] at H
           have c43b0 : decide (x10_3 < (l0_2.length : Int)) = false := decide_eq_false c43
           clear c43
           simp only [Option.some.injEq, Prod.mk.injEq] at H
           obtain ⟨rfl, rfl⟩ := H
           have hnb53 := NB264_261.out; have hnc53 := NB261_264.out; have hnb54 := NB264_262.out; have hnc54 := NB262_264.out
           have hcz55_0 : wr.cell? ⟨gb264, 0, none⟩ = some (.int .i64 (wrap64 ((l0_2.length : Int) + (wrap64 (2 * (l0_0.length : Int)))))) := (blk_cell BK264.out 0).trans rfl
           have hcz55_1 : wr.cell? ⟨gb264, 1, none⟩ = some (u265001) := (blk_cell BK264.out 1).trans rfl
           have hfz55_0 := blk_frozen BK264.out 0; have hfz55_1 := blk_frozen BK264.out 1; have hnb56 := NB262_261.out; have hnc56 := NB261_262.out
           have hcz57_0 : wr.cell? ⟨gb262, 0, none⟩ = some (.int .i64 0) := (blk_cell BK262.out 0).trans rfl
           have hcz57_1 : wr.cell? ⟨gb262, 1, none⟩ = some (.slice none 0 0) := (blk_cell BK262.out 1).trans rfl
           have hfz57_0 := blk_frozen BK262.out 0; have hfz57_1 := blk_frozen BK262.out 1
           obtain ⟨Ao58, co58, eo58⟩ := Kd.R_slice HO_265001.out
           subst eo58
           go_wp2
           refine bodyPost_ret (results_cell_row rfl _ _ gb262 51 #[.int .i64 (wrap64 ((l0_2.length : Int) + (wrap64 (2 * (l0_0.length : Int))))), .slice Ao58 x265001_3.length co58] (0, 0) _ rfl (by (with_reducible repeat (first | refine blk_drewN ?_ _ | refine blk_drew ?_ | refine blk_alloc ?_ _)); refine blk_put (cs := #[.int .i64 (wrap64 ((l0_2.length : Int) + (wrap64 (2 * (l0_0.length : Int))))), .slice none 0 0]) ?_ 1 _ rfl; (with_reducible repeat (first | refine blk_drewN ?_ _ | refine blk_drew ?_ | refine blk_alloc ?_ _)); refine blk_put (cs := #[.int .i64 0, .slice none 0 0]) ?_ 0 _ rfl; (with_reducible repeat (first | refine blk_drewN ?_ _ | refine blk_drew ?_ | refine blk_alloc ?_ _)); exact BK262.out) Try.underlying51 rfl (by kernel_rfl)) rfl ?_
           exact ⟨_, byE, by (with_reducible repeat (first | apply Kd.R_alloc | apply Kd.R_drewN | apply Kd.R_drew)); exact Kd.R_mono (Kd.R_far (p := ⟨gb262, 1, none⟩) (Kd.R_far (p := ⟨gb262, 0, none⟩) (Kd.R_types HO_265001.out BK262.out (by decide)) (fun _ hk => hk.2) (.int .i64 (wrap64 ((l0_2.length : Int) + (wrap64 (2 * (l0_0.length : Int))))))) (fun _ hk => hk.2) (.slice Ao58 x265001_3.length co58)) (fun _ hk => trivial), byB3 HB.out GE261.out GE262.out GE264.out⟩
 ·rw [if_neg c4] at H
  have c4b0 : (t263 == 0) = false := beq_eq_false_iff_ne.mpr c4
  have c4b1 : (t263 != 0) = true := bne_iff_ne.mpr c4
  simp only [Option.some.injEq, Prod.mk.injEq] at H
  obtain ⟨rfl, rfl⟩ := H
  go_enter Try.func43, Try.ntmps43
  go_wp2_with (first | ((with_reducible refine gate_dst (N := 2) rfl ?_); refine box_event ?hg (N := 2) ?hd (cs := #[.slice A0_0 l0_0.length c0_0, .slice A0_1 l0_1.length c0_1, .slice A0_2 l0_2.length c0_2]) (t := 37) ?hr ?_; (case hd => rfl); (case hg => rfl); (case hr => first | (go_simp; done) | (go_simp; rfl)); intro gb261 hg w59 hbox hb; have n0_ := Aside0.mk (below_step (byB HB.out) hb); have n1_ := Aside0.mk (hbox); have n2_ := Aside0.mk ((by rw [hg]; exact (below_size (byB HB.out)) : w.heap.size ≤ gb261)); have n3_ := Aside0.mk ((by rw [hg]; exact (below_size (byB HB.out)) : w.heap.size ≤ gb261)); clear HB; have HB := n0_; have BK261 := n1_; have GW261 := n2_; have GE261 := n3_; clear n0_ n1_ n2_ n3_ hb hbox hg) | ((with_reducible refine gate_dst (N := 4) rfl ?_); refine box_event ?hg (N := 4) ?hd (cs := #[.int .i64 0, .slice none 0 0]) (t := 51) ?hr ?_; (case hd => rfl); (case hg => rfl); (case hr => first | (go_simp; done) | (go_simp; rfl)); intro gb262 hg w60 hbox hb; have n0_ := Aside0.mk (blk_below (g := gb261) (o := .cells #[.slice A0_0 l0_0.length c0_0, .slice A0_1 l0_1.length c0_1, .slice A0_2 l0_2.length c0_2] 37 (0, 0)) (byK BK261.out) hb); have n1_ := Aside0.mk (below_step (byB1 HB.out GE261.out) hb); have n2_ := Aside0.mk (hbox); have n3_ := Aside0.mk ((by rw [hg]; exact (below_size (byB1 HB.out GE261.out)) : w.heap.size ≤ gb262)); have n4_ := Aside0.mk ((by rw [hg]; exact (below_size (byB1 HB.out GE261.out)) : w.heap.size ≤ gb262)); have n5_ := Aside0.mk ((by rw [hg]; exact Nat.ne_of_lt (blk_lt (g := gb261) (o := .cells #[.slice A0_0 l0_0.length c0_0, .slice A0_1 l0_1.length c0_1, .slice A0_2 l0_2.length c0_2] 37 (0, 0)) (byK BK261.out)) : gb261 ≠ gb262)); have n6_ := Aside0.mk ((by rw [hg]; exact Nat.ne_of_gt (blk_lt (g := gb261) (o := .cells #[.slice A0_0 l0_0.length c0_0, .slice A0_1 l0_1.length c0_1, .slice A0_2 l0_2.length c0_2] 37 (0, 0)) (byK BK261.out)) : gb262 ≠ gb261)); clear BK261 HB; have BK261 := n0_; have HB := n1_; have BK262 := n2_; have GW262 := n3_; have GE262 := n4_; have NB261_262 := n5_; have NB262_261 := n6_; clear n0_ n1_ n2_ n3_ n4_ n5_ n6_ hb hbox hg; have hnb61 := NB261_262.out; have hnc61 := NB262_261.out; have hcz62_0 : w60.cell? ⟨gb261, 0, none⟩ = some (.slice A0_0 l0_0.length c0_0) := (blk_cell BK261.out 0).trans rfl; have hcz62_1 : w60.cell? ⟨gb261, 1, none⟩ = some (.slice A0_1 l0_1.length c0_1) := (blk_cell BK261.out 1).trans rfl; have hcz62_2 : w60.cell? ⟨gb261, 2, none⟩ = some (.slice A0_2 l0_2.length c0_2) := (blk_cell BK261.out 2).trans rfl; have hfz62_0 := blk_frozen BK261.out 0; have hfz62_1 := blk_frozen BK261.out 1; have hfz62_2 := blk_frozen BK261.out 2) | ((with_reducible refine gate_callee (f := 20) rfl ?_); refine goesL_ (some 12) rfl rfl Try.func20 (by kernel_rfl) rfl #[.agg #[.slice A0_0 l0_0.length c0_0, .slice A0_1 l0_1.length c0_1, .slice A0_2 l0_2.length c0_2]] rfl byL ?_; (with_reducible refine (mapmakerref46_Check.calls k _ _ l0_0 _ _ l0_1 _ _ l0_2 t263 _ ?side1 ?side2 ?side3 ?side4 ?side5 ?side6 A3.out).mono ?_); (case side1 => exact byC (Kd.C_below HR0_0.out HB.out)); (case side2 => exact HC0_0.out); (case side3 => exact byC (Kd.C_below HR0_1.out HB.out)); (case side4 => exact HC0_1.out); (case side5 => exact byC (Kd.C_below HR0_2.out HB.out)); (case side6 => exact HC0_2.out); rintro e w63 ⟨rfl, hb⟩; refine ⟨_, rfl, ?_⟩; have n0_ := Aside0.mk (blk_below (g := gb261) (o := .cells #[.slice A0_0 l0_0.length c0_0, .slice A0_1 l0_1.length c0_1, .slice A0_2 l0_2.length c0_2] 37 (0, 0)) (byK BK261.out) hb); have n1_ := Aside0.mk (blk_below (g := gb262) (o := .cells #[.int .i64 0, .slice none 0 0] 51 (0, 0)) (byK BK262.out) hb); have n2_ := Aside0.mk (below_step (byB2 HB.out GE261.out GE262.out) hb); clear BK261 BK262 HB; have BK261 := n0_; have BK262 := n1_; have HB := n2_; clear n0_ n1_ n2_; (try clear hb); (try clear hb2); (try clear hk); (try clear hi); have hcz64_0 : w63.cell? ⟨gb262, 0, none⟩ = some (.int .i64 0) := (blk_cell BK262.out 0).trans rfl; have hcz64_1 : w63.cell? ⟨gb262, 1, none⟩ = some (.slice none 0 0) := (blk_cell BK262.out 1).trans rfl; have hfz64_0 := blk_frozen BK262.out 0; have hfz64_1 := blk_frozen BK262.out 1))
  refine bodyPost_ret (results_cell_row rfl _ _ gb262 51 #[.int .i64 0, .slice none 0 0] (0, 0) _ rfl (by (with_reducible repeat (first | refine blk_drewN ?_ _ | refine blk_drew ?_ | refine blk_alloc ?_ _)); refine blk_put (cs := #[.int .i64 0, .slice none 0 0]) ?_ 1 _ rfl; (with_reducible repeat (first | refine blk_drewN ?_ _ | refine blk_drew ?_ | refine blk_alloc ?_ _)); refine blk_put (cs := #[.int .i64 0, .slice none 0 0]) ?_ 0 _ rfl; (with_reducible repeat (first | refine blk_drewN ?_ _ | refine blk_drew ?_ | refine blk_alloc ?_ _)); exact BK262.out) Try.underlying51 rfl (by kernel_rfl)) rfl ?_
  exact ⟨_, byE, by first | exact Kd.R_nil _ _ _ _ _ | exact Kd.N_nil _ _ _ _ _ | exact Kd.V_nil _ _ _ _ _ | exact Kd.Q_nil _ _ _ _ _ | exact Kd.S_nil _ _ _ _ _, byB2 HB.out GE261.out GE262.out⟩
end Go.Proofs.Ytaodlehnfjalnaa.Print
