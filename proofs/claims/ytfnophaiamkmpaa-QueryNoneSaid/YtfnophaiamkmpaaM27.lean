/- Several texts of this claim in one: F14, F45, HQSetup. -/
import Derived.Test.YtfnophaiamkmpaaPrint0
import Derived.Test.YtfnophaiamkmpaaM19
import Derived.Test.YtfnophaiamkmpaaM8
import Derived.Test.YtfnophaiamkmpaaM1
import Derived.Test.YtfnophaiamkmpaaM26
import Derived.Test.YtfnophaiamkmpaaM20
namespace Go.Proofs.Ytfnophaiamkmpaa.Print
open Go.RowKit Go.Proofs.YtfnophaiamkmpaaW.PrintWords Go.Proofs.YtfnophaiamkmpaaW.PrintLast Go.Proofs.YtfnophaiamkmpaaW.PrintMore
attribute [local go_sem] max2_int min2_int max_two min_two max_three min_three max_four min_four   -- for this text's walks alone
set_option linter.unusedVariables false
set_option linter.unusedSimpArgs false
/-! ### mapmakerlaw42_valid: function 14 -/
def mapmakerlaw42_valid.f (k : Nat) (a0_0 : Int) (l0_1 : List (S58)) (l0_2 : List Int) (l0_3 : List Int) : Option (Bool) := if a0_0 ≤ 12 then (if (l0_1.length : Int) ≤ 40 then (if (l0_2.length : Int) ≤ 12 then (if (l0_3.length : Int) ≤ 40 then ((mapmakerref38_Check.f k a0_0 l0_1 l0_3).bind fun t113 => (if t113 = 0 then ((mapmakerref39_Check.f k a0_0 l0_2).bind fun t114 => (some (t114 == 0))) else (some false))) else (some false)) else (some false)) else (some false)) else (some false)
set_option maxHeartbeats 8000000 in
set_option maxRecDepth 100000 in
theorem mapmakerlaw42_valid.calls (k : Nat) (a0_0 : Int) (A0_1 : Option Addr) (c0_1 : Nat) (l0_1 : List (S58)) (A0_2 : Option Addr) (c0_2 : Nat) (l0_2 : List Int) (A0_3 : Option Addr) (c0_3 : Nat) (l0_3 : List Int) (r : Bool) (w : World) (hr0_1 : Kd.C k58 w A0_1 l0_1.length l0_1) (hc0_1 : l0_1.length ≤ c0_1) (hr0_2 : Kd.C (Kd.int .i64) w A0_2 l0_2.length l0_2) (hc0_2 : l0_2.length ≤ c0_2) (hr0_3 : Kd.C (Kd.int .i64) w A0_3 l0_3.length l0_3) (hc0_3 : l0_3.length ≤ c0_3) (h : mapmakerlaw42_valid.f k a0_0 l0_1 l0_2 l0_3 = some r) :
  Calls Try.prog 14 #[.agg #[.int .i64 a0_0, .slice A0_1 l0_1.length c0_1, .slice A0_2 l0_2.length c0_2, .slice A0_3 l0_3.length c0_3]] w fun e w' => e = .returned (.bool r) ∧ Below w.heap.size w w' := by
 have hu27 := Try.underlying27; have hu24 := Try.underlying24; have HR0_1 := Aside0.mk hr0_1; have HC0_1 := Aside0.mk hc0_1; clear hr0_1 hc0_1; have HR0_2 := Aside0.mk hr0_2; have HC0_2 := Aside0.mk hc0_2; clear hr0_2 hc0_2; have HR0_3 := Aside0.mk hr0_3; have HC0_3 := Aside0.mk hc0_3; clear hr0_3 hc0_3; have HB := Aside0.mk (Below.refl w.heap.size w)
 have H : (if a0_0 ≤ 12 then (if (l0_1.length : Int) ≤ 40 then (if (l0_2.length : Int) ≤ 12 then (if (l0_3.length : Int) ≤ 40 then ((mapmakerref38_Check.f k a0_0 l0_1 l0_3).bind fun t113 => (if t113 = 0 then ((mapmakerref39_Check.f k a0_0 l0_2).bind fun t114 => (some (t114 == 0))) else (some false))) else (some false)) else (some false)) else (some false)) else (some false)) = some r := h
 clear h
 by_cases c2 : a0_0 ≤ 12
 ·rw [if_pos c2] at H
  have c2b0 : decide (a0_0 ≤ 12) = true := decide_eq_true c2
  clear c2
  by_cases c3 : (l0_1.length : Int) ≤ 40
  ·rw [if_pos c3] at H
   have c3b0 : decide ((l0_1.length : Int) ≤ 40) = true := decide_eq_true c3
   have c3b1 : decide (l0_1.length ≤ 40) = true := decide_eq_true (by omega)
   clear c3
   by_cases c4 : (l0_2.length : Int) ≤ 12
   ·rw [if_pos c4] at H
    have c4b0 : decide ((l0_2.length : Int) ≤ 12) = true := decide_eq_true c4
    have c4b1 : decide (l0_2.length ≤ 12) = true := decide_eq_true (by omega)
    clear c4
    by_cases c5 : (l0_3.length : Int) ≤ 40
    ·rw [if_pos c5] at H
     have c5b0 : decide ((l0_3.length : Int) ≤ 40) = true := decide_eq_true c5
     have c5b1 : decide (l0_3.length ≤ 40) = true := decide_eq_true (by omega)
     clear c5
     replace H := Option.bind_eq_some_iff.mp H
     obtain ⟨t113, A60, H⟩ := H
     replace H : (if t113 = 0 then ((mapmakerref39_Check.f k a0_0 l0_2).bind fun t114 => (some (t114 == 0))) else (some false)) = some r := H
     have A6 := Aside0.mk A60; clear A60
     by_cases c7 : t113 = 0
     ·rw [if_pos c7] at H
      have c7b0 : (t113 == 0) = true := beq_iff_eq.mpr c7
      have c7b1 : (t113 != 0) = false := bne_eq_false_iff_eq.mpr c7
      clear c7
      replace H := Option.bind_eq_some_iff.mp H
      obtain ⟨t114, A80, H⟩ := H
      replace H : (some (t114 == 0)) = some r := H
      have A8 := Aside0.mk A80; clear A80
      obtain rfl := Option.some.inj H
      go_enter Try.func14, Try.ntmps14
      go_wp2_with (first | ((with_reducible refine gate_dst (N := 1) rfl ?_); (try (refine gate_guard (by rfl) ?_; dsimp only)); refine box_event ?hg (N := 1) ?hd (cs := #[.int .i64 a0_0, .slice A0_1 l0_1.length c0_1, .slice A0_2 l0_2.length c0_2, .slice A0_3 l0_3.length c0_3]) (t := 27) ?hr ?_; (case hd => rfl); (case hg => rfl); (case hr => first | (go_simp; done) | (go_simp; rfl)); intro gb112 hg w9 hbox hb; have n0_ := Aside0.mk (below_step (byB HB.out) hb); have n1_ := Aside0.mk (hbox); have n2_ := Aside0.mk ((by rw [hg]; exact (below_size (byB HB.out)) : w.heap.size ≤ gb112)); have n3_ := Aside0.mk ((by rw [hg]; exact (below_size (byB HB.out)) : w.heap.size ≤ gb112)); clear HB; have HB := n0_; have BK112 := n1_; have GW112 := n2_; have GE112 := n3_; clear n0_ n1_ n2_ n3_ hb hbox hg; have hcz10_0 : w9.cell? ⟨gb112, 0, none⟩ = some (.int .i64 a0_0) := (blk_cell BK112.out 0).trans rfl; have hcz10_1 : w9.cell? ⟨gb112, 1, none⟩ = some (.slice A0_1 l0_1.length c0_1) := (blk_cell BK112.out 1).trans rfl; have hcz10_2 : w9.cell? ⟨gb112, 2, none⟩ = some (.slice A0_2 l0_2.length c0_2) := (blk_cell BK112.out 2).trans rfl; have hcz10_3 : w9.cell? ⟨gb112, 3, none⟩ = some (.slice A0_3 l0_3.length c0_3) := (blk_cell BK112.out 3).trans rfl; have hfz10_0 := blk_frozen BK112.out 0; have hfz10_1 := blk_frozen BK112.out 1; have hfz10_2 := blk_frozen BK112.out 2; have hfz10_3 := blk_frozen BK112.out 3) | (go_at_call 30; (with_reducible refine (mapmakerref38_Check.calls k a0_0 _ _ l0_1 _ _ l0_3 t113 _ ?side1 ?side2 ?side3 ?side4 A6.out).mono ?_); (case side1 => exact byC (Kd.C_below HR0_1.out HB.out)); (case side2 => exact HC0_1.out); (case side3 => exact byC (Kd.C_below HR0_3.out HB.out)); (case side4 => exact HC0_3.out); rintro e w11 ⟨rfl, hb⟩; have n0_ := Aside0.mk (blk_below (g := gb112) (o := .cells #[.int .i64 a0_0, .slice A0_1 l0_1.length c0_1, .slice A0_2 l0_2.length c0_2, .slice A0_3 l0_3.length c0_3] 27 (0, 0)) (byK BK112.out) hb); have n1_ := Aside0.mk (below_step (byB1 HB.out GE112.out) hb); clear BK112 HB; have BK112 := n0_; have HB := n1_; clear n0_ n1_; (try clear hb); (try clear hb2); (try clear hk); (try clear hi); have hcz12_0 : w11.cell? ⟨gb112, 0, none⟩ = some (.int .i64 a0_0) := (blk_cell BK112.out 0).trans rfl; have hcz12_1 : w11.cell? ⟨gb112, 1, none⟩ = some (.slice A0_1 l0_1.length c0_1) := (blk_cell BK112.out 1).trans rfl; have hcz12_2 : w11.cell? ⟨gb112, 2, none⟩ = some (.slice A0_2 l0_2.length c0_2) := (blk_cell BK112.out 2).trans rfl; have hcz12_3 : w11.cell? ⟨gb112, 3, none⟩ = some (.slice A0_3 l0_3.length c0_3) := (blk_cell BK112.out 3).trans rfl; have hfz12_0 := blk_frozen BK112.out 0; have hfz12_1 := blk_frozen BK112.out 1; have hfz12_2 := blk_frozen BK112.out 2; have hfz12_3 := blk_frozen BK112.out 3) | (go_at_call 44; (with_reducible refine (mapmakerref39_Check.calls k a0_0 _ _ l0_2 t114 _ ?side1 ?side2 A8.out).mono ?_); (case side1 => exact byC (Kd.C_below HR0_2.out HB.out)); (case side2 => exact HC0_2.out); rintro e w' ⟨rfl, ⟨nd, rfl⟩⟩))
      go_ret
      exact ⟨byE, byB1 HB.out GE112.out⟩
     ·rw [if_neg c7] at H
      have c7b0 : (t113 == 0) = false := beq_eq_false_iff_ne.mpr c7
      have c7b1 : (t113 != 0) = true := bne_iff_ne.mpr c7
      obtain rfl := Option.some.inj H
      go_enter Try.func14, Try.ntmps14
      go_wp2_with (first | ((with_reducible refine gate_dst (N := 1) rfl ?_); (try (refine gate_guard (by rfl) ?_; dsimp only)); refine box_event ?hg (N := 1) ?hd (cs := #[.int .i64 a0_0, .slice A0_1 l0_1.length c0_1, .slice A0_2 l0_2.length c0_2, .slice A0_3 l0_3.length c0_3]) (t := 27) ?hr ?_; (case hd => rfl); (case hg => rfl); (case hr => first | (go_simp; done) | (go_simp; rfl)); intro gb112 hg w13 hbox hb; have n0_ := Aside0.mk (below_step (byB HB.out) hb); have n1_ := Aside0.mk (hbox); have n2_ := Aside0.mk ((by rw [hg]; exact (below_size (byB HB.out)) : w.heap.size ≤ gb112)); have n3_ := Aside0.mk ((by rw [hg]; exact (below_size (byB HB.out)) : w.heap.size ≤ gb112)); clear HB; have HB := n0_; have BK112 := n1_; have GW112 := n2_; have GE112 := n3_; clear n0_ n1_ n2_ n3_ hb hbox hg; have hcz14_0 : w13.cell? ⟨gb112, 0, none⟩ = some (.int .i64 a0_0) := (blk_cell BK112.out 0).trans rfl; have hcz14_1 : w13.cell? ⟨gb112, 1, none⟩ = some (.slice A0_1 l0_1.length c0_1) := (blk_cell BK112.out 1).trans rfl; have hcz14_2 : w13.cell? ⟨gb112, 2, none⟩ = some (.slice A0_2 l0_2.length c0_2) := (blk_cell BK112.out 2).trans rfl; have hcz14_3 : w13.cell? ⟨gb112, 3, none⟩ = some (.slice A0_3 l0_3.length c0_3) := (blk_cell BK112.out 3).trans rfl; have hfz14_0 := blk_frozen BK112.out 0; have hfz14_1 := blk_frozen BK112.out 1; have hfz14_2 := blk_frozen BK112.out 2; have hfz14_3 := blk_frozen BK112.out 3) | (go_at_call 30; (with_reducible refine (mapmakerref38_Check.calls k a0_0 _ _ l0_1 _ _ l0_3 t113 _ ?side1 ?side2 ?side3 ?side4 A6.out).mono ?_); (case side1 => exact byC (Kd.C_below HR0_1.out HB.out)); (case side2 => exact HC0_1.out); (case side3 => exact byC (Kd.C_below HR0_3.out HB.out)); (case side4 => exact HC0_3.out); rintro e w15 ⟨rfl, hb⟩; have n0_ := Aside0.mk (blk_below (g := gb112) (o := .cells #[.int .i64 a0_0, .slice A0_1 l0_1.length c0_1, .slice A0_2 l0_2.length c0_2, .slice A0_3 l0_3.length c0_3] 27 (0, 0)) (byK BK112.out) hb); have n1_ := Aside0.mk (below_step (byB1 HB.out GE112.out) hb); clear BK112 HB; have BK112 := n0_; have HB := n1_; clear n0_ n1_; (try clear hb); (try clear hb2); (try clear hk); (try clear hi)))
      go_ret
      exact ⟨byE, byB1 HB.out GE112.out⟩
    ·rw [if_neg c5] at H
     have c5b0 : decide ((l0_3.length : Int) ≤ 40) = false := decide_eq_false c5
     have c5b1 : decide (l0_3.length ≤ 40) = false := decide_eq_false (by omega)
     clear c5
     obtain rfl := Option.some.inj H
     go_enter Try.func14, Try.ntmps14
     go_wp2_with (first | ((with_reducible refine gate_dst (N := 1) rfl ?_); (try (refine gate_guard (by rfl) ?_; dsimp only)); refine box_event ?hg (N := 1) ?hd (cs := #[.int .i64 a0_0, .slice A0_1 l0_1.length c0_1, .slice A0_2 l0_2.length c0_2, .slice A0_3 l0_3.length c0_3]) (t := 27) ?hr ?_; (case hd => rfl); (case hg => rfl); (case hr => first | (go_simp; done) | (go_simp; rfl)); intro gb112 hg w16 hbox hb; have n0_ := Aside0.mk (below_step (byB HB.out) hb); have n1_ := Aside0.mk (hbox); have n2_ := Aside0.mk ((by rw [hg]; exact (below_size (byB HB.out)) : w.heap.size ≤ gb112)); have n3_ := Aside0.mk ((by rw [hg]; exact (below_size (byB HB.out)) : w.heap.size ≤ gb112)); clear HB; have HB := n0_; have BK112 := n1_; have GW112 := n2_; have GE112 := n3_; clear n0_ n1_ n2_ n3_ hb hbox hg; have hcz17_0 : w16.cell? ⟨gb112, 0, none⟩ = some (.int .i64 a0_0) := (blk_cell BK112.out 0).trans rfl; have hcz17_1 : w16.cell? ⟨gb112, 1, none⟩ = some (.slice A0_1 l0_1.length c0_1) := (blk_cell BK112.out 1).trans rfl; have hcz17_2 : w16.cell? ⟨gb112, 2, none⟩ = some (.slice A0_2 l0_2.length c0_2) := (blk_cell BK112.out 2).trans rfl; have hcz17_3 : w16.cell? ⟨gb112, 3, none⟩ = some (.slice A0_3 l0_3.length c0_3) := (blk_cell BK112.out 3).trans rfl; have hfz17_0 := blk_frozen BK112.out 0; have hfz17_1 := blk_frozen BK112.out 1; have hfz17_2 := blk_frozen BK112.out 2; have hfz17_3 := blk_frozen BK112.out 3))
     go_ret
     exact ⟨byE, byB1 HB.out GE112.out⟩
   ·rw [if_neg c4] at H
    have c4b0 : decide ((l0_2.length : Int) ≤ 12) = false := decide_eq_false c4
    have c4b1 : decide (l0_2.length ≤ 12) = false := decide_eq_false (by omega)
    clear c4
    obtain rfl := Option.some.inj H
    go_enter Try.func14, Try.ntmps14
    go_wp2_with (first | ((with_reducible refine gate_dst (N := 1) rfl ?_); (try (refine gate_guard (by rfl) ?_; dsimp only)); refine box_event ?hg (N := 1) ?hd (cs := #[.int .i64 a0_0, .slice A0_1 l0_1.length c0_1, .slice A0_2 l0_2.length c0_2, .slice A0_3 l0_3.length c0_3]) (t := 27) ?hr ?_; (case hd => rfl); (case hg => rfl); (case hr => first | (go_simp; done) | (go_simp; rfl)); intro gb112 hg w18 hbox hb; have n0_ := Aside0.mk (below_step (byB HB.out) hb); have n1_ := Aside0.mk (hbox); have n2_ := Aside0.mk ((by rw [hg]; exact (below_size (byB HB.out)) : w.heap.size ≤ gb112)); have n3_ := Aside0.mk ((by rw [hg]; exact (below_size (byB HB.out)) : w.heap.size ≤ gb112)); clear HB; have HB := n0_; have BK112 := n1_; have GW112 := n2_; have GE112 := n3_; clear n0_ n1_ n2_ n3_ hb hbox hg; have hcz19_0 : w18.cell? ⟨gb112, 0, none⟩ = some (.int .i64 a0_0) := (blk_cell BK112.out 0).trans rfl; have hcz19_1 : w18.cell? ⟨gb112, 1, none⟩ = some (.slice A0_1 l0_1.length c0_1) := (blk_cell BK112.out 1).trans rfl; have hcz19_2 : w18.cell? ⟨gb112, 2, none⟩ = some (.slice A0_2 l0_2.length c0_2) := (blk_cell BK112.out 2).trans rfl; have hcz19_3 : w18.cell? ⟨gb112, 3, none⟩ = some (.slice A0_3 l0_3.length c0_3) := (blk_cell BK112.out 3).trans rfl; have hfz19_0 := blk_frozen BK112.out 0; have hfz19_1 := blk_frozen BK112.out 1; have hfz19_2 := blk_frozen BK112.out 2; have hfz19_3 := blk_frozen BK112.out 3))
    go_ret
    exact ⟨byE, byB1 HB.out GE112.out⟩
  ·rw [if_neg c3] at H
   have c3b0 : decide ((l0_1.length : Int) ≤ 40) = false := decide_eq_false c3
   have c3b1 : decide (l0_1.length ≤ 40) = false := decide_eq_false (by omega)
   clear c3
   obtain rfl := Option.some.inj H
   go_enter Try.func14, Try.ntmps14
   go_wp2_with (first | ((with_reducible refine gate_dst (N := 1) rfl ?_); (try (refine gate_guard (by rfl) ?_; dsimp only)); refine box_event ?hg (N := 1) ?hd (cs := #[.int .i64 a0_0, .slice A0_1 l0_1.length c0_1, .slice A0_2 l0_2.length c0_2, .slice A0_3 l0_3.length c0_3]) (t := 27) ?hr ?_; (case hd => rfl); (case hg => rfl); (case hr => first | (go_simp; done) | (go_simp; rfl)); intro gb112 hg w20 hbox hb; have n0_ := Aside0.mk (below_step (byB HB.out) hb); have n1_ := Aside0.mk (hbox); have n2_ := Aside0.mk ((by rw [hg]; exact (below_size (byB HB.out)) : w.heap.size ≤ gb112)); have n3_ := Aside0.mk ((by rw [hg]; exact (below_size (byB HB.out)) : w.heap.size ≤ gb112)); clear HB; have HB := n0_; have BK112 := n1_; have GW112 := n2_; have GE112 := n3_; clear n0_ n1_ n2_ n3_ hb hbox hg; have hcz21_0 : w20.cell? ⟨gb112, 0, none⟩ = some (.int .i64 a0_0) := (blk_cell BK112.out 0).trans rfl; have hcz21_1 : w20.cell? ⟨gb112, 1, none⟩ = some (.slice A0_1 l0_1.length c0_1) := (blk_cell BK112.out 1).trans rfl; have hcz21_2 : w20.cell? ⟨gb112, 2, none⟩ = some (.slice A0_2 l0_2.length c0_2) := (blk_cell BK112.out 2).trans rfl; have hcz21_3 : w20.cell? ⟨gb112, 3, none⟩ = some (.slice A0_3 l0_3.length c0_3) := (blk_cell BK112.out 3).trans rfl; have hfz21_0 := blk_frozen BK112.out 0; have hfz21_1 := blk_frozen BK112.out 1; have hfz21_2 := blk_frozen BK112.out 2; have hfz21_3 := blk_frozen BK112.out 3))
   go_ret
   exact ⟨byE, byB1 HB.out GE112.out⟩
 ·rw [if_neg c2] at H
  have c2b0 : decide (a0_0 ≤ 12) = false := decide_eq_false c2
  clear c2
  obtain rfl := Option.some.inj H
  go_enter Try.func14, Try.ntmps14
  go_wp2_with (first | ((with_reducible refine gate_dst (N := 1) rfl ?_); (try (refine gate_guard (by rfl) ?_; dsimp only)); refine box_event ?hg (N := 1) ?hd (cs := #[.int .i64 a0_0, .slice A0_1 l0_1.length c0_1, .slice A0_2 l0_2.length c0_2, .slice A0_3 l0_3.length c0_3]) (t := 27) ?hr ?_; (case hd => rfl); (case hg => rfl); (case hr => first | (go_simp; done) | (go_simp; rfl)); intro gb112 hg w22 hbox hb; have n0_ := Aside0.mk (below_step (byB HB.out) hb); have n1_ := Aside0.mk (hbox); have n2_ := Aside0.mk ((by rw [hg]; exact (below_size (byB HB.out)) : w.heap.size ≤ gb112)); have n3_ := Aside0.mk ((by rw [hg]; exact (below_size (byB HB.out)) : w.heap.size ≤ gb112)); clear HB; have HB := n0_; have BK112 := n1_; have GW112 := n2_; have GE112 := n3_; clear n0_ n1_ n2_ n3_ hb hbox hg; have hcz23_0 : w22.cell? ⟨gb112, 0, none⟩ = some (.int .i64 a0_0) := (blk_cell BK112.out 0).trans rfl; have hcz23_1 : w22.cell? ⟨gb112, 1, none⟩ = some (.slice A0_1 l0_1.length c0_1) := (blk_cell BK112.out 1).trans rfl; have hcz23_2 : w22.cell? ⟨gb112, 2, none⟩ = some (.slice A0_2 l0_2.length c0_2) := (blk_cell BK112.out 2).trans rfl; have hcz23_3 : w22.cell? ⟨gb112, 3, none⟩ = some (.slice A0_3 l0_3.length c0_3) := (blk_cell BK112.out 3).trans rfl; have hfz23_0 := blk_frozen BK112.out 0; have hfz23_1 := blk_frozen BK112.out 1; have hfz23_2 := blk_frozen BK112.out 2; have hfz23_3 := blk_frozen BK112.out 3))
  go_ret
  exact ⟨byE, byB1 HB.out GE112.out⟩
set_option linter.unusedVariables false
set_option linter.unusedSimpArgs false
/-! ### mapmakerlaw42_cycle: function 45 -/
def mapmakerlaw42_cycle.f  : Option (Int × (List (S58)) × List Int × List Int) := some (4, (([(⟨0, 1⟩ : S58), (⟨1, 2⟩ : S58), (⟨2, 3⟩ : S58), (⟨3, 0⟩ : S58)] : List (S58))), (([0, 1, 2, 3] : List Int)), (([1, 1, 1, 1] : List Int)))
set_option maxHeartbeats 8000000 in
set_option maxRecDepth 100000 in
theorem mapmakerlaw42_cycle.calls  (r1 : Int) (r2 : List (S58)) (r3 : List Int) (r4 : List Int) (w : World) (h : mapmakerlaw42_cycle.f  = some (r1, r2, r3, r4)) :
  Calls Try.prog 45 #[] w fun e w' => ∃ v1_ v2_ v3_ : Value, e = .returned (.agg #[.int .i64 r1, v1_, v2_, v3_]) ∧ Kd.R k58 58 w' w.heap.size (fun _ => True) v1_ r2 ∧ Kd.R (Kd.int .i64) 3 w' w.heap.size (fun k_ => some k_ ≠ (v3_ : Value).ownBlock) v2_ r3 ∧ Kd.R (Kd.int .i64) 3 w' w.heap.size (fun k_ => some k_ ≠ (v2_ : Value).ownBlock) v3_ r4 ∧ Below w.heap.size w w' := by
 have hu27 := Try.underlying27; have hu58 := Try.underlying58; have hu24 := Try.underlying24; have HB := Aside0.mk (Below.refl w.heap.size w)
 have H : (some (4, (([(⟨0, 1⟩ : S58), (⟨1, 2⟩ : S58), (⟨2, 3⟩ : S58), (⟨3, 0⟩ : S58)] : List (S58))), (([0, 1, 2, 3] : List Int)), (([1, 1, 1, 1] : List Int)))) = some (r1, r2, r3, r4) := h
 clear h
 obtain ⟨y226, hy226⟩ : ∃ y_ : List (S58), y_ = (([(⟨0, 1⟩ : S58), (⟨1, 2⟩ : S58), (⟨2, 3⟩ : S58), (⟨3, 0⟩ : S58)] : List (S58))) := ⟨_, rfl⟩
 replace H : (some (4, y226, (([0, 1, 2, 3] : List Int)), (([1, 1, 1, 1] : List Int)))) = some (r1, r2, r3, r4) := by first | (rw [hy226]; with_reducible exact H) | (have H2_ := (Option.bind_some _ _).symm.trans H; rw [hy226]; with_reducible exact H2_) | (have H2_ := (Option.bind_some _ _).symm.trans H; with_reducible exact H2_) | with_reducible exact H | (rw [hy226]; exact H) | exact H
 have Ny226 := Aside0.mk hy226; clear hy226
 obtain ⟨y229, hy229⟩ : ∃ y_ : List Int, y_ = (([0, 1, 2, 3] : List Int)) := ⟨_, rfl⟩
 replace H : (some (4, y226, y229, (([1, 1, 1, 1] : List Int)))) = some (r1, r2, r3, r4) := by first | (rw [hy229]; with_reducible exact H) | (have H2_ := (Option.bind_some _ _).symm.trans H; rw [hy229]; with_reducible exact H2_) | (have H2_ := (Option.bind_some _ _).symm.trans H; with_reducible exact H2_) | with_reducible exact H | (rw [hy229]; exact H) | exact H
 have Ny229 := Aside0.mk hy229; clear hy229
 obtain ⟨y232, hy232⟩ : ∃ y_ : List Int, y_ = (([1, 1, 1, 1] : List Int)) := ⟨_, rfl⟩
 replace H : (some (4, y226, y229, y232)) = some (r1, r2, r3, r4) := by first | (rw [hy232]; with_reducible exact H) | (have H2_ := (Option.bind_some _ _).symm.trans H; rw [hy232]; with_reducible exact H2_) | (have H2_ := (Option.bind_some _ _).symm.trans H; with_reducible exact H2_) | with_reducible exact H | (rw [hy232]; exact H) | exact H
 have Ny232 := Aside0.mk hy232; clear hy232
 simp only [Option.some.injEq, Prod.mk.injEq] at H
 obtain ⟨rfl, rfl, rfl, rfl⟩ := H
 go_enter Try.func45, Try.ntmps45
 go_wp2_with (first | ((with_reducible refine gate_dst (N := 0) rfl ?_); refine box_event ?hg (N := 0) ?hd (cs := #[.int .i64 0, .slice none 0 0, .slice none 0 0, .slice none 0 0]) (t := 27) ?hr ?_; (case hd => rfl); (case hg => rfl); (case hr => first | (go_simp; done) | (go_simp; rfl)); intro gb225 hg w1 hbox hb; have n0_ := Aside0.mk (below_step (byB HB.out) hb); have n1_ := Aside0.mk (hbox); have n2_ := Aside0.mk ((by rw [hg]; exact (below_size (byB HB.out)) : w.heap.size ≤ gb225)); have n3_ := Aside0.mk ((by rw [hg]; exact (below_size (byB HB.out)) : w.heap.size ≤ gb225)); clear HB; have HB := n0_; have BK225 := n1_; have GW225 := n2_; have GE225 := n3_; clear n0_ n1_ n2_ n3_ hb hbox hg) | ((with_reducible refine gate_dst (N := 5) rfl ?_); refine Kd.R_lit k58 _ 58 ?hg (N := 5) ?hd (xs := ([(⟨0, 1⟩ : S58), (⟨1, 2⟩ : S58), (⟨2, 3⟩ : S58), (⟨3, 0⟩ : S58)] : List (S58))) (inner := [.int .i64 0, .int .i64 1, .int .i64 1, .int .i64 2, .int .i64 2, .int .i64 3, .int .i64 3, .int .i64 0]) (ok := fun _ => True) (okp := fun _ => True) ?hr ?hp (fun _ hk => hk) trivial (Below.refl _ _) (Nat.le_refl _) (by simp) ?_; (case hd => rfl); (case hg => rfl); (case hr => first | (go_simp; done) | (go_simp; rfl)); (case hp => exact (Reps.c2 (show Kd.M k58 _ _ _ (⟨0, 1⟩ : S58) [.int .i64 0, .int .i64 1] from (k58_mkM _ _ _ (⟨0, 1⟩ : S58) )) (Reps.c2 (show Kd.M k58 _ _ _ (⟨1, 2⟩ : S58) [.int .i64 1, .int .i64 2] from (k58_mkM _ _ _ (⟨1, 2⟩ : S58) )) (Reps.c2 (show Kd.M k58 _ _ _ (⟨2, 3⟩ : S58) [.int .i64 2, .int .i64 3] from (k58_mkM _ _ _ (⟨2, 3⟩ : S58) )) (Reps.c2 (show Kd.M k58 _ _ _ (⟨3, 0⟩ : S58) [.int .i64 3, .int .i64 0] from (k58_mkM _ _ _ (⟨3, 0⟩ : S58) )) (Reps.none _ _)))))); intro v227 w2 ho3 hb hg_ hnew_; clear hg_ hnew_; (first | rw [← Ny226.out] at ho3 | (simp only [Int.reduceToNat] at ho3; rw [← Ny226.out] at ho3)); have n0_ := Aside0.mk (Kd.R_lower ho3 (below_size (byB1 HB.out GE225.out))); have n1_ := Aside0.mk (blk_below (g := gb225) (o := .cells #[.int .i64 0, .slice none 0 0, .slice none 0 0, .slice none 0 0] 27 (0, 0)) (byK BK225.out) hb); have n2_ := Aside0.mk (below_step (byB1 HB.out GE225.out) hb); clear BK225 HB; have HO228 := n0_; have BK225 := n1_; have HB := n2_; clear n0_ n1_ n2_ hb ho3; obtain ⟨Ao4, co4, eo4⟩ := Kd.R_slice HO228.out; subst eo4) | ((with_reducible refine gate_dst (N := 7) rfl ?_); refine Kd.R_lit (Kd.int .i64) _ 3 ?hg (N := 7) ?hd (xs := ([0, 1, 2, 3] : List Int)) (inner := [.int .i64 0, .int .i64 1, .int .i64 2, .int .i64 3]) (ok := fun _ => True) (okp := fun _ => True) ?hr ?hp (fun _ hk => hk) trivial (Below.refl _ _) (Nat.le_refl _) (by simp) ?_; (case hd => rfl); (case hg => rfl); (case hr => first | (go_simp; done) | (go_simp; rfl)); (case hp => exact (Reps.one (show Kd.M (Kd.int .i64) _ _ _ 0 [.int .i64 0] from rfl) (Reps.one (show Kd.M (Kd.int .i64) _ _ _ 1 [.int .i64 1] from rfl) (Reps.one (show Kd.M (Kd.int .i64) _ _ _ 2 [.int .i64 2] from rfl) (Reps.one (show Kd.M (Kd.int .i64) _ _ _ 3 [.int .i64 3] from rfl) (Reps.none _ _)))))); intro v230 w5 ho6 hb hg_ hnew_; clear hg_ hnew_; (first | rw [← Ny229.out] at ho6 | (simp only [Int.reduceToNat] at ho6; rw [← Ny229.out] at ho6)); have n0_ := Aside0.mk (Kd.R_below (byR HO228.out) hb); have n1_ := Aside0.mk (Kd.R_lower ho6 (below_size (byB1 HB.out GE225.out))); have n2_ := Aside0.mk (blk_below (g := gb225) (o := .cells #[.int .i64 0, .slice none 0 0, .slice none 0 0, .slice none 0 0] 27 (0, 0)) (byK BK225.out) hb); have n3_ := Aside0.mk (below_step (byB1 HB.out GE225.out) hb); clear HO228 BK225 HB; have HO228 := n0_; have HO231 := n1_; have BK225 := n2_; have HB := n3_; clear n0_ n1_ n2_ n3_ hb ho6) | ((with_reducible refine gate_dst (N := 8) rfl ?_); refine Kd.R_lit (Kd.int .i64) _ 3 ?hg (N := 8) ?hd (xs := ([1, 1, 1, 1] : List Int)) (inner := [.int .i64 1, .int .i64 1, .int .i64 1, .int .i64 1]) (ok := fun _ => True) (okp := fun _ => True) ?hr ?hp (fun _ hk => hk) trivial (Below.refl _ _) (Nat.le_refl _) (by simp) ?_; (case hd => rfl); (case hg => rfl); (case hr => first | (go_simp; done) | (go_simp; rfl)); (case hp => exact (Reps.one (show Kd.M (Kd.int .i64) _ _ _ 1 [.int .i64 1] from rfl) (Reps.one (show Kd.M (Kd.int .i64) _ _ _ 1 [.int .i64 1] from rfl) (Reps.one (show Kd.M (Kd.int .i64) _ _ _ 1 [.int .i64 1] from rfl) (Reps.one (show Kd.M (Kd.int .i64) _ _ _ 1 [.int .i64 1] from rfl) (Reps.none _ _)))))); intro v233 w7 ho8 hb hg_ hnew_; clear hg_ hnew_; (first | rw [← Ny232.out] at ho8 | (simp only [Int.reduceToNat] at ho8; rw [← Ny232.out] at ho8)); have n0_ := Aside0.mk (Kd.R_below (byR HO228.out) hb); have n1_ := Aside0.mk (Kd.R_elder' (byR HO231.out) (Kd.R_base ho8) hb); have n2_ := Aside0.mk (Kd.R_lower (Kd.R_new' ho8 (Kd.R_lt (byR HO231.out))) (below_size (byB1 HB.out GE225.out))); have n3_ := Aside0.mk (blk_below (g := gb225) (o := .cells #[.int .i64 0, .slice none 0 0, .slice none 0 0, .slice none 0 0] 27 (0, 0)) (byK BK225.out) hb); have n4_ := Aside0.mk (below_step (byB1 HB.out GE225.out) hb); clear HO228 HO231 BK225 HB; have HO228 := n0_; have HO231 := n1_; have HO234 := n2_; have BK225 := n3_; have HB := n4_; clear n0_ n1_ n2_ n3_ n4_ hb ho8; obtain ⟨Ao9, co9, eo9⟩ := Kd.R_slice HO234.out; subst eo9; obtain ⟨Ao10, co10, eo10⟩ := Kd.R_slice HO231.out; subst eo10; have hcz11_0 : w7.cell? ⟨gb225, 0, none⟩ = some (.int .i64 0) := (blk_cell BK225.out 0).trans rfl; have hcz11_1 : w7.cell? ⟨gb225, 1, none⟩ = some (.slice none 0 0) := (blk_cell BK225.out 1).trans rfl; have hcz11_2 : w7.cell? ⟨gb225, 2, none⟩ = some (.slice none 0 0) := (blk_cell BK225.out 2).trans rfl; have hcz11_3 : w7.cell? ⟨gb225, 3, none⟩ = some (.slice none 0 0) := (blk_cell BK225.out 3).trans rfl; have hfz11_0 := blk_frozen BK225.out 0; have hfz11_1 := blk_frozen BK225.out 1; have hfz11_2 := blk_frozen BK225.out 2; have hfz11_3 := blk_frozen BK225.out 3))
 refine bodyPost_ret (results_cell_row rfl _ _ gb225 27 #[.int .i64 4, .slice Ao4 y226.length co4, .slice Ao10 y229.length co10, .slice Ao9 y232.length co9] (0, 0) _ rfl (by (with_reducible repeat (first | refine blk_drewN ?_ _ | refine blk_drew ?_ | refine blk_alloc ?_ _)); refine blk_put (cs := #[.int .i64 4, .slice Ao4 y226.length co4, .slice Ao10 y229.length co10, .slice none 0 0]) ?_ 3 _ rfl; (with_reducible repeat (first | refine blk_drewN ?_ _ | refine blk_drew ?_ | refine blk_alloc ?_ _)); refine blk_put (cs := #[.int .i64 4, .slice Ao4 y226.length co4, .slice none 0 0, .slice none 0 0]) ?_ 2 _ rfl; (with_reducible repeat (first | refine blk_drewN ?_ _ | refine blk_drew ?_ | refine blk_alloc ?_ _)); refine blk_put (cs := #[.int .i64 4, .slice none 0 0, .slice none 0 0, .slice none 0 0]) ?_ 1 _ rfl; (with_reducible repeat (first | refine blk_drewN ?_ _ | refine blk_drew ?_ | refine blk_alloc ?_ _)); refine blk_put (cs := #[.int .i64 0, .slice none 0 0, .slice none 0 0, .slice none 0 0]) ?_ 0 _ rfl; (with_reducible repeat (first | refine blk_drewN ?_ _ | refine blk_drew ?_ | refine blk_alloc ?_ _)); exact BK225.out) Try.underlying27 rfl (by kernel_rfl)) rfl ?_
 exact ⟨_, _, _, byE, by (with_reducible repeat (first | apply Kd.R_alloc | apply Kd.R_drewN | apply Kd.R_drew)); exact Kd.R_mono (Kd.R_far (p := ⟨gb225, 3, none⟩) (Kd.R_far (p := ⟨gb225, 2, none⟩) (Kd.R_far (p := ⟨gb225, 1, none⟩) (Kd.R_far (p := ⟨gb225, 0, none⟩) (Kd.R_types HO228.out BK225.out (by decide)) (fun _ hk => hk.2) (.int .i64 4)) (fun _ hk => hk.2) (.slice Ao4 y226.length co4)) (fun _ hk => hk.2) (.slice Ao10 y229.length co10)) (fun _ hk => hk.2) (.slice Ao9 y232.length co9)) (fun _ hk => trivial), by (with_reducible repeat (first | apply Kd.R_alloc | apply Kd.R_drewN | apply Kd.R_drew)); exact Kd.R_mono (Kd.R_far (p := ⟨gb225, 3, none⟩) (Kd.R_far (p := ⟨gb225, 2, none⟩) (Kd.R_far (p := ⟨gb225, 1, none⟩) (Kd.R_far (p := ⟨gb225, 0, none⟩) (Kd.R_types HO231.out BK225.out (by decide)) (fun _ hk => hk.2) (.int .i64 4)) (fun _ hk => hk.2) (.slice Ao4 y226.length co4)) (fun _ hk => hk.2) (.slice Ao10 y229.length co10)) (fun _ hk => hk.2) (.slice Ao9 y232.length co9)) (fun _ hk => hk.1.2), by (with_reducible repeat (first | apply Kd.R_alloc | apply Kd.R_drewN | apply Kd.R_drew)); exact Kd.R_mono (Kd.R_far (p := ⟨gb225, 3, none⟩) (Kd.R_far (p := ⟨gb225, 2, none⟩) (Kd.R_far (p := ⟨gb225, 1, none⟩) (Kd.R_far (p := ⟨gb225, 0, none⟩) (Kd.R_types HO234.out BK225.out (by decide)) (fun _ hk => hk.2) (.int .i64 4)) (fun _ hk => hk.2) (.slice Ao4 y226.length co4)) (fun _ hk => hk.2) (.slice Ao10 y229.length co10)) (fun _ hk => hk.2) (.slice Ao9 y232.length co9)) (fun _ hk => hk.1.2), byB1 HB.out GE225.out⟩
structure NetOk (n : Nat) (arcs : List S58) (L ws : List Int) : Prop where
 hk : Hk n arcs L
 hd : dchk (n : Int) arcs ws = 0
 hn : n ≤ 12
 al : arcs.length ≤ 40
theorem NetOk.pc {n : Nat} {arcs : List S58} {L ws : List Int} (h : NetOk n arcs L ws) (q p : Nat) : PathC n arcs L ws q p := by
 obtain ⟨h1, h2, h3⟩ := dchk_ok h.hd
 have hn := h.hn
 have hal := h.al
 refine ⟨h.hk, by omega, h2, fun i hi => ?_, by omega⟩
 rw [List.getD_eq_getElem?_getD, List.getElem?_eq_getElem hi]
 exact (h3 _ (List.getElem_mem hi)).2
theorem NetOk.len {n : Nat} {arcs : List S58} {L ws : List Int} (h : NetOk n arcs L ws) : L.length = n ∧ ws.length = arcs.length := ⟨h.hk.ord.len, (dchk_ok h.hd).2.1⟩
theorem valid42 (N : Int) (arcs : List S58) (L ws : List Int) : ∃ k fb, mapmakerlaw42_valid.f k N arcs L ws = some fb ∧ (fb = true → ∃ n : Nat, N = (n : Int) ∧ NetOk n arcs L ws) := by
 unfold mapmakerlaw42_valid.f
 by_cases h1 : N ≤ 12
 rotate_left
 ·exact ⟨0, _, by rw [if_neg h1], fun h => by cases h⟩
 by_cases h2 : (arcs.length : Int) ≤ 40
 rotate_left
 ·exact ⟨0, _, by rw [if_pos h1, if_neg h2], fun h => by cases h⟩
 by_cases h3 : (L.length : Int) ≤ 12
 rotate_left
 ·exact ⟨0, _, by rw [if_pos h1, if_pos h2, if_neg h3], fun h => by cases h⟩
 by_cases h4 : (ws.length : Int) ≤ 40
 rotate_left
 ·exact ⟨0, _, by rw [if_pos h1, if_pos h2, if_pos h3, if_neg h4], fun h => by cases h⟩
 obtain ⟨k1, e1⟩ := refchk_ev N arcs ws (by omega) (by omega)
 obtain ⟨k2, e2⟩ := mapmakerref39_Check.ev N L (by omega)
 have q1 := e1 (max k1 k2) (Nat.le_max_left _ _)
 have q2 := e2 (max k1 k2) (Nat.le_max_right _ _)
 dsimp only at q1 q2
 refine ⟨max k1 k2, ?_⟩
 rw [if_pos h1, if_pos h2, if_pos h3, if_pos h4, q1, Option.bind_some]
 by_cases h5 : dchk N arcs ws = 0
 rotate_left
 ·exact ⟨_, by rw [if_neg h5], fun h => by cases h⟩
 rw [if_pos h5, q2, Option.bind_some]
 refine ⟨_, rfl, fun h6 => ?_⟩
 have h6' : ordGo N L.length [] L = 0 := by simpa using h6
 have h7 : newErr N arcs L = 0 := by
  unfold newErr
  rw [if_neg (fun x => x (dchk_ok h5).1)]
  exact h6'
 obtain ⟨n, rfl, hn, hk⟩ := hk_of (by omega) h7
 exact ⟨n, rfl, hk, h5, by omega, by omega⟩
set_option maxHeartbeats 6400000 in
set_option maxRecDepth 100000 in
theorem law42_metric.calls {w : World} {n : Nat} {gA : Option Addr} {gc : Nat} {arcs : List S58} {lA : Option Addr} {lc : Nat} {L : List Int} {wA : Option Addr} {wc : Nat} {ws : List Int} (hg : Kd.C k58 w gA arcs.length arcs) (hgc : arcs.length ≤ gc) (hl : Kd.C (Kd.int .i64) w lA L.length L) (hlc : L.length ≤ lc) (hw : Kd.C (Kd.int .i64) w wA ws.length ws) (hwc : ws.length ≤ wc)
  (ho : NetOk n arcs L ws) :
  Calls Try.prog 16 #[.agg #[.int .i64 (n : Int), .slice gA arcs.length gc, .slice lA L.length lc, .slice wA ws.length wc]] w fun e w' => Below w.heap.size w w' ∧ ∃ q p, e = .returned (.pointer (some ⟨q, 0, none⟩)) ∧ MetH w' q p n arcs L ws := by
 have HG := Aside0.mk hg
 have HGC := Aside0.mk hgc
 have HL := Aside0.mk hl
 have HLC := Aside0.mk hlc
 have HW := Aside0.mk hw
 have HWC := Aside0.mk hwc
 have HO := Aside0.mk ho
 clear hg hgc hl hlc hw hwc ho
 go_enter Try.func16, Try.ntmps16
 go_wp2_with (fail)
 have hba : Below w.heap.size w (w.alloc (Obj.cells #[.int .i64 (n : Int), .slice gA arcs.length gc, .slice lA L.length lc, .slice wA ws.length wc] 27)) := (Below.refl _ _).alloc (Nat.le_refl _) _
 have HBK := Aside0.mk (heap_alloc_new w (Obj.cells #[.int .i64 (n : Int), .slice gA arcs.length gc, .slice lA L.length lc, .slice wA ws.length wc] 27))
 have HB := Aside0.mk hba
 replace HG := Aside0.mk (Kd.C_below HG.out hba)
 replace HL := Aside0.mk (Kd.C_below HL.out hba)
 replace HW := Aside0.mk (Kd.C_below HW.out hba)
 clear hba
 generalize w.alloc (Obj.cells #[.int .i64 (n : Int), .slice gA arcs.length gc, .slice lA L.length lc, .slice wA ws.length wc] 27) = w1 at HB HBK HG HL HW ⊢
 have hns := HO.out.hn
 have hal := HO.out.al
 obtain ⟨hll, hwl⟩ := HO.out.len
 have HLL := Aside0.mk hll
 have HWL := Aside0.mk hwl
 clear hll hwl
 refine (contract_New.calls HG.out HGC.out HL.out HLC.out (.inl (by omega)) (by omega) (by have := HLL.out; omega)).mono ?_
 rintro e w2 ⟨hb2, (⟨hne, _⟩ | ⟨h0, p, rfl, hH⟩)⟩
 ·exact absurd (by
   unfold newErr
   rw [if_neg (fun x => x (dchk_ok HO.out.hd).1)]
   exact ord_of_isOrd HO.out.hk.ord) hne
 replace HBK := Aside0.mk (blk_below HBK.out hb2)
 replace HB := Aside0.mk (below_then HB.out HB.out.size hb2)
 replace HW := Aside0.mk (Kd.C_below HW.out hb2)
 rw [Int.toNat_natCast] at hH
 have HH := Aside0.mk (show HierOf w2 p n arcs L from hH)
 clear hb2 hH h0
 have c3 := (blk_cell HBK.out 3).trans rfl
 go_wp2_with (fail)
 refine (custom_New.of HO.out.hk (by omega) HH.out (by omega) HW.out HWC.out (by have := HWL.out; omega)).mono ?_
 rintro e w3 ⟨hb3, (⟨hne, _⟩ | ⟨h0, q, o, wv, uv, dv, Ba, va, rfl, hM⟩)⟩
 ·exact absurd HO.out.hd hne
 have HM := Aside0.mk (show MetH w3 q p n arcs L ws from ⟨w2, o, wv, uv, dv, Ba, va, HH.out, hb3, hM⟩)
 replace HB := Aside0.mk (below_then HB.out HB.out.size hb3)
 clear hb3 hM h0 c3
 go_wp2_with (fail)
 go_ret
 exact ⟨HB.out, q, p, rfl, HM.out⟩
theorem WalkL.nonneg {arcs : List S58} {ws : List Int} {u v c : Int} {l : List Int} (h : WalkL arcs ws u v l c) : 0 ≤ c := by
 induction h with
 | nil => omega
 | cons k hk h0 hw _ ih => omega
theorem WalkL.wk {arcs : List S58} {ws : List Int} {u v c : Int} {l : List Int} (h : WalkL arcs ws u v l c) : Wk arcs ws u v c := by
 induction h with
 | nil u => exact Wk.nil u
 | cons k hk h0 hw _ ih =>
  subst h0
  exact (Wk.one k hk hw).trans ih
/-! The example. -/
theorem exOk : NetOk 4 exA [0, 1, 2, 3] [1, 1, 1, 1] := ⟨exHk, exD_eq, by decide, by decide⟩
theorem exM_eq : meetF 4 exA [0, 1, 2, 3] [1, 1, 1, 1] 3 1 = (3, 2, true) := by kernel_rfl
theorem exU_eq : (climbF 4 exA [0, 1, 2, 3] [1, 1, 1, 1] false 1).l = [(1, 0), (2, 1), (3, 2)] := by kernel_rfl
theorem exAt {i : Nat} {v : Int} (hi : i < 4) (h : ([0, 1, 2, 3] : List Int).getD i 0 = v) : (i : Int) = v := by
 match i, hi with
 | 0, _ => exact h
 | 1, _ => exact h
 | 2, _ => exact h
 | 3, _ => exact h
theorem exStep {u v c : Int} {l : List Int} (h : WalkL exA [1, 1, 1, 1] u v l c) : (l = [] ∧ u = v ∧ c = 0) ∨ ∃ (k : Nat) (l' : List Int), k < 4 ∧ l = (k : Int) :: l' ∧ (k : Int) = u ∧ WalkL exA [1, 1, 1, 1] (if k = 3 then 0 else (k : Int) + 1) v l' (c - 1) := by
 cases h with
 | nil => exact .inl ⟨rfl, rfl, rfl⟩
 | cons k hk h0 hw h1 =>
  rename_i c' l'
  refine .inr ⟨k, l', hk, rfl, ?_, ?_⟩
  ·match k, hk with
   | 0, _ => exact h0
   | 1, _ => exact h0
   | 2, _ => exact h0
   | 3, _ => exact h0
  ·have hw1 : ([1, 1, 1, 1] : List Int).getD k 0 = 1 := by
    match k, hk with
    | 0, _ => rfl
    | 1, _ => rfl
    | 2, _ => rfl
    | 3, _ => rfl
   rw [hw1, show 1 + c' - 1 = c' by omega]
   match k, hk with
   | 0, _ => exact h1
   | 1, _ => exact h1
   | 2, _ => exact h1
   | 3, _ => exact h1
theorem exWalk {l : List Int} (h : WalkL exA [1, 1, 1, 1] 3 1 l 2) : l = [3, 0] := by
 rcases exStep h with ⟨_, h2, _⟩ | ⟨k, l', hk, rfl, hku, h⟩
 ·omega
 obtain rfl : k = 3 := by omega
 rw [if_pos rfl] at h
 rcases exStep h with ⟨_, h2, _⟩ | ⟨k, l', hk, rfl, hku, h⟩
 ·omega
 obtain rfl : k = 0 := by omega
 rw [if_neg (by decide)] at h
 rcases exStep h with ⟨rfl, _, _⟩ | ⟨k, l', hk, rfl, hku, h⟩
 ·rfl
 ·have := h.nonneg
  omega
theorem reached2 {w : World} {base : Nat} {ok : Nat → Prop} {v : Value} {a b : S50} {l : List S50} (h : Kd.R k50 50 w base ok v (a :: b :: l)) : ∃ (ab ao c : Nat), v = .slice (some ⟨ab, ao, none⟩) (l.length + 2) c ∧ w.cell? ⟨ab, ao, none⟩ = some (.int .i64 a.f0) ∧ w.cell? ⟨ab, ao + 1, none⟩ = some (.int .i64 a.f1) ∧ w.cell? ⟨ab, ao + 2, none⟩ = some (.int .i64 b.f0) ∧ w.cell? ⟨ab, ao + 3, none⟩ = some (.int .i64 b.f1) := by
 obtain ⟨A, c, rfl, _, hC⟩ := Kd.R_reads h
 obtain ⟨ae, hA2, hx0, hx1⟩ := at_T50 hC (1 : Int) (by omega) (by simp only [List.length_cons]; omega)
 obtain ⟨ae2, hA3, hz0, hz1⟩ := at_T50 hC 0 (by omega) (by simp only [List.length_cons]; omega)
 obtain rfl : ae2 = ae := Option.some.inj (hA3.symm.trans hA2)
 have hsp := spot_of_cell (ad := ae2) (by exact hz0)
 obtain ⟨ab, ao, asb⟩ := ae2
 injection hsp with _ _ hes
 subst hes
 subst hA2
 exact ⟨ab, ao, c, rfl, hz0, hz1, hx0, hx1⟩
set_option maxHeartbeats 6400000 in
set_option maxRecDepth 100000 in
theorem mapmakerlaw42_lives.calls (w : World) : Calls Try.prog 15 #[] w fun e w' => e = .returned (.bool true) ∧ Below w.heap.size w w' := by
 go_enter Try.func15, Try.ntmps15
 go_wp2_with (fail)
 refine (mapmakerlaw42_cycle.calls _ _ _ _ w rfl).mono ?_
 rintro e w1 ⟨v1, v2, v3, rfl, r1, r2, r3, hb1⟩
 obtain ⟨A1, c1, rfl, hc1, q1⟩ := Kd.R_reads r1
 obtain ⟨A2, c2, rfl, hc2, q2⟩ := Kd.R_reads r2
 obtain ⟨A3, c3, rfl, hc3, q3⟩ := Kd.R_reads r3
 have HB := Aside0.mk hb1
 have HMC := Aside0.mk (law42_metric.calls q1 hc1 q2 hc2 q3 hc3 exOk)
 clear r1 r2 r3 hb1 hc1 q1 hc2 q2 hc3 q3
 go_wp2_with (fail)
 refine HMC.out.mono ?_
 rintro e w2 ⟨hb2, q, p, rfl, hM⟩
 have HM := Aside0.mk hM
 replace HB := Aside0.mk (below_then HB.out HB.out.size hb2)
 clear hb2 hM HMC
 go_wp2_with (fail)
 refine (query_Dist.calls exHk (by decide) HM.out rfl (exOk.pc q p).wr 3 1).mono ?_
 rintro e w3 ⟨hb3, (⟨hv, _⟩ | ⟨x, y, hx, hy, hxs, hyt, hcs⟩)⟩
 ·exact absurd hv (by decide)
 have h1 := exAt hx hxs
 have h2 := exAt hy hyt
 obtain rfl : x = 3 := by omega
 obtain rfl : y = 1 := by omega
 rw [exM_eq] at hcs
 rcases hcs with ⟨_, rfl⟩ | ⟨hf, _⟩
 rotate_left
 ·cases hf
 replace HM := Aside0.mk (HM.out.below hb3)
 replace HB := Aside0.mk (below_then HB.out HB.out.size hb3)
 clear hb3 h1 h2 hx hy hxs hyt
 go_wp2_with (fail)
 refine (query_Path.calls (exOk.pc q p) HM.out 3 1).mono ?_
 rintro e w4 ⟨hb4, (⟨hv, _⟩ | ⟨x, y, hx, hy, hxs, hyt, hcs⟩)⟩
 ·exact absurd hv (by decide)
 have h1 := exAt hx hxs
 have h2 := exAt hy hyt
 obtain rfl : x = 3 := by omega
 obtain rfl : y = 1 := by omega
 rw [exM_eq] at hcs
 rcases hcs with ⟨hf, _⟩ | ⟨_, v, l, rfl, hr, hw⟩
 ·cases hf
 obtain rfl := exWalk hw
 obtain ⟨A, c, rfl, _, hC⟩ := Kd.R_reads hr
 replace HM := Aside0.mk (HM.out.below hb4)
 replace HB := Aside0.mk (below_then HB.out HB.out.size hb4)
 have HC := Aside0.mk hC
 clear hb4 h1 h2 hx hy hxs hyt hr hC hw
 go_wp2_with (fail)
 refine (query_Upward.calls exHk (by decide) HM.out rfl (exOk.pc q p).wr 1 false).mono ?_
 rintro e w5 ⟨hb5, (⟨hv, _⟩ | ⟨x, v, hx, hxs, rfl, hr⟩)⟩
 ·exact absurd hv (by decide)
 have h1 := exAt hx hxs
 obtain rfl : x = 1 := by omega
 rw [exU_eq] at hr
 obtain ⟨ab, ao, uc, rfl, x0, x1, x2, x3⟩ := reached2 hr
 replace HB := Aside0.mk (below_then HB.out HB.out.size hb5)
 rcases cells_of_C (Kd.C_below HC.out hb5) with ⟨hz, _⟩ | ⟨_, b, off, rfl, hce⟩
 ·cases hz
 have y0 : w5.cell? ⟨b, off, none⟩ = some (.int .i64 3) := hce 0 (by decide)
 have y1 : w5.cell? ⟨b, off + 1, none⟩ = some (.int .i64 0) := hce 1 (by decide)
 clear hb5 h1 hx hxs hr HC hce HM
 go_wp2
 go_ret
 exact ⟨rfl, HB.out⟩
end Go.Proofs.Ytfnophaiamkmpaa.Print
