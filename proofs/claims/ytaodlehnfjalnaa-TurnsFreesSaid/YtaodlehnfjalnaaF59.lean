/- Written by a program of this claim's author (xprint.py, over the kit's print.py): the call of mapmaker/schedule.Check comes to what the Lean function of its name says. -/
import Derived.Test.YtaodlehnfjalnaaPrint0
import Derived.Test.YtaodlehnfjalnaaM0
namespace Go.Proofs.Ytaodlehnfjalnaa.Print
open Go.RowKit Go.Proofs.YtaodlehnfjalnaaW.PrintWords Go.Proofs.YtaodlehnfjalnaaW.PrintLast Go.Proofs.YtaodlehnfjalnaaW.PrintMore
attribute [local go_sem] max2_int min2_int max_two min_two max_three min_three max_four min_four   -- for this text's walks alone
set_option linter.unusedVariables false
set_option linter.unusedSimpArgs false
/-! ### schedule_Check: function 59 -/
mutual
def schedule_Check.l0 : Nat → Int → List (S120) → Int → Int → List (S120) → Int → Int → Option (Int)
 | 0, _, _, _, _, _, _, _ => none
 | k + 1, x3, x11, x12, x13, x223000, x223001, x223002 => if x13 < x12 then (if 0 ≤ x13 then (if x13 < (x11.length : Int) then (if ((rd_T120 x11 x13).f0) < 0 then (schedule_Check.j1 k x3 x11 x12 x13 true x223000 x223001 x223002 ((rd_T120 x11 x13).f0) ((rd_T120 x11 x13).f1)) else (if ((rd_T120 x11 x13).f1) ≤ ((rd_T120 x11 x13).f0) then (schedule_Check.j1 k x3 x11 x12 x13 true x223000 x223001 x223002 ((rd_T120 x11 x13).f0) ((rd_T120 x11 x13).f1)) else (schedule_Check.j1 k x3 x11 x12 x13 (decide (((rd_T120 x11 x13).f1) > 1440)) x223000 x223001 x223002 ((rd_T120 x11 x13).f0) ((rd_T120 x11 x13).f1)))) else (none)) else (none)) else (if x223002 < 0 then (some 19) else (if x223002 = 0 then (if x223001 = 0 then (if x223002 > 0 then (if x223001 < 0 then (some 19) else (if x223001 ≥ 1440 then (some 19) else (some 0))) else (some 0)) else (some 19)) else (if x223002 > 0 then (if x223001 < 0 then (some 19) else (if x223001 ≥ 1440 then (some 19) else (some 0))) else (some 0))))
def schedule_Check.j1 : Nat → Int → List (S120) → Int → Int → Bool → List (S120) → Int → Int → Int → Int → Option (Int)
 | 0, _, _, _, _, _, _, _, _, _, _ => none
 | k + 1, x3, x11, x12, x13, x31, x223000, x223001, x223002, x225000, x225001 => if x31 = true then (some 2) else (if x225000 < x3 then (some 6) else (schedule_Check.l0 k x225001 x11 x12 (wrap64 (x13 + 1)) x223000 x223001 x223002))
end
def schedule_Check.f (k : Nat) (l0_0 : List (S120)) (a0_1 : Int) (a0_2 : Int) : Option (Int) := if (l0_0.length : Int) > 8 then (some 5) else (schedule_Check.l0 k 0 l0_0 (l0_0.length : Int) 0 l0_0 a0_1 a0_2)
set_option maxHeartbeats 8000000 in
set_option maxRecDepth 100000 in
theorem schedule_Check.calls (k : Nat) (A0_0 : Option Addr) (c0_0 : Nat) (l0_0 : List (S120)) (a0_1 : Int) (a0_2 : Int) (r : Int) (w : World) (hr0_0 : Kd.C k120 w A0_0 l0_0.length l0_0) (hc0_0 : l0_0.length ≤ c0_0) (h : schedule_Check.f k l0_0 a0_1 a0_2 = some r) :
  Calls Try.prog 59 #[.agg #[.slice A0_0 l0_0.length c0_0, .int .i64 a0_1, .int .i64 a0_2]] w fun e w' => e = .returned (.int .i64 r) ∧ Below w.heap.size w w' := by
 have hu56 := Try.underlying56; have hu120 := Try.underlying120; have HR0_0 := Aside0.mk hr0_0; have HC0_0 := Aside0.mk hc0_0; clear hr0_0 hc0_0; have HB := Aside0.mk (Below.refl w.heap.size w)
 have H : (if (l0_0.length : Int) > 8 then (some 5) else (schedule_Check.l0 k 0 l0_0 (l0_0.length : Int) 0 l0_0 a0_1 a0_2)) = some r := h
 clear h
 by_cases c2 : (l0_0.length : Int) > 8
 ·rw [if_pos c2] at H
  have c2b0 : decide (8 < (l0_0.length : Int)) = true := decide_eq_true c2
  have c2b1 : decide (8 < l0_0.length) = true := decide_eq_true (by omega)
  clear c2
  obtain rfl := Option.some.inj H
  go_enter Try.func59, Try.ntmps59
  go_wp2_with (first | ((with_reducible refine gate_dst (N := 1) rfl ?_); refine box_event ?hg (N := 1) ?hd (cs := #[.slice A0_0 l0_0.length c0_0, .int .i64 a0_1, .int .i64 a0_2]) (t := 56) ?hr ?_; (case hd => rfl); (case hg => rfl); (case hr => first | (go_simp; done) | (go_simp; rfl)); intro gb222 hg w3 hbox hb; have n0_ := Aside0.mk (below_step (byB HB.out) hb); have n1_ := Aside0.mk (hbox); have n2_ := Aside0.mk ((by rw [hg]; exact (below_size (byB HB.out)) : w.heap.size ≤ gb222)); have n3_ := Aside0.mk ((by rw [hg]; exact (below_size (byB HB.out)) : w.heap.size ≤ gb222)); clear HB; have HB := n0_; have BK222 := n1_; have GW222 := n2_; have GE222 := n3_; clear n0_ n1_ n2_ n3_ hb hbox hg; have hcz4_0 : w3.cell? ⟨gb222, 0, none⟩ = some (.slice A0_0 l0_0.length c0_0) := (blk_cell BK222.out 0).trans rfl; have hcz4_1 : w3.cell? ⟨gb222, 1, none⟩ = some (.int .i64 a0_1) := (blk_cell BK222.out 1).trans rfl; have hcz4_2 : w3.cell? ⟨gb222, 2, none⟩ = some (.int .i64 a0_2) := (blk_cell BK222.out 2).trans rfl; have hfz4_0 := blk_frozen BK222.out 0; have hfz4_1 := blk_frozen BK222.out 1; have hfz4_2 := blk_frozen BK222.out 2))
  go_ret
  exact ⟨byE, byB1 HB.out GE222.out⟩
 ·rw [if_neg c2] at H
  have c2b0 : decide (8 < (l0_0.length : Int)) = false := decide_eq_false c2
  have c2b1 : decide (8 < l0_0.length) = false := decide_eq_false (by omega)
  clear c2
  have H' := Aside0.mk H
  clear H
  go_enter Try.func59, Try.ntmps59
  go_wp2_with (first | ((with_reducible refine gate_dst (N := 1) rfl ?_); refine box_event ?hg (N := 1) ?hd (cs := #[.slice A0_0 l0_0.length c0_0, .int .i64 a0_1, .int .i64 a0_2]) (t := 56) ?hr ?_; (case hd => rfl); (case hg => rfl); (case hr => first | (go_simp; done) | (go_simp; rfl)); intro gb222 hg w5 hbox hb; have n0_ := Aside0.mk (below_step (byB HB.out) hb); have n1_ := Aside0.mk (hbox); have n2_ := Aside0.mk ((by rw [hg]; exact (below_size (byB HB.out)) : w.heap.size ≤ gb222)); have n3_ := Aside0.mk ((by rw [hg]; exact (below_size (byB HB.out)) : w.heap.size ≤ gb222)); clear HB; have HB := n0_; have BK222 := n1_; have GW222 := n2_; have GE222 := n3_; clear n0_ n1_ n2_ n3_ hb hbox hg; have hcz6_0 : w5.cell? ⟨gb222, 0, none⟩ = some (.slice A0_0 l0_0.length c0_0) := (blk_cell BK222.out 0).trans rfl; have hcz6_1 : w5.cell? ⟨gb222, 1, none⟩ = some (.int .i64 a0_1) := (blk_cell BK222.out 1).trans rfl; have hcz6_2 : w5.cell? ⟨gb222, 2, none⟩ = some (.int .i64 a0_2) := (blk_cell BK222.out 2).trans rfl; have hfz6_0 := blk_frozen BK222.out 0; have hfz6_1 := blk_frozen BK222.out 1; have hfz6_2 := blk_frozen BK222.out 2))
  go_loopg [3, 13] k (fun kq v3 v13 w' => ∃ (x3_1 : Int) (x13_1 : Int), v3 = .int .i64 x3_1 ∧ v13 = .int .i64 x13_1 ∧ Aside0 (schedule_Check.l0 kq x3_1 l0_0 (l0_0.length : Int) x13_1 l0_0 a0_1 a0_2 = some r) ∧ Aside0 (kq ≤ k) ∧ Aside0 (w'.heap[gb222]? = some (.cells #[(.slice A0_0 l0_0.length c0_0), .int .i64 a0_1, .int .i64 a0_2] 56 (0, 0))) ∧ Aside0 (Below w.heap.size w w'))
  case atStart => exact ⟨(0), (0), byF, byF, H', ⟨Nat.le_refl _⟩, ⟨by (with_reducible repeat (first | refine blk_drewN ?_ _ | refine blk_drew ?_ | refine blk_alloc ?_ _)); exact BK222.out⟩, ⟨byB1 HB.out GE222.out⟩⟩
  case round =>
   clear H'
   try clear c2
   try clear c2b0
   try clear c2b1
   try clear p2
   try clear c5
   try clear hcz4_0
   try clear hcz4_1
   try clear hcz4_2
   try clear hcz6_0
   try clear hcz6_1
   try clear hcz6_2
   try clear hfz4_0
   try clear hfz4_1
   try clear hfz4_2
   try clear hfz6_0
   try clear hfz6_1
   try clear hfz6_2
   obtain ⟨x3_1, x13_1, rfl, rfl, HA, HK1, BK222, HB⟩ := hrel
   cases gk with
   | zero => exact absurd HA.out (by simp [schedule_Check.l0])
   | succ k1 =>
    have H := HA.out; clear HA
    simp only [schedule_Check.l0] at H
    by_cases c7 : x13_1 < (l0_0.length : Int)
    ·rw [if_pos c7] at H
     have c7b0 : decide (x13_1 < (l0_0.length : Int)) = true := decide_eq_true c7
     clear c7
     by_cases c8 : 0 ≤ x13_1
     ·rw [if_pos c8] at H
      have c8b0 : decide (0 ≤ x13_1) = true := decide_eq_true c8
      clear c8
      by_cases c9 : x13_1 < (l0_0.length : Int)
      ·rw [if_pos c9] at H
       have c9b0 : decide (x13_1 < (l0_0.length : Int)) = true := decide_eq_true c9
       clear c9; have HC10 := Aside0.mk H; clear H
       have p223 : 0 ≤ (x13_1 : Int) := odt
       have q223 : x13_1 < (l0_0.length : Int) := odt
       obtain ⟨ad223, e223, hx223_0, hx223_1⟩ := at_T120 HR0_0.out x13_1 p223 q223
       cases e223
       replace hx223_0 := (HB.out.cell (World.block_lt_of_cell? w _ hx223_0)).trans hx223_0
       replace hx223_1 := (HB.out.cell (World.block_lt_of_cell? w _ hx223_1)).trans hx223_1
       replace p223 := eq_true p223; replace q223 := eq_true q223
       go_upto_region 7 with (first | ((with_reducible refine gate_dst (N := 5) rfl ?_); refine box_event ?hg (N := 5) ?hd (cs := #[.int .i64 0, .int .i64 0]) (t := 120) ?hr ?_; (case hd => rfl); (case hg => rfl); (case hr => first | (go_simp; done) | (go_simp; rfl)); intro gb224 hg w11 hbox hb; have n0_ := Aside0.mk (blk_below (g := gb222) (o := .cells #[.slice (some ad223) l0_0.length c0_0, .int .i64 a0_1, .int .i64 a0_2] 56 (0, 0)) (byK BK222.out) hb); have n1_ := Aside0.mk (below_step (byB1 HB.out GE222.out) hb); have n2_ := Aside0.mk (hbox); have n3_ := Aside0.mk ((by rw [hg]; exact (below_size (byB1 HB.out GE222.out)) : w.heap.size ≤ gb224)); have n4_ := Aside0.mk ((by rw [hg]; exact (below_size (byB1 HB.out GE222.out)) : w.heap.size ≤ gb224)); have n5_ := Aside0.mk ((by rw [hg]; exact Nat.ne_of_lt (blk_lt (g := gb222) (o := .cells #[.slice (some ad223) l0_0.length c0_0, .int .i64 a0_1, .int .i64 a0_2] 56 (0, 0)) (byK BK222.out)) : gb222 ≠ gb224)); have n6_ := Aside0.mk ((by rw [hg]; exact Nat.ne_of_gt (blk_lt (g := gb222) (o := .cells #[.slice (some ad223) l0_0.length c0_0, .int .i64 a0_1, .int .i64 a0_2] 56 (0, 0)) (byK BK222.out)) : gb224 ≠ gb222)); clear BK222 HB; have BK222 := n0_; have HB := n1_; have BK224 := n2_; have GW224 := n3_; have GE224 := n4_; have NB222_224 := n5_; have NB224_222 := n6_; clear n0_ n1_ n2_ n3_ n4_ n5_ n6_ hb hbox hg; have hnb12 := NB224_222.out; have hnc12 := NB222_224.out; have hcz13_0 : w11.cell? ⟨gb224, 0, none⟩ = some (.int .i64 0) := (blk_cell BK224.out 0).trans rfl; have hcz13_1 : w11.cell? ⟨gb224, 1, none⟩ = some (.int .i64 0) := (blk_cell BK224.out 1).trans rfl; have hfz13_0 := blk_frozen BK224.out 0; have hfz13_1 := blk_frozen BK224.out 1))
       (try simp only [Act.put, List.setIfInBounds_toArray, List.set_cons_zero, List.set_cons_succ])
       go_cut [31] (fun v31 wc => ∃ (kq : Nat) (x31_9 : Bool), v31 = .bool x31_9 ∧ Aside0 (schedule_Check.j1 kq x3_1 l0_0 (l0_0.length : Int) x13_1 x31_9 l0_0 a0_1 a0_2 ((rd_T120 l0_0 x13_1).f0) ((rd_T120 l0_0 x13_1).f1) = some r) ∧ Aside0 (kq ≤ k1) ∧ Aside0 (wc.heap[gb222]? = some (.cells #[(.slice (some ad223) l0_0.length c0_0), .int .i64 a0_1, .int .i64 a0_2] 56 (0, 0))) ∧ Aside0 (wc.heap[gb224]? = some (.cells #[.int .i64 ((rd_T120 l0_0 x13_1).f0), .int .i64 ((rd_T120 l0_0 x13_1).f1)] 120 (0, 0))) ∧ Aside0 (Below w.heap.size w wc))
       case first =>
        have H := HC10.out; clear HC10
        by_cases c14 : ((rd_T120 l0_0 x13_1).f0) < 0
        ·rw [if_pos c14] at H
         have c14b0 : decide (((rd_T120 l0_0 x13_1).f0) < 0) = true := decide_eq_true c14
         clear c14
         (first | rw [c14b0] | (simp only [i64_w, i32_w]; rw [c14b0]) | skip)
         have H' := Aside0.mk H
         clear H; have hnb15 := NB224_222.out; have hnc15 := NB222_224.out
         have hcz16_0 : w11.cell? ⟨gb224, 0, none⟩ = some (.int .i64 0) := (blk_cell BK224.out 0).trans rfl
         have hcz16_1 : w11.cell? ⟨gb224, 1, none⟩ = some (.int .i64 0) := (blk_cell BK224.out 1).trans rfl
         have hfz16_0 := blk_frozen BK224.out 0; have hfz16_1 := blk_frozen BK224.out 1
         go_wp2
         go_meet
         case rel => exact ⟨_, (true), byF, H', ⟨by have := HK1.out; first | omega | exact Nat.le_refl _⟩, ⟨by (with_reducible repeat (first | refine blk_drewN ?_ _ | refine blk_drew ?_ | refine blk_alloc ?_ _)); refine blk_far ?_ NB222_224.out _; (with_reducible repeat (first | refine blk_drewN ?_ _ | refine blk_drew ?_ | refine blk_alloc ?_ _)); refine blk_far ?_ NB222_224.out _; (with_reducible repeat (first | refine blk_drewN ?_ _ | refine blk_drew ?_ | refine blk_alloc ?_ _)); exact BK222.out⟩, ⟨by (with_reducible repeat (first | refine blk_drewN ?_ _ | refine blk_drew ?_ | refine blk_alloc ?_ _)); refine blk_put (cs := #[.int .i64 ((rd_T120 l0_0 x13_1).f0), .int .i64 0]) ?_ 1 _ rfl; (with_reducible repeat (first | refine blk_drewN ?_ _ | refine blk_drew ?_ | refine blk_alloc ?_ _)); refine blk_put (cs := #[.int .i64 0, .int .i64 0]) ?_ 0 _ rfl; (with_reducible repeat (first | refine blk_drewN ?_ _ | refine blk_drew ?_ | refine blk_alloc ?_ _)); exact BK224.out⟩, ⟨byB2 HB.out GE222.out GE224.out⟩⟩
        ·rw [if_neg c14] at H
         have c14b0 : decide (((rd_T120 l0_0 x13_1).f0) < 0) = false := decide_eq_false c14
         clear c14
         (first | rw [c14b0] | (simp only [i64_w, i32_w]; rw [c14b0]) | skip)
         by_cases c17 : ((rd_T120 l0_0 x13_1).f1) ≤ ((rd_T120 l0_0 x13_1).f0)
         ·rw [if_pos c17] at H
          have c17b0 : decide (((rd_T120 l0_0 x13_1).f1) ≤ ((rd_T120 l0_0 x13_1).f0)) = true := decide_eq_true c17
          clear c17
          have H' := Aside0.mk H
          clear H; have hnb18 := NB224_222.out; have hnc18 := NB222_224.out
          have hcz19_0 : w11.cell? ⟨gb224, 0, none⟩ = some (.int .i64 0) := (blk_cell BK224.out 0).trans rfl
          have hcz19_1 : w11.cell? ⟨gb224, 1, none⟩ = some (.int .i64 0) := (blk_cell BK224.out 1).trans rfl
          have hfz19_0 := blk_frozen BK224.out 0; have hfz19_1 := blk_frozen BK224.out 1
          go_wp2
          go_meet
          case rel => exact ⟨_, (true), byF, H', ⟨by have := HK1.out; first | omega | exact Nat.le_refl _⟩, ⟨by (with_reducible repeat (first | refine blk_drewN ?_ _ | refine blk_drew ?_ | refine blk_alloc ?_ _)); refine blk_far ?_ NB222_224.out _; (with_reducible repeat (first | refine blk_drewN ?_ _ | refine blk_drew ?_ | refine blk_alloc ?_ _)); refine blk_far ?_ NB222_224.out _; (with_reducible repeat (first | refine blk_drewN ?_ _ | refine blk_drew ?_ | refine blk_alloc ?_ _)); exact BK222.out⟩, ⟨by (with_reducible repeat (first | refine blk_drewN ?_ _ | refine blk_drew ?_ | refine blk_alloc ?_ _)); refine blk_put (cs := #[.int .i64 ((rd_T120 l0_0 x13_1).f0), .int .i64 0]) ?_ 1 _ rfl; (with_reducible repeat (first | refine blk_drewN ?_ _ | refine blk_drew ?_ | refine blk_alloc ?_ _)); refine blk_put (cs := #[.int .i64 0, .int .i64 0]) ?_ 0 _ rfl; (with_reducible repeat (first | refine blk_drewN ?_ _ | refine blk_drew ?_ | refine blk_alloc ?_ _)); exact BK224.out⟩, ⟨byB2 HB.out GE222.out GE224.out⟩⟩
         ·rw [if_neg c17] at H
          have c17b0 : decide (((rd_T120 l0_0 x13_1).f1) ≤ ((rd_T120 l0_0 x13_1).f0)) = false := decide_eq_false c17
          clear c17
          have H' := Aside0.mk H
          clear H; have hnb20 := NB224_222.out; have hnc20 := NB222_224.out
          have hcz21_0 : w11.cell? ⟨gb224, 0, none⟩ = some (.int .i64 0) := (blk_cell BK224.out 0).trans rfl
          have hcz21_1 : w11.cell? ⟨gb224, 1, none⟩ = some (.int .i64 0) := (blk_cell BK224.out 1).trans rfl
          have hfz21_0 := blk_frozen BK224.out 0; have hfz21_1 := blk_frozen BK224.out 1
          go_wp2
          go_meet
          case rel => exact ⟨_, (decide (((rd_T120 l0_0 x13_1).f1) > 1440)), byF, H', ⟨by have := HK1.out; first | omega | exact Nat.le_refl _⟩, ⟨by (with_reducible repeat (first | refine blk_drewN ?_ _ | refine blk_drew ?_ | refine blk_alloc ?_ _)); refine blk_far ?_ NB222_224.out _; (with_reducible repeat (first | refine blk_drewN ?_ _ | refine blk_drew ?_ | refine blk_alloc ?_ _)); refine blk_far ?_ NB222_224.out _; (with_reducible repeat (first | refine blk_drewN ?_ _ | refine blk_drew ?_ | refine blk_alloc ?_ _)); exact BK222.out⟩, ⟨by (with_reducible repeat (first | refine blk_drewN ?_ _ | refine blk_drew ?_ | refine blk_alloc ?_ _)); refine blk_put (cs := #[.int .i64 ((rd_T120 l0_0 x13_1).f0), .int .i64 0]) ?_ 1 _ rfl; (with_reducible repeat (first | refine blk_drewN ?_ _ | refine blk_drew ?_ | refine blk_alloc ?_ _)); refine blk_put (cs := #[.int .i64 0, .int .i64 0]) ?_ 0 _ rfl; (with_reducible repeat (first | refine blk_drewN ?_ _ | refine blk_drew ?_ | refine blk_alloc ?_ _)); exact BK224.out⟩, ⟨byB2 HB.out GE222.out GE224.out⟩⟩
       case rest =>
        clear HC10
        try clear c1
        try clear c2
        try clear c2b0
        try clear c2b1
        try clear p2
        try clear q2
        try clear hx2
        try clear c5
        try clear c7
        try clear c7b0
        try clear c8
        try clear c8b0
        try clear c9
        try clear c9b0
        try clear c12
        try clear c14
        try clear c14b0
        try clear c15
        try clear c17
        try clear c17b0
        try clear c18
        try clear c20
        try clear hcz13_0
        try clear hcz13_1
        try clear hcz16_0
        try clear hcz16_1
        try clear hcz19_0
        try clear hcz19_1
        try clear hcz21_0
        try clear hcz21_1
        try clear hcz4_0
        try clear hcz4_1
        try clear hcz4_2
        try clear hcz6_0
        try clear hcz6_1
        try clear hcz6_2
        try clear hfz13_0
        try clear hfz13_1
        try clear hfz16_0
        try clear hfz16_1
        try clear hfz19_0
        try clear hfz19_1
        try clear hfz21_0
        try clear hfz21_1
        try clear hfz4_0
        try clear hfz4_1
        try clear hfz4_2
        try clear hfz6_0
        try clear hfz6_1
        try clear hfz6_2
        try clear hx223_0
        try clear hx223_1
        try clear p2
        try clear p223
        try clear q223
        obtain ⟨kq, x31_9, rfl, HA, HJ9, BK222, BK224, HB⟩ := hcut
        cases kq with
        | zero => exact absurd HA.out (by simp [schedule_Check.j1])
        | succ kj9 =>
         have H := HA.out; clear HA
         simp only [schedule_Check.j1] at H
         by_cases c22 : x31_9 = true
         ·subst c22
          have H1 : (some 2) = some r := by rw [if_pos rfl] at H; exact H
          clear H; have H := H1; clear H1
          obtain rfl := Option.some.inj H
          go_wp2
          go_ret
          exact ⟨byE, byB2 HB.out GE222.out GE224.out⟩
         ·replace c22 := Bool.eq_false_iff.mpr c22
          subst c22
          have H1 : (if ((rd_T120 l0_0 x13_1).f0) < x3_1 then (some 6) else (schedule_Check.l0 kj9 ((rd_T120 l0_0 x13_1).f1) l0_0 (l0_0.length : Int) (wrap64 (x13_1 + 1)) l0_0 a0_1 a0_2)) = some r := by rw [if_neg (show ¬ (false = true) by decide)] at H; exact H
          clear H; have H := H1; clear H1
          by_cases c23 : ((rd_T120 l0_0 x13_1).f0) < x3_1
          ·rw [if_pos c23] at H
           have c23b0 : decide (((rd_T120 l0_0 x13_1).f0) < x3_1) = true := decide_eq_true c23
           clear c23
           obtain rfl := Option.some.inj H
           have hnb24 := NB224_222.out; have hnc24 := NB222_224.out
           have hcz25_0 : wc.cell? ⟨gb224, 0, none⟩ = some (.int .i64 ((rd_T120 l0_0 x13_1).f0)) := (blk_cell BK224.out 0).trans rfl
           have hcz25_1 : wc.cell? ⟨gb224, 1, none⟩ = some (.int .i64 ((rd_T120 l0_0 x13_1).f1)) := (blk_cell BK224.out 1).trans rfl
           have hfz25_0 := blk_frozen BK224.out 0; have hfz25_1 := blk_frozen BK224.out 1
           go_wp2
           go_ret
           exact ⟨byE, byB2 HB.out GE222.out GE224.out⟩
          ·rw [if_neg c23] at H
           have c23b0 : decide (((rd_T120 l0_0 x13_1).f0) < x3_1) = false := decide_eq_false c23
           clear c23
           have H' := Aside0.mk H
           clear H; have hnb26 := NB224_222.out; have hnc26 := NB222_224.out
           have hcz27_0 : wc.cell? ⟨gb224, 0, none⟩ = some (.int .i64 ((rd_T120 l0_0 x13_1).f0)) := (blk_cell BK224.out 0).trans rfl
           have hcz27_1 : wc.cell? ⟨gb224, 1, none⟩ = some (.int .i64 ((rd_T120 l0_0 x13_1).f1)) := (blk_cell BK224.out 1).trans rfl
           have hfz27_0 := blk_frozen BK224.out 0; have hfz27_1 := blk_frozen BK224.out 1
           go_wp2
           go_roundg kj9
           case measure => have := HK1.out; have := HJ9.out; omega
           case rel => exact ⟨(((rd_T120 l0_0 x13_1).f1)), (wrap64 (x13_1 + 1)), byF, byF, H', ⟨by have := HK1.out; have := HJ9.out; omega⟩, ⟨by (with_reducible repeat (first | refine blk_drewN ?_ _ | refine blk_drew ?_ | refine blk_alloc ?_ _)); exact BK222.out⟩, ⟨byB2 HB.out GE222.out GE224.out⟩⟩
      ·rw [if_neg c9] at H
       exact absurd H (by simp)
     ·rw [if_neg c8] at H
      exact absurd H (by simp)
    ·rw [if_neg c7] at H
     have c7b0 : decide (x13_1 < (l0_0.length : Int)) = false := decide_eq_false c7
     clear c7
     by_cases c28 : a0_2 < 0
     ·rw [if_pos c28] at H
      have c28b0 : decide (a0_2 < 0) = true := decide_eq_true c28
      clear c28
      obtain rfl := Option.some.inj H
      have hcz29_0 : wr.cell? ⟨gb222, 0, none⟩ = some (.slice A0_0 l0_0.length c0_0) := (blk_cell BK222.out 0).trans rfl
      have hcz29_1 : wr.cell? ⟨gb222, 1, none⟩ = some (.int .i64 a0_1) := (blk_cell BK222.out 1).trans rfl
      have hcz29_2 : wr.cell? ⟨gb222, 2, none⟩ = some (.int .i64 a0_2) := (blk_cell BK222.out 2).trans rfl
      have hfz29_0 := blk_frozen BK222.out 0; have hfz29_1 := blk_frozen BK222.out 1; have hfz29_2 := blk_frozen BK222.out 2
      go_wp2
      go_ret
      exact ⟨byE, byB1 HB.out GE222.out⟩
     ·rw [if_neg c28] at H
      have c28b0 : decide (a0_2 < 0) = false := decide_eq_false c28
      clear c28
      by_cases c30 : a0_2 = 0
      ·rw [if_pos c30] at H
       have c30b0 : (a0_2 == 0) = true := beq_iff_eq.mpr c30
       have c30b1 : (a0_2 != 0) = false := bne_eq_false_iff_eq.mpr c30
       clear c30
       by_cases c31 : a0_1 = 0
       ·rw [if_pos c31] at H
        have c31b0 : (a0_1 == 0) = true := beq_iff_eq.mpr c31
        have c31b1 : (a0_1 != 0) = false := bne_eq_false_iff_eq.mpr c31
        clear c31
        by_cases c32 : a0_2 > 0
        ·rw [if_pos c32] at H
         have c32b0 : decide (0 < a0_2) = true := decide_eq_true c32
         clear c32
         by_cases c33 : a0_1 < 0
         ·rw [if_pos c33] at H
          have c33b0 : decide (a0_1 < 0) = true := decide_eq_true c33
          clear c33
          obtain rfl := Option.some.inj H
          have hcz34_0 : wr.cell? ⟨gb222, 0, none⟩ = some (.slice A0_0 l0_0.length c0_0) := (blk_cell BK222.out 0).trans rfl
          have hcz34_1 : wr.cell? ⟨gb222, 1, none⟩ = some (.int .i64 a0_1) := (blk_cell BK222.out 1).trans rfl
          have hcz34_2 : wr.cell? ⟨gb222, 2, none⟩ = some (.int .i64 a0_2) := (blk_cell BK222.out 2).trans rfl
          have hfz34_0 := blk_frozen BK222.out 0; have hfz34_1 := blk_frozen BK222.out 1; have hfz34_2 := blk_frozen BK222.out 2
          go_wp2
          go_ret
          exact ⟨byE, byB1 HB.out GE222.out⟩
         ·rw [if_neg c33] at H
          have c33b0 : decide (a0_1 < 0) = false := decide_eq_false c33
          clear c33
          by_cases c35 : a0_1 ≥ 1440
          ·rw [if_pos c35] at H
           have c35b0 : decide (1440 ≤ a0_1) = true := decide_eq_true c35
           clear c35
           obtain rfl := Option.some.inj H
           have hcz36_0 : wr.cell? ⟨gb222, 0, none⟩ = some (.slice A0_0 l0_0.length c0_0) := (blk_cell BK222.out 0).trans rfl
           have hcz36_1 : wr.cell? ⟨gb222, 1, none⟩ = some (.int .i64 a0_1) := (blk_cell BK222.out 1).trans rfl
           have hcz36_2 : wr.cell? ⟨gb222, 2, none⟩ = some (.int .i64 a0_2) := (blk_cell BK222.out 2).trans rfl
           have hfz36_0 := blk_frozen BK222.out 0; have hfz36_1 := blk_frozen BK222.out 1; have hfz36_2 := blk_frozen BK222.out 2
           go_wp2
           go_ret
           exact ⟨byE, byB1 HB.out GE222.out⟩
          ·rw [if_neg c35] at H
           have c35b0 : decide (1440 ≤ a0_1) = false := decide_eq_false c35
           clear c35
           obtain rfl := Option.some.inj H
           have hcz37_0 : wr.cell? ⟨gb222, 0, none⟩ = some (.slice A0_0 l0_0.length c0_0) := (blk_cell BK222.out 0).trans rfl
           have hcz37_1 : wr.cell? ⟨gb222, 1, none⟩ = some (.int .i64 a0_1) := (blk_cell BK222.out 1).trans rfl
           have hcz37_2 : wr.cell? ⟨gb222, 2, none⟩ = some (.int .i64 a0_2) := (blk_cell BK222.out 2).trans rfl
           have hfz37_0 := blk_frozen BK222.out 0; have hfz37_1 := blk_frozen BK222.out 1; have hfz37_2 := blk_frozen BK222.out 2
           go_wp2
           go_ret
           exact ⟨byE, byB1 HB.out GE222.out⟩
        ·rw [if_neg c32] at H
         have c32b0 : decide (0 < a0_2) = false := decide_eq_false c32
         clear c32
         obtain rfl := Option.some.inj H
         have hcz38_0 : wr.cell? ⟨gb222, 0, none⟩ = some (.slice A0_0 l0_0.length c0_0) := (blk_cell BK222.out 0).trans rfl
         have hcz38_1 : wr.cell? ⟨gb222, 1, none⟩ = some (.int .i64 a0_1) := (blk_cell BK222.out 1).trans rfl
         have hcz38_2 : wr.cell? ⟨gb222, 2, none⟩ = some (.int .i64 a0_2) := (blk_cell BK222.out 2).trans rfl
         have hfz38_0 := blk_frozen BK222.out 0; have hfz38_1 := blk_frozen BK222.out 1; have hfz38_2 := blk_frozen BK222.out 2
         go_wp2
         go_ret
         exact ⟨byE, byB1 HB.out GE222.out⟩
       ·rw [if_neg c31] at H
        have c31b0 : (a0_1 == 0) = false := beq_eq_false_iff_ne.mpr c31
        have c31b1 : (a0_1 != 0) = true := bne_iff_ne.mpr c31
        obtain rfl := Option.some.inj H
        have hcz39_0 : wr.cell? ⟨gb222, 0, none⟩ = some (.slice A0_0 l0_0.length c0_0) := (blk_cell BK222.out 0).trans rfl
        have hcz39_1 : wr.cell? ⟨gb222, 1, none⟩ = some (.int .i64 a0_1) := (blk_cell BK222.out 1).trans rfl
        have hcz39_2 : wr.cell? ⟨gb222, 2, none⟩ = some (.int .i64 a0_2) := (blk_cell BK222.out 2).trans rfl
        have hfz39_0 := blk_frozen BK222.out 0; have hfz39_1 := blk_frozen BK222.out 1; have hfz39_2 := blk_frozen BK222.out 2
        go_wp2
        go_ret
        exact ⟨byE, byB1 HB.out GE222.out⟩
      ·rw [if_neg c30] at H
       have c30b0 : (a0_2 == 0) = false := beq_eq_false_iff_ne.mpr c30
       have c30b1 : (a0_2 != 0) = true := bne_iff_ne.mpr c30
       by_cases c40 : a0_2 > 0
       ·rw [if_pos c40] at H
        have c40b0 : decide (0 < a0_2) = true := decide_eq_true c40
        clear c40
        by_cases c41 : a0_1 < 0
        ·rw [if_pos c41] at H
         have c41b0 : decide (a0_1 < 0) = true := decide_eq_true c41
         clear c41
         obtain rfl := Option.some.inj H
         have hcz42_0 : wr.cell? ⟨gb222, 0, none⟩ = some (.slice A0_0 l0_0.length c0_0) := (blk_cell BK222.out 0).trans rfl
         have hcz42_1 : wr.cell? ⟨gb222, 1, none⟩ = some (.int .i64 a0_1) := (blk_cell BK222.out 1).trans rfl
         have hcz42_2 : wr.cell? ⟨gb222, 2, none⟩ = some (.int .i64 a0_2) := (blk_cell BK222.out 2).trans rfl
         have hfz42_0 := blk_frozen BK222.out 0; have hfz42_1 := blk_frozen BK222.out 1; have hfz42_2 := blk_frozen BK222.out 2
         go_wp2
         go_ret
         exact ⟨byE, byB1 HB.out GE222.out⟩
        ·rw [if_neg c41] at H
         have c41b0 : decide (a0_1 < 0) = false := decide_eq_false c41
         clear c41
         by_cases c43 : a0_1 ≥ 1440
         ·rw [if_pos c43] at H
          have c43b0 : decide (1440 ≤ a0_1) = true := decide_eq_true c43
          clear c43
          obtain rfl := Option.some.inj H
          have hcz44_0 : wr.cell? ⟨gb222, 0, none⟩ = some (.slice A0_0 l0_0.length c0_0) := (blk_cell BK222.out 0).trans rfl
          have hcz44_1 : wr.cell? ⟨gb222, 1, none⟩ = some (.int .i64 a0_1) := (blk_cell BK222.out 1).trans rfl
          have hcz44_2 : wr.cell? ⟨gb222, 2, none⟩ = some (.int .i64 a0_2) := (blk_cell BK222.out 2).trans rfl
          have hfz44_0 := blk_frozen BK222.out 0; have hfz44_1 := blk_frozen BK222.out 1; have hfz44_2 := blk_frozen BK222.out 2
          go_wp2
          go_ret
          exact ⟨byE, byB1 HB.out GE222.out⟩
         ·rw [if_neg c43] at H
          have c43b0 : decide (1440 ≤ a0_1) = false := decide_eq_false c43
          clear c43
          obtain rfl := Option.some.inj H
          have hcz45_0 : wr.cell? ⟨gb222, 0, none⟩ = some (.slice A0_0 l0_0.length c0_0) := (blk_cell BK222.out 0).trans rfl
          have hcz45_1 : wr.cell? ⟨gb222, 1, none⟩ = some (.int .i64 a0_1) := (blk_cell BK222.out 1).trans rfl
          have hcz45_2 : wr.cell? ⟨gb222, 2, none⟩ = some (.int .i64 a0_2) := (blk_cell BK222.out 2).trans rfl
          have hfz45_0 := blk_frozen BK222.out 0; have hfz45_1 := blk_frozen BK222.out 1; have hfz45_2 := blk_frozen BK222.out 2
          go_wp2
          go_ret
          exact ⟨byE, byB1 HB.out GE222.out⟩
       ·rw [if_neg c40] at H
        have c40b0 : decide (0 < a0_2) = false := decide_eq_false c40
        clear c40
        obtain rfl := Option.some.inj H
        have hcz46_0 : wr.cell? ⟨gb222, 0, none⟩ = some (.slice A0_0 l0_0.length c0_0) := (blk_cell BK222.out 0).trans rfl
        have hcz46_1 : wr.cell? ⟨gb222, 1, none⟩ = some (.int .i64 a0_1) := (blk_cell BK222.out 1).trans rfl
        have hcz46_2 : wr.cell? ⟨gb222, 2, none⟩ = some (.int .i64 a0_2) := (blk_cell BK222.out 2).trans rfl
        have hfz46_0 := blk_frozen BK222.out 0; have hfz46_1 := blk_frozen BK222.out 1; have hfz46_2 := blk_frozen BK222.out 2
        go_wp2
        go_ret
        exact ⟨byE, byB1 HB.out GE222.out⟩
end Go.Proofs.Ytaodlehnfjalnaa.Print
