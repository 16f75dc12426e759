/- Several texts of this claim in one: F64, HP37k. -/
import Derived.Test.YtfnophaiamkmpaaPrint0
import Derived.Test.YtfnophaiamkmpaaM1
import Derived.Test.YtfnophaiamkmpaaOpen
import Derived.Test.YtfnophaiamkmpaaF54
namespace Go.Proofs.Ytfnophaiamkmpaa.Print
open Go.RowKit Go.Proofs.YtfnophaiamkmpaaW.PrintWords Go.Proofs.YtfnophaiamkmpaaW.PrintLast Go.Proofs.YtfnophaiamkmpaaW.PrintMore
attribute [local go_sem] max2_int min2_int max_two min_two max_three min_three max_four min_four   -- for this text's walks alone
set_option linter.unusedVariables false
set_option linter.unusedSimpArgs false
/-! ### mapmakerref37_Check: function 64 -/
mutual
def mapmakerref37_Check.j0 : Nat → Bool → Int → List (S58) → Option (Int)
 | 0, _, _, _ => none
 | k + 1, x18, x102000, x102001 => if x18 = true then (some 5) else (mapmakerref37_Check.l0 k 0 x102000 x102001)
def mapmakerref37_Check.l0 : Nat → Int → Int → List (S58) → Option (Int)
 | 0, _, _, _ => none
 | k + 1, x3, x102000, x102001 => if x3 < (x102001.length : Int) then (if 0 ≤ x3 then (if ((rd_T58 x102001 x3).f0) < 0 then (some 2) else (if ((rd_T58 x102001 x3).f0) ≥ x102000 then (some 2) else (if ((rd_T58 x102001 x3).f1) < 0 then (some 2) else (if ((rd_T58 x102001 x3).f1) ≥ x102000 then (some 2) else (mapmakerref37_Check.l0 k (wrap64 (x3 + 1)) x102000 x102001))))) else (none)) else (some 0)
end
def mapmakerref37_Check.f (k : Nat) (a0_0 : Int) (l0_1 : List (S58)) : Option (Int) := if a0_0 < 0 then (mapmakerref37_Check.j0 k true a0_0 l0_1) else (if a0_0 > 1048576 then (mapmakerref37_Check.j0 k true a0_0 l0_1) else (mapmakerref37_Check.j0 k (decide ((l0_1.length : Int) > 4194304)) a0_0 l0_1))
set_option maxHeartbeats 8000000 in
set_option maxRecDepth 100000 in
theorem mapmakerref37_Check.calls (k : Nat) (a0_0 : Int) (A0_1 : Option Addr) (c0_1 : Nat) (l0_1 : List (S58)) (r : Int) (w : World) (hr0_1 : Kd.C k58 w A0_1 l0_1.length l0_1) (hc0_1 : l0_1.length ≤ c0_1) (h : mapmakerref37_Check.f k a0_0 l0_1 = some r) :
  Calls Try.prog 64 #[.agg #[.int .i64 a0_0, .slice A0_1 l0_1.length c0_1]] w fun e w' => e = .returned (.int .i64 r) ∧ Below w.heap.size w w' := by
 have hu24 := Try.underlying24; have hu58 := Try.underlying58; have HR0_1 := Aside0.mk hr0_1; have HC0_1 := Aside0.mk hc0_1; clear hr0_1 hc0_1; have HB := Aside0.mk (Below.refl w.heap.size w)
 have H : (if a0_0 < 0 then (mapmakerref37_Check.j0 k true a0_0 l0_1) else (if a0_0 > 1048576 then (mapmakerref37_Check.j0 k true a0_0 l0_1) else (mapmakerref37_Check.j0 k (decide ((l0_1.length : Int) > 4194304)) a0_0 l0_1))) = some r := h
 clear h; have HC2 := Aside0.mk H; clear H
 go_enter Try.func64, Try.ntmps64
 go_upto_region 1 with (first | ((with_reducible refine gate_dst (N := 1) rfl ?_); (try (refine gate_guard (by rfl) ?_; dsimp only)); refine box_event ?hg (N := 1) ?hd (cs := #[.int .i64 a0_0, .slice A0_1 l0_1.length c0_1]) (t := 24) ?hr ?_; (case hd => rfl); (case hg => rfl); (case hr => first | (go_simp; done) | (go_simp; rfl)); intro gb101 hg w3 hbox hb; have n0_ := Aside0.mk (below_step (byB HB.out) hb); have n1_ := Aside0.mk (hbox); have n2_ := Aside0.mk ((by rw [hg]; exact (below_size (byB HB.out)) : w.heap.size ≤ gb101)); have n3_ := Aside0.mk ((by rw [hg]; exact (below_size (byB HB.out)) : w.heap.size ≤ gb101)); clear HB; have HB := n0_; have BK101 := n1_; have GW101 := n2_; have GE101 := n3_; clear n0_ n1_ n2_ n3_ hb hbox hg))
 (try simp only [Act.put, List.setIfInBounds_toArray, List.set_cons_zero, List.set_cons_succ])
 go_cut [18] (fun v18 wc => ∃ (kq : Nat) (x18_1 : Bool), v18 = .bool x18_1 ∧ Aside0 (mapmakerref37_Check.j0 kq x18_1 a0_0 l0_1 = some r) ∧ Aside0 (kq ≤ k) ∧ Aside0 (wc.heap[gb101]? = some (.cells #[.int .i64 a0_0, (.slice A0_1 l0_1.length c0_1)] 24 (0, 0))) ∧ Aside0 (Below w.heap.size w wc))
 case first =>
  have H := HC2.out; clear HC2
  by_cases c4 : a0_0 < 0
  ·rw [if_pos c4] at H
   have c4b0 : decide (a0_0 < 0) = true := decide_eq_true c4
   clear c4
   (first | rw [c4b0] | (simp only [i64_w, i32_w]; rw [c4b0]) | skip)
   have H' := Aside0.mk H
   clear H
   have hcz5_0 : w3.cell? ⟨gb101, 0, none⟩ = some (.int .i64 a0_0) := (blk_cell BK101.out 0).trans rfl
   have hcz5_1 : w3.cell? ⟨gb101, 1, none⟩ = some (.slice A0_1 l0_1.length c0_1) := (blk_cell BK101.out 1).trans rfl
   have hfz5_0 := blk_frozen BK101.out 0; have hfz5_1 := blk_frozen BK101.out 1
   go_wp2
   go_meet
   case rel => exact ⟨_, (true), byF, H', ⟨by first | omega | exact Nat.le_refl _⟩, ⟨by (with_reducible repeat (first | refine blk_drewN ?_ _ | refine blk_drew ?_ | refine blk_alloc ?_ _)); exact BK101.out⟩, ⟨byB1 HB.out GE101.out⟩⟩
  ·rw [if_neg c4] at H
   have c4b0 : decide (a0_0 < 0) = false := decide_eq_false c4
   clear c4
   (first | rw [c4b0] | (simp only [i64_w, i32_w]; rw [c4b0]) | skip)
   by_cases c6 : a0_0 > 1048576
   ·rw [if_pos c6] at H
    have c6b0 : decide (1048576 < a0_0) = true := decide_eq_true c6
    clear c6
    have H' := Aside0.mk H
    clear H
    have hcz7_0 : w3.cell? ⟨gb101, 0, none⟩ = some (.int .i64 a0_0) := (blk_cell BK101.out 0).trans rfl
    have hcz7_1 : w3.cell? ⟨gb101, 1, none⟩ = some (.slice A0_1 l0_1.length c0_1) := (blk_cell BK101.out 1).trans rfl
    have hfz7_0 := blk_frozen BK101.out 0; have hfz7_1 := blk_frozen BK101.out 1
    go_wp2
    go_meet
    case rel => exact ⟨_, (true), byF, H', ⟨by first | omega | exact Nat.le_refl _⟩, ⟨by (with_reducible repeat (first | refine blk_drewN ?_ _ | refine blk_drew ?_ | refine blk_alloc ?_ _)); exact BK101.out⟩, ⟨byB1 HB.out GE101.out⟩⟩
   ·rw [if_neg c6] at H
    have c6b0 : decide (1048576 < a0_0) = false := decide_eq_false c6
    clear c6
    have H' := Aside0.mk H
    clear H
    have hcz8_0 : w3.cell? ⟨gb101, 0, none⟩ = some (.int .i64 a0_0) := (blk_cell BK101.out 0).trans rfl
    have hcz8_1 : w3.cell? ⟨gb101, 1, none⟩ = some (.slice A0_1 l0_1.length c0_1) := (blk_cell BK101.out 1).trans rfl
    have hfz8_0 := blk_frozen BK101.out 0; have hfz8_1 := blk_frozen BK101.out 1
    go_wp2
    go_meet
    case rel => exact ⟨_, (decide ((l0_1.length : Int) > 4194304)), byF, H', ⟨by first | omega | exact Nat.le_refl _⟩, ⟨by (with_reducible repeat (first | refine blk_drewN ?_ _ | refine blk_drew ?_ | refine blk_alloc ?_ _)); exact BK101.out⟩, ⟨byB1 HB.out GE101.out⟩⟩
 case rest =>
  clear HC2
  try clear p2
  try clear c4
  try clear c4b0
  try clear c6
  try clear c6b0
  try clear hcz5_0
  try clear hcz5_1
  try clear hcz7_0
  try clear hcz7_1
  try clear hcz8_0
  try clear hcz8_1
  try clear hfz5_0
  try clear hfz5_1
  try clear hfz7_0
  try clear hfz7_1
  try clear hfz8_0
  try clear hfz8_1
  obtain ⟨kq, x18_1, rfl, HA, HJ1, BK101, HB⟩ := hcut
  cases kq with
  | zero => exact absurd HA.out (by simp [mapmakerref37_Check.j0])
  | succ kj1 =>
   have H := HA.out; clear HA
   simp only [mapmakerref37_Check.j0] at H
   by_cases c9 : x18_1 = true
   ·subst c9
    have H1 : (some 5) = some r := by rw [if_pos rfl] at H; exact H
    clear H; have H := H1; clear H1
    obtain rfl := Option.some.inj H
    go_wp2
    go_ret
    exact ⟨byE, byB1 HB.out GE101.out⟩
   ·replace c9 := Bool.eq_false_iff.mpr c9
    subst c9
    have H1 : (mapmakerref37_Check.l0 kj1 0 a0_0 l0_1) = some r := by rw [if_neg (show ¬ (false = true) by decide)] at H; exact H
    clear H; have H := H1; clear H1
    have H' := Aside0.mk H
    clear H
    go_wp2
    go_loopg [3] kj1 (fun kq v3 w' => ∃ (x3_2 : Int), v3 = .int .i64 x3_2 ∧ Aside0 (mapmakerref37_Check.l0 kq x3_2 a0_0 l0_1 = some r) ∧ Aside0 (kq ≤ kj1) ∧ Aside0 (w'.heap[gb101]? = some (.cells #[.int .i64 a0_0, (.slice A0_1 l0_1.length c0_1)] 24 (0, 0))) ∧ Aside0 (Below w.heap.size w w'))
    case atStart => exact ⟨(0), byF, H', ⟨Nat.le_refl _⟩, ⟨by (with_reducible repeat (first | refine blk_drewN ?_ _ | refine blk_drew ?_ | refine blk_alloc ?_ _)); exact BK101.out⟩, ⟨byB1 HB.out GE101.out⟩⟩
    case round =>
     clear H'
     try clear p2
     try clear c4
     try clear c4b0
     try clear c6
     try clear c6b0
     try clear c9
     try clear hcz5_0
     try clear hcz5_1
     try clear hcz7_0
     try clear hcz7_1
     try clear hcz8_0
     try clear hcz8_1
     try clear hfz5_0
     try clear hfz5_1
     try clear hfz7_0
     try clear hfz7_1
     try clear hfz8_0
     try clear hfz8_1
     try clear p2
     obtain ⟨x3_2, rfl, HA, HK2, BK101, HB⟩ := hrel
     cases gk with
     | zero => exact absurd HA.out (by simp [mapmakerref37_Check.l0])
     | succ k2 =>
      have H := HA.out; clear HA
      simp only [mapmakerref37_Check.l0] at H
      by_cases c10 : x3_2 < (l0_1.length : Int)
      ·rw [if_pos c10] at H
       have c10b0 : decide (x3_2 < (l0_1.length : Int)) = true := decide_eq_true c10
       clear c10
       by_cases c11 : 0 ≤ x3_2
       ·rw [if_pos c11] at H
        have c11b0 : decide (0 ≤ x3_2) = true := decide_eq_true c11
        clear c11
        by_cases c12 : ((rd_T58 l0_1 x3_2).f0) < 0
        ·rw [if_pos c12] at H
         have c12b0 : decide (((rd_T58 l0_1 x3_2).f0) < 0) = true := decide_eq_true c12
         clear c12
         obtain rfl := Option.some.inj H
         have hcz13_0 : wr.cell? ⟨gb101, 0, none⟩ = some (.int .i64 a0_0) := (blk_cell BK101.out 0).trans rfl
         have hcz13_1 : wr.cell? ⟨gb101, 1, none⟩ = some (.slice A0_1 l0_1.length c0_1) := (blk_cell BK101.out 1).trans rfl
         have hfz13_0 := blk_frozen BK101.out 0; have hfz13_1 := blk_frozen BK101.out 1
         have p102 : 0 ≤ (x3_2 : Int) := odt
         have q102 : x3_2 < (l0_1.length : Int) := odt
         obtain ⟨ad102, e102, hx102_0, hx102_1⟩ := at_T58 HR0_1.out x3_2 p102 q102
         cases e102
         replace hx102_0 := (HB.out.cell (World.block_lt_of_cell? w _ hx102_0)).trans hx102_0
         replace hx102_1 := (HB.out.cell (World.block_lt_of_cell? w _ hx102_1)).trans hx102_1
         replace p102 := eq_true p102; replace q102 := eq_true q102
         go_wp2_with (first | ((with_reducible refine gate_dst (N := 4) rfl ?_); (try (refine gate_guard (by rfl) ?_; dsimp only)); refine box_event ?hg (N := 4) ?hd (cs := #[.int .i64 0, .int .i64 0]) (t := 58) ?hr ?_; (case hd => rfl); (case hg => rfl); (case hr => first | (go_simp; done) | (go_simp; rfl)); intro gb103 hg w14 hbox hb; have n0_ := Aside0.mk (blk_below (g := gb101) (o := .cells #[.int .i64 a0_0, .slice (some ad102) l0_1.length c0_1] 24 (0, 0)) (byK BK101.out) hb); have n1_ := Aside0.mk (below_step (byB1 HB.out GE101.out) hb); have n2_ := Aside0.mk (hbox); have n3_ := Aside0.mk ((by rw [hg]; exact (below_size (byB1 HB.out GE101.out)) : w.heap.size ≤ gb103)); have n4_ := Aside0.mk ((by rw [hg]; exact (below_size (byB1 HB.out GE101.out)) : w.heap.size ≤ gb103)); have n5_ := Aside0.mk ((by rw [hg]; exact Nat.ne_of_lt (blk_lt (g := gb101) (o := .cells #[.int .i64 a0_0, .slice (some ad102) l0_1.length c0_1] 24 (0, 0)) (byK BK101.out)) : gb101 ≠ gb103)); have n6_ := Aside0.mk ((by rw [hg]; exact Nat.ne_of_gt (blk_lt (g := gb101) (o := .cells #[.int .i64 a0_0, .slice (some ad102) l0_1.length c0_1] 24 (0, 0)) (byK BK101.out)) : gb103 ≠ gb101)); clear BK101 HB; have BK101 := n0_; have HB := n1_; have BK103 := n2_; have GW103 := n3_; have GE103 := n4_; have NB101_103 := n5_; have NB103_101 := n6_; clear n0_ n1_ n2_ n3_ n4_ n5_ n6_ hb hbox hg; have hnb15 := NB103_101.out; have hnc15 := NB101_103.out; have hcz16_0 : w14.cell? ⟨gb103, 0, none⟩ = some (.int .i64 0) := (blk_cell BK103.out 0).trans rfl; have hcz16_1 : w14.cell? ⟨gb103, 1, none⟩ = some (.int .i64 0) := (blk_cell BK103.out 1).trans rfl; have hfz16_0 := blk_frozen BK103.out 0; have hfz16_1 := blk_frozen BK103.out 1))
         go_ret
         exact ⟨byE, byB2 HB.out GE101.out GE103.out⟩
        ·rw [if_neg c12] at H
         have c12b0 : decide (((rd_T58 l0_1 x3_2).f0) < 0) = false := decide_eq_false c12
         clear c12
         by_cases c17 : ((rd_T58 l0_1 x3_2).f0) ≥ a0_0
         ·rw [if_pos c17] at H
          have c17b0 : decide (a0_0 ≤ ((rd_T58 l0_1 x3_2).f0)) = true := decide_eq_true c17
          clear c17
          obtain rfl := Option.some.inj H
          have hcz18_0 : wr.cell? ⟨gb101, 0, none⟩ = some (.int .i64 a0_0) := (blk_cell BK101.out 0).trans rfl
          have hcz18_1 : wr.cell? ⟨gb101, 1, none⟩ = some (.slice A0_1 l0_1.length c0_1) := (blk_cell BK101.out 1).trans rfl
          have hfz18_0 := blk_frozen BK101.out 0; have hfz18_1 := blk_frozen BK101.out 1
          have p102 : 0 ≤ (x3_2 : Int) := odt
          have q102 : x3_2 < (l0_1.length : Int) := odt
          obtain ⟨ad102, e102, hx102_0, hx102_1⟩ := at_T58 HR0_1.out x3_2 p102 q102
          cases e102
          replace hx102_0 := (HB.out.cell (World.block_lt_of_cell? w _ hx102_0)).trans hx102_0
          replace hx102_1 := (HB.out.cell (World.block_lt_of_cell? w _ hx102_1)).trans hx102_1
          replace p102 := eq_true p102; replace q102 := eq_true q102
          go_wp2_with (first | ((with_reducible refine gate_dst (N := 4) rfl ?_); (try (refine gate_guard (by rfl) ?_; dsimp only)); refine box_event ?hg (N := 4) ?hd (cs := #[.int .i64 0, .int .i64 0]) (t := 58) ?hr ?_; (case hd => rfl); (case hg => rfl); (case hr => first | (go_simp; done) | (go_simp; rfl)); intro gb103 hg w19 hbox hb; have n0_ := Aside0.mk (blk_below (g := gb101) (o := .cells #[.int .i64 a0_0, .slice (some ad102) l0_1.length c0_1] 24 (0, 0)) (byK BK101.out) hb); have n1_ := Aside0.mk (below_step (byB1 HB.out GE101.out) hb); have n2_ := Aside0.mk (hbox); have n3_ := Aside0.mk ((by rw [hg]; exact (below_size (byB1 HB.out GE101.out)) : w.heap.size ≤ gb103)); have n4_ := Aside0.mk ((by rw [hg]; exact (below_size (byB1 HB.out GE101.out)) : w.heap.size ≤ gb103)); have n5_ := Aside0.mk ((by rw [hg]; exact Nat.ne_of_lt (blk_lt (g := gb101) (o := .cells #[.int .i64 a0_0, .slice (some ad102) l0_1.length c0_1] 24 (0, 0)) (byK BK101.out)) : gb101 ≠ gb103)); have n6_ := Aside0.mk ((by rw [hg]; exact Nat.ne_of_gt (blk_lt (g := gb101) (o := .cells #[.int .i64 a0_0, .slice (some ad102) l0_1.length c0_1] 24 (0, 0)) (byK BK101.out)) : gb103 ≠ gb101)); clear BK101 HB; have BK101 := n0_; have HB := n1_; have BK103 := n2_; have GW103 := n3_; have GE103 := n4_; have NB101_103 := n5_; have NB103_101 := n6_; clear n0_ n1_ n2_ n3_ n4_ n5_ n6_ hb hbox hg; have hnb20 := NB103_101.out; have hnc20 := NB101_103.out; have hcz21_0 : w19.cell? ⟨gb103, 0, none⟩ = some (.int .i64 0) := (blk_cell BK103.out 0).trans rfl; have hcz21_1 : w19.cell? ⟨gb103, 1, none⟩ = some (.int .i64 0) := (blk_cell BK103.out 1).trans rfl; have hfz21_0 := blk_frozen BK103.out 0; have hfz21_1 := blk_frozen BK103.out 1; have hcz22_0 : w19.cell? ⟨gb101, 0, none⟩ = some (.int .i64 a0_0) := (blk_cell BK101.out 0).trans rfl; have hcz22_1 : w19.cell? ⟨gb101, 1, none⟩ = some (.slice (some ad102) l0_1.length c0_1) := (blk_cell BK101.out 1).trans rfl; have hfz22_0 := blk_frozen BK101.out 0; have hfz22_1 := blk_frozen BK101.out 1))
          go_ret
          exact ⟨byE, byB2 HB.out GE101.out GE103.out⟩
         ·rw [if_neg c17] at H
          have c17b0 : decide (a0_0 ≤ ((rd_T58 l0_1 x3_2).f0)) = false := decide_eq_false c17
          clear c17
          by_cases c23 : ((rd_T58 l0_1 x3_2).f1) < 0
          ·rw [if_pos c23] at H
           have c23b0 : decide (((rd_T58 l0_1 x3_2).f1) < 0) = true := decide_eq_true c23
           clear c23
           obtain rfl := Option.some.inj H
           have hcz24_0 : wr.cell? ⟨gb101, 0, none⟩ = some (.int .i64 a0_0) := (blk_cell BK101.out 0).trans rfl
           have hcz24_1 : wr.cell? ⟨gb101, 1, none⟩ = some (.slice A0_1 l0_1.length c0_1) := (blk_cell BK101.out 1).trans rfl
           have hfz24_0 := blk_frozen BK101.out 0; have hfz24_1 := blk_frozen BK101.out 1
           have p102 : 0 ≤ (x3_2 : Int) := odt
           have q102 : x3_2 < (l0_1.length : Int) := odt
           obtain ⟨ad102, e102, hx102_0, hx102_1⟩ := at_T58 HR0_1.out x3_2 p102 q102
           cases e102
           replace hx102_0 := (HB.out.cell (World.block_lt_of_cell? w _ hx102_0)).trans hx102_0
           replace hx102_1 := (HB.out.cell (World.block_lt_of_cell? w _ hx102_1)).trans hx102_1
           replace p102 := eq_true p102; replace q102 := eq_true q102
           go_wp2_with (first | ((with_reducible refine gate_dst (N := 4) rfl ?_); (try (refine gate_guard (by rfl) ?_; dsimp only)); refine box_event ?hg (N := 4) ?hd (cs := #[.int .i64 0, .int .i64 0]) (t := 58) ?hr ?_; (case hd => rfl); (case hg => rfl); (case hr => first | (go_simp; done) | (go_simp; rfl)); intro gb103 hg w25 hbox hb; have n0_ := Aside0.mk (blk_below (g := gb101) (o := .cells #[.int .i64 a0_0, .slice (some ad102) l0_1.length c0_1] 24 (0, 0)) (byK BK101.out) hb); have n1_ := Aside0.mk (below_step (byB1 HB.out GE101.out) hb); have n2_ := Aside0.mk (hbox); have n3_ := Aside0.mk ((by rw [hg]; exact (below_size (byB1 HB.out GE101.out)) : w.heap.size ≤ gb103)); have n4_ := Aside0.mk ((by rw [hg]; exact (below_size (byB1 HB.out GE101.out)) : w.heap.size ≤ gb103)); have n5_ := Aside0.mk ((by rw [hg]; exact Nat.ne_of_lt (blk_lt (g := gb101) (o := .cells #[.int .i64 a0_0, .slice (some ad102) l0_1.length c0_1] 24 (0, 0)) (byK BK101.out)) : gb101 ≠ gb103)); have n6_ := Aside0.mk ((by rw [hg]; exact Nat.ne_of_gt (blk_lt (g := gb101) (o := .cells #[.int .i64 a0_0, .slice (some ad102) l0_1.length c0_1] 24 (0, 0)) (byK BK101.out)) : gb103 ≠ gb101)); clear BK101 HB; have BK101 := n0_; have HB := n1_; have BK103 := n2_; have GW103 := n3_; have GE103 := n4_; have NB101_103 := n5_; have NB103_101 := n6_; clear n0_ n1_ n2_ n3_ n4_ n5_ n6_ hb hbox hg; have hnb26 := NB103_101.out; have hnc26 := NB101_103.out; have hcz27_0 : w25.cell? ⟨gb103, 0, none⟩ = some (.int .i64 0) := (blk_cell BK103.out 0).trans rfl; have hcz27_1 : w25.cell? ⟨gb103, 1, none⟩ = some (.int .i64 0) := (blk_cell BK103.out 1).trans rfl; have hfz27_0 := blk_frozen BK103.out 0; have hfz27_1 := blk_frozen BK103.out 1; have hcz28_0 : w25.cell? ⟨gb101, 0, none⟩ = some (.int .i64 a0_0) := (blk_cell BK101.out 0).trans rfl; have hcz28_1 : w25.cell? ⟨gb101, 1, none⟩ = some (.slice (some ad102) l0_1.length c0_1) := (blk_cell BK101.out 1).trans rfl; have hfz28_0 := blk_frozen BK101.out 0; have hfz28_1 := blk_frozen BK101.out 1))
           go_ret
           exact ⟨byE, byB2 HB.out GE101.out GE103.out⟩
          ·rw [if_neg c23] at H
           have c23b0 : decide (((rd_T58 l0_1 x3_2).f1) < 0) = false := decide_eq_false c23
           clear c23
           by_cases c29 : ((rd_T58 l0_1 x3_2).f1) ≥ a0_0
           ·rw [if_pos c29] at H
            have c29b0 : decide (a0_0 ≤ ((rd_T58 l0_1 x3_2).f1)) = true := decide_eq_true c29
            clear c29
            obtain rfl := Option.some.inj H
            have hcz30_0 : wr.cell? ⟨gb101, 0, none⟩ = some (.int .i64 a0_0) := (blk_cell BK101.out 0).trans rfl
            have hcz30_1 : wr.cell? ⟨gb101, 1, none⟩ = some (.slice A0_1 l0_1.length c0_1) := (blk_cell BK101.out 1).trans rfl
            have hfz30_0 := blk_frozen BK101.out 0; have hfz30_1 := blk_frozen BK101.out 1
            have p102 : 0 ≤ (x3_2 : Int) := odt
            have q102 : x3_2 < (l0_1.length : Int) := odt
            obtain ⟨ad102, e102, hx102_0, hx102_1⟩ := at_T58 HR0_1.out x3_2 p102 q102
            cases e102
            replace hx102_0 := (HB.out.cell (World.block_lt_of_cell? w _ hx102_0)).trans hx102_0
            replace hx102_1 := (HB.out.cell (World.block_lt_of_cell? w _ hx102_1)).trans hx102_1
            replace p102 := eq_true p102; replace q102 := eq_true q102
            go_wp2_with (first | ((with_reducible refine gate_dst (N := 4) rfl ?_); (try (refine gate_guard (by rfl) ?_; dsimp only)); refine box_event ?hg (N := 4) ?hd (cs := #[.int .i64 0, .int .i64 0]) (t := 58) ?hr ?_; (case hd => rfl); (case hg => rfl); (case hr => first | (go_simp; done) | (go_simp; rfl)); intro gb103 hg w31 hbox hb; have n0_ := Aside0.mk (blk_below (g := gb101) (o := .cells #[.int .i64 a0_0, .slice (some ad102) l0_1.length c0_1] 24 (0, 0)) (byK BK101.out) hb); have n1_ := Aside0.mk (below_step (byB1 HB.out GE101.out) hb); have n2_ := Aside0.mk (hbox); have n3_ := Aside0.mk ((by rw [hg]; exact (below_size (byB1 HB.out GE101.out)) : w.heap.size ≤ gb103)); have n4_ := Aside0.mk ((by rw [hg]; exact (below_size (byB1 HB.out GE101.out)) : w.heap.size ≤ gb103)); have n5_ := Aside0.mk ((by rw [hg]; exact Nat.ne_of_lt (blk_lt (g := gb101) (o := .cells #[.int .i64 a0_0, .slice (some ad102) l0_1.length c0_1] 24 (0, 0)) (byK BK101.out)) : gb101 ≠ gb103)); have n6_ := Aside0.mk ((by rw [hg]; exact Nat.ne_of_gt (blk_lt (g := gb101) (o := .cells #[.int .i64 a0_0, .slice (some ad102) l0_1.length c0_1] 24 (0, 0)) (byK BK101.out)) : gb103 ≠ gb101)); clear BK101 HB; have BK101 := n0_; have HB := n1_; have BK103 := n2_; have GW103 := n3_; have GE103 := n4_; have NB101_103 := n5_; have NB103_101 := n6_; clear n0_ n1_ n2_ n3_ n4_ n5_ n6_ hb hbox hg; have hnb32 := NB103_101.out; have hnc32 := NB101_103.out; have hcz33_0 : w31.cell? ⟨gb103, 0, none⟩ = some (.int .i64 0) := (blk_cell BK103.out 0).trans rfl; have hcz33_1 : w31.cell? ⟨gb103, 1, none⟩ = some (.int .i64 0) := (blk_cell BK103.out 1).trans rfl; have hfz33_0 := blk_frozen BK103.out 0; have hfz33_1 := blk_frozen BK103.out 1; have hcz34_0 : w31.cell? ⟨gb101, 0, none⟩ = some (.int .i64 a0_0) := (blk_cell BK101.out 0).trans rfl; have hcz34_1 : w31.cell? ⟨gb101, 1, none⟩ = some (.slice (some ad102) l0_1.length c0_1) := (blk_cell BK101.out 1).trans rfl; have hfz34_0 := blk_frozen BK101.out 0; have hfz34_1 := blk_frozen BK101.out 1))
            go_ret
            exact ⟨byE, byB2 HB.out GE101.out GE103.out⟩
           ·rw [if_neg c29] at H
            have c29b0 : decide (a0_0 ≤ ((rd_T58 l0_1 x3_2).f1)) = false := decide_eq_false c29
            clear c29
            have H' := Aside0.mk H
            clear H
            have hcz35_0 : wr.cell? ⟨gb101, 0, none⟩ = some (.int .i64 a0_0) := (blk_cell BK101.out 0).trans rfl
            have hcz35_1 : wr.cell? ⟨gb101, 1, none⟩ = some (.slice A0_1 l0_1.length c0_1) := (blk_cell BK101.out 1).trans rfl
            have hfz35_0 := blk_frozen BK101.out 0; have hfz35_1 := blk_frozen BK101.out 1
            have p102 : 0 ≤ (x3_2 : Int) := odt
            have q102 : x3_2 < (l0_1.length : Int) := odt
            obtain ⟨ad102, e102, hx102_0, hx102_1⟩ := at_T58 HR0_1.out x3_2 p102 q102
            cases e102
            replace hx102_0 := (HB.out.cell (World.block_lt_of_cell? w _ hx102_0)).trans hx102_0
            replace hx102_1 := (HB.out.cell (World.block_lt_of_cell? w _ hx102_1)).trans hx102_1
            replace p102 := eq_true p102; replace q102 := eq_true q102
            go_wp2_with (first | ((with_reducible refine gate_dst (N := 4) rfl ?_); (try (refine gate_guard (by rfl) ?_; dsimp only)); refine box_event ?hg (N := 4) ?hd (cs := #[.int .i64 0, .int .i64 0]) (t := 58) ?hr ?_; (case hd => rfl); (case hg => rfl); (case hr => first | (go_simp; done) | (go_simp; rfl)); intro gb103 hg w36 hbox hb; have n0_ := Aside0.mk (blk_below (g := gb101) (o := .cells #[.int .i64 a0_0, .slice (some ad102) l0_1.length c0_1] 24 (0, 0)) (byK BK101.out) hb); have n1_ := Aside0.mk (below_step (byB1 HB.out GE101.out) hb); have n2_ := Aside0.mk (hbox); have n3_ := Aside0.mk ((by rw [hg]; exact (below_size (byB1 HB.out GE101.out)) : w.heap.size ≤ gb103)); have n4_ := Aside0.mk ((by rw [hg]; exact (below_size (byB1 HB.out GE101.out)) : w.heap.size ≤ gb103)); have n5_ := Aside0.mk ((by rw [hg]; exact Nat.ne_of_lt (blk_lt (g := gb101) (o := .cells #[.int .i64 a0_0, .slice (some ad102) l0_1.length c0_1] 24 (0, 0)) (byK BK101.out)) : gb101 ≠ gb103)); have n6_ := Aside0.mk ((by rw [hg]; exact Nat.ne_of_gt (blk_lt (g := gb101) (o := .cells #[.int .i64 a0_0, .slice (some ad102) l0_1.length c0_1] 24 (0, 0)) (byK BK101.out)) : gb103 ≠ gb101)); clear BK101 HB; have BK101 := n0_; have HB := n1_; have BK103 := n2_; have GW103 := n3_; have GE103 := n4_; have NB101_103 := n5_; have NB103_101 := n6_; clear n0_ n1_ n2_ n3_ n4_ n5_ n6_ hb hbox hg; have hnb37 := NB103_101.out; have hnc37 := NB101_103.out; have hcz38_0 : w36.cell? ⟨gb103, 0, none⟩ = some (.int .i64 0) := (blk_cell BK103.out 0).trans rfl; have hcz38_1 : w36.cell? ⟨gb103, 1, none⟩ = some (.int .i64 0) := (blk_cell BK103.out 1).trans rfl; have hfz38_0 := blk_frozen BK103.out 0; have hfz38_1 := blk_frozen BK103.out 1; have hcz39_0 : w36.cell? ⟨gb101, 0, none⟩ = some (.int .i64 a0_0) := (blk_cell BK101.out 0).trans rfl; have hcz39_1 : w36.cell? ⟨gb101, 1, none⟩ = some (.slice (some ad102) l0_1.length c0_1) := (blk_cell BK101.out 1).trans rfl; have hfz39_0 := blk_frozen BK101.out 0; have hfz39_1 := blk_frozen BK101.out 1))
            go_roundg k2
            case measure => have := HJ1.out; have := HK2.out; omega
            case rel => exact ⟨(wrap64 (x3_2 + 1)), byF, H', ⟨by have := HJ1.out; have := HK2.out; omega⟩, ⟨by (with_reducible repeat (first | refine blk_drewN ?_ _ | refine blk_drew ?_ | refine blk_alloc ?_ _)); refine blk_far ?_ NB101_103.out _; (with_reducible repeat (first | refine blk_drewN ?_ _ | refine blk_drew ?_ | refine blk_alloc ?_ _)); refine blk_far ?_ NB101_103.out _; (with_reducible repeat (first | refine blk_drewN ?_ _ | refine blk_drew ?_ | refine blk_alloc ?_ _)); exact BK101.out⟩, ⟨byB2 HB.out GE101.out GE103.out⟩⟩
       ·rw [if_neg c11] at H
        exact absurd H (by simp)
      ·rw [if_neg c10] at H
       have c10b0 : decide (x3_2 < (l0_1.length : Int)) = false := decide_eq_false c10
       clear c10
       obtain rfl := Option.some.inj H
       have hcz40_0 : wr.cell? ⟨gb101, 0, none⟩ = some (.int .i64 a0_0) := (blk_cell BK101.out 0).trans rfl
       have hcz40_1 : wr.cell? ⟨gb101, 1, none⟩ = some (.slice A0_1 l0_1.length c0_1) := (blk_cell BK101.out 1).trans rfl
       have hfz40_0 := blk_frozen BK101.out 0; have hfz40_1 := blk_frozen BK101.out 1
       go_wp2
       go_ret
       exact ⟨byE, byB1 HB.out GE101.out⟩
end Go.Proofs.Ytfnophaiamkmpaa.Print
namespace Go.Proofs.Ytfnophaiamkmpaa.Print
open Go.RowKit Go.Proofs.YtfnophaiamkmpaaW.PrintWords Go.Proofs.YtfnophaiamkmpaaW.PrintLast Go.Proofs.YtfnophaiamkmpaaW.PrintMore
set_option linter.unusedVariables false
set_option linter.unusedSimpArgs false
/-! ### Rounds -/
theorem Ev.id {α : Type} {g : Nat → Option α} {r : α} (h : ∀ k, g k = some r) : Ev g r := ⟨0, fun k _ => h k⟩
theorem Ev.step1 {α : Type} {g : Nat → Option α} {r : α} (h : ∀ k, g (k + 1) = some r) : Ev g r := ⟨1, fun k hk => by obtain ⟨m, rfl⟩ : ∃ m, k = m + 1 := ⟨k - 1, by omega⟩; exact h m⟩
theorem wrap_succ {n : Nat} (h : n < 1000000000000000) : wrap64 ((n : Int) + 1) = ((n + 1 : Nat) : Int) := by unfold wrap64; omega
/-! ### Check -/
def okArc (N : Int) (a : S58) : Bool := decide (0 ≤ a.f0) && decide (a.f0 < N) && decide (0 ≤ a.f1) && decide (a.f1 < N)
def chkL (N : Int) (l : List S58) : Int := if l.all (okArc N) then 0 else 2
def chk (N : Int) (l : List S58) : Int := if N < 0 ∨ N > 1048576 ∨ (l.length : Int) > 4194304 then 5 else chkL N l
theorem rd_arc (l : List S58) (j : Nat) (h : j < l.length) : rd_T58 l (j : Int) = l[j] := by
 unfold rd_T58
 simp [List.getD_eq_getElem?_getD, List.getElem?_eq_getElem h]
theorem chkL_drop {N : Int} {l : List S58} {j : Nat} (h : j < l.length) : chkL N (l.drop j) = if l[j].f0 < 0 then 2 else if l[j].f0 ≥ N then 2 else if l[j].f1 < 0 then 2 else if l[j].f1 ≥ N then 2 else chkL N (l.drop (j + 1)) := by
 rw [List.drop_eq_getElem_cons h]
 unfold chkL
 rw [List.all_cons]
 unfold okArc
 by_cases h1 : l[j].f0 < 0
 ·rw [if_pos h1]
  have : ¬ 0 ≤ l[j].f0 := by omega
  simp [this]
 ·rw [if_neg h1]
  have h1' : 0 ≤ l[j].f0 := by omega
  by_cases h2 : l[j].f0 ≥ N
  ·rw [if_pos h2]
   have : ¬ l[j].f0 < N := by omega
   simp [this]
  ·rw [if_neg h2]
   have h2' : l[j].f0 < N := by omega
   by_cases h3 : l[j].f1 < 0
   ·rw [if_pos h3]
    have : ¬ 0 ≤ l[j].f1 := by omega
    simp [this]
   ·rw [if_neg h3]
    have h3' : 0 ≤ l[j].f1 := by omega
    by_cases h4 : l[j].f1 ≥ N
    ·rw [if_pos h4]
     have : ¬ l[j].f1 < N := by omega
     simp [this]
    ·rw [if_neg h4]
     have h4' : l[j].f1 < N := by omega
     simp [h1', h2', h3', h4']
theorem check_l0 (N : Int) (l : List S58) (hl : l.length < 1000000000000) : ∀ d j : Nat, j + d = l.length → Ev (fun k => graph_Check.l0 k l (l.length : Int) (j : Int) N l) (chkL N (l.drop j))
 | 0, j, h => by
  have hj : j = l.length := by omega
  rw [hj, List.drop_length]
  refine Ev.step1 fun k => ?_
  simp only [graph_Check.l0]
  rw [if_neg (by omega)]
  rfl
 | d + 1, j, h => by
  have hj : j < l.length := by omega
  have ih := check_l0 N l hl d (j + 1) (by omega)
  rw [chkL_drop hj]
  by_cases h1 : l[j].f0 < 0
  ·rw [if_pos h1]
   refine Ev.step1 fun k => ?_
   simp only [graph_Check.l0]
   rw [if_pos (by omega), if_pos (by omega), if_pos (by omega), rd_arc l j hj, if_pos h1]
  ·by_cases h2 : l[j].f0 ≥ N
   ·rw [if_neg h1, if_pos h2]
    refine Ev.step1 fun k => ?_
    simp only [graph_Check.l0]
    rw [if_pos (by omega), if_pos (by omega), if_pos (by omega), rd_arc l j hj, if_neg h1, if_pos h2]
   ·by_cases h3 : l[j].f1 < 0
    ·rw [if_neg h1, if_neg h2, if_pos h3]
     refine Ev.step1 fun k => ?_
     simp only [graph_Check.l0]
     rw [if_pos (by omega), if_pos (by omega), if_pos (by omega), rd_arc l j hj, if_neg h1, if_neg h2, if_pos h3]
    ·by_cases h4 : l[j].f1 ≥ N
     ·rw [if_neg h1, if_neg h2, if_neg h3, if_pos h4]
      refine Ev.step1 fun k => ?_
      simp only [graph_Check.l0]
      rw [if_pos (by omega), if_pos (by omega), if_pos (by omega), rd_arc l j hj, if_neg h1, if_neg h2, if_neg h3, if_pos h4]
     ·rw [if_neg h1, if_neg h2, if_neg h3, if_neg h4]
      refine Ev.step (fun k => ?_) ih
      simp only [graph_Check.l0]
      rw [if_pos (by omega), if_pos (by omega), if_pos (by omega), rd_arc l j hj, if_neg h1, if_neg h2, if_neg h3, if_neg h4, wrap_succ (by omega)]
theorem graph_Check.ev (N : Int) (l : List S58) (hl : l.length < 1000000000000) : Ev (fun k => graph_Check.f k N l) (chk N l) := by
 unfold graph_Check.f chk
 by_cases h1 : N < 0
 ·simp only [if_pos h1, if_pos (show N < 0 ∨ N > 1048576 ∨ (l.length : Int) > 4194304 from .inl h1)]
  exact Ev.step1 fun k => by simp only [graph_Check.j0]; rfl
 ·by_cases h2 : N > 1048576
  ·simp only [if_neg h1, if_pos h2, if_pos (show N < 0 ∨ N > 1048576 ∨ (l.length : Int) > 4194304 from .inr (.inl h2))]
   exact Ev.step1 fun k => by simp only [graph_Check.j0]; rfl
  ·by_cases h3 : (l.length : Int) > 4194304
   ·simp only [if_neg h1, if_neg h2, if_pos (show N < 0 ∨ N > 1048576 ∨ (l.length : Int) > 4194304 from .inr (.inr h3)), decide_eq_true h3]
    exact Ev.step1 fun k => by simp only [graph_Check.j0]; rfl
   ·have hn : ¬ (N < 0 ∨ N > 1048576 ∨ (l.length : Int) > 4194304) := by omega
    simp only [if_neg h1, if_neg h2, if_neg hn, decide_eq_false h3]
    refine Ev.step (fun k => ?_) (check_l0 N l hl l.length 0 (by omega))
    simp only [graph_Check.j0]
    rfl
theorem rcheck_l0 (N : Int) (l : List S58) (hl : l.length < 1000000000000) : ∀ d j : Nat, j + d = l.length → Ev (fun k => mapmakerref37_Check.l0 k (j : Int) N l) (chkL N (l.drop j))
 | 0, j, h => by
  have hj : j = l.length := by omega
  rw [hj, List.drop_length]
  refine Ev.step1 fun k => ?_
  simp only [mapmakerref37_Check.l0]
  rw [if_neg (by omega)]
  rfl
 | d + 1, j, h => by
  have hj : j < l.length := by omega
  have ih := rcheck_l0 N l hl d (j + 1) (by omega)
  rw [chkL_drop hj]
  by_cases h1 : l[j].f0 < 0
  ·rw [if_pos h1]
   refine Ev.step1 fun k => ?_
   simp only [mapmakerref37_Check.l0]
   rw [if_pos (by omega), if_pos (by omega), rd_arc l j hj, if_pos h1]
  ·by_cases h2 : l[j].f0 ≥ N
   ·rw [if_neg h1, if_pos h2]
    refine Ev.step1 fun k => ?_
    simp only [mapmakerref37_Check.l0]
    rw [if_pos (by omega), if_pos (by omega), rd_arc l j hj, if_neg h1, if_pos h2]
   ·by_cases h3 : l[j].f1 < 0
    ·rw [if_neg h1, if_neg h2, if_pos h3]
     refine Ev.step1 fun k => ?_
     simp only [mapmakerref37_Check.l0]
     rw [if_pos (by omega), if_pos (by omega), rd_arc l j hj, if_neg h1, if_neg h2, if_pos h3]
    ·by_cases h4 : l[j].f1 ≥ N
     ·rw [if_neg h1, if_neg h2, if_neg h3, if_pos h4]
      refine Ev.step1 fun k => ?_
      simp only [mapmakerref37_Check.l0]
      rw [if_pos (by omega), if_pos (by omega), rd_arc l j hj, if_neg h1, if_neg h2, if_neg h3, if_pos h4]
     ·rw [if_neg h1, if_neg h2, if_neg h3, if_neg h4]
      refine Ev.step (fun k => ?_) ih
      simp only [mapmakerref37_Check.l0]
      rw [if_pos (by omega), if_pos (by omega), rd_arc l j hj, if_neg h1, if_neg h2, if_neg h3, if_neg h4, wrap_succ (by omega)]
theorem mapmakerref37_Check.ev (N : Int) (l : List S58) (hl : l.length < 1000000000000) : Ev (fun k => mapmakerref37_Check.f k N l) (chk N l) := by
 unfold mapmakerref37_Check.f chk
 by_cases h1 : N < 0
 ·simp only [if_pos h1, if_pos (show N < 0 ∨ N > 1048576 ∨ (l.length : Int) > 4194304 from .inl h1)]
  exact Ev.step1 fun k => by simp only [mapmakerref37_Check.j0]; rfl
 ·by_cases h2 : N > 1048576
  ·simp only [if_neg h1, if_pos h2, if_pos (show N < 0 ∨ N > 1048576 ∨ (l.length : Int) > 4194304 from .inr (.inl h2))]
   exact Ev.step1 fun k => by simp only [mapmakerref37_Check.j0]; rfl
  ·by_cases h3 : (l.length : Int) > 4194304
   ·simp only [if_neg h1, if_neg h2, if_pos (show N < 0 ∨ N > 1048576 ∨ (l.length : Int) > 4194304 from .inr (.inr h3)), decide_eq_true h3]
    exact Ev.step1 fun k => by simp only [mapmakerref37_Check.j0]; rfl
   ·have hn : ¬ (N < 0 ∨ N > 1048576 ∨ (l.length : Int) > 4194304) := by omega
    simp only [if_neg h1, if_neg h2, if_neg hn, decide_eq_false h3]
    refine Ev.step (fun k => ?_) (rcheck_l0 N l hl l.length 0 (by omega))
    simp only [mapmakerref37_Check.j0]
    rfl
theorem rd_int (l : List Int) (j : Nat) (h : j < l.length) : rd l (j : Int) = l[j] := by
 unfold rd
 simp [List.getD_eq_getElem?_getD, List.getElem?_eq_getElem h]
theorem rd_row (l : List (List Int)) (j : Nat) (h : j < l.length) : rd_L3 l (j : Int) = l[j] := by
 unfold rd_L3
 simp [List.getD_eq_getElem?_getD, List.getElem?_eq_getElem h]
theorem getD_arc (l : List S58) (j : Nat) (h : j < l.length) : l.getD j z58 = l[j] := by simp [List.getD_eq_getElem?_getD, List.getElem?_eq_getElem h]
theorem chk_ok {N : Int} {l : List S58} (h : chk N l = 0) : 0 ≤ N ∧ N ≤ 1048576 ∧ ∀ (j : Nat) (hj : j < l.length), 0 ≤ l[j].f0 ∧ l[j].f0 < N ∧ 0 ≤ l[j].f1 ∧ l[j].f1 < N := by
 unfold chk at h
 split at h
 ·cases h
 ·rename_i h1
  refine ⟨by omega, by omega, fun j hj => ?_⟩
  unfold chkL at h
  split at h
  ·rename_i h2
   have := List.all_eq_true.1 h2 _ (List.getElem_mem hj)
   unfold okArc at this
   simp only [Bool.and_eq_true, decide_eq_true_eq] at this
   exact ⟨this.1.1.1, this.1.1.2, this.1.2, this.2⟩
  ·cases h
end Go.Proofs.Ytfnophaiamkmpaa.Print
