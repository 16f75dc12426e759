/- Written by a program of this claim's author (xprint.py, over the kit's print.py): the call of mapmaker/turns.leaving comes to what the Lean function of its name says. -/
import Derived.Test.YtaodlehnfjalnaaPrint0
import Derived.Test.YtaodlehnfjalnaaM0
namespace Go.Proofs.Ytaodlehnfjalnaa.Print
open Go.RowKit Go.Proofs.YtaodlehnfjalnaaW.PrintWords Go.Proofs.YtaodlehnfjalnaaW.PrintLast Go.Proofs.YtaodlehnfjalnaaW.PrintMore
attribute [local go_sem] max2_int min2_int max_two min_two max_three min_three max_four min_four   -- for this text's walks alone
set_option linter.unusedVariables false
set_option linter.unusedSimpArgs false
/-! ### turns_leaving: function 38 -/
def turns_leaving.l0 : Nat → List (List Int) → List (S58) → Int → Int → Option ((List (List Int)))
 | 0, _, _, _, _ => none
 | k + 1, x9, x11, x12, x13 => if x13 < x12 then (if 0 ≤ x13 then (if x13 < (x11.length : Int) then (if 0 ≤ ((rd_T58 x11 x13).f0) then (if ((rd_T58 x11 x13).f0) < (x9.length : Int) then (if (rd_L6 x9 ((rd_T58 x11 x13).f0)).length < 17592186044416 then (turns_leaving.l0 k (x9.set (((rd_T58 x11 x13).f0) : Int).toNat ((rd_L6 x9 ((rd_T58 x11 x13).f0)) ++ [x13])) x11 x12 (wrap64 (x13 + 1))) else (none)) else (none)) else (none)) else (none)) else (none)) else (some x9)
def turns_leaving.f (k : Nat) (l0_0 : List Int) (l0_1 : List (S158)) (l0_2 : List (S58)) : Option ((List (List Int))) := if 0 ≤ (l0_0.length : Int) then (if ((l0_0.length : Int) : Int).toNat ≤ 11728124029610 then (turns_leaving.l0 k (List.replicate ((l0_0.length : Int) : Int).toNat []) l0_2 (l0_2.length : Int) 0) else (none)) else (none)
def turns_leaving.T5 : Bool × List (List Nat × List Nat) := (true, [([], []), ([], []), ([1], [1]), ([], []), ([], []), ([4], [4]), ([3, 5], [3, 5]), ([6], [6]), ([], []), ([8], [8]), ([7, 9], [7, 9]), ([0, 2, 0, 1, 2, 3, 4, 5, 6, 7, 8, 9, 10], [0, 2]), ([11, 10, 10, 0, 1, 2, 3, 4, 5, 6, 7, 8, 9, 10], [10, 11])])
def turns_leaving.B5 : List Nat := [0, 0, 2, 0, 0, 16, 56, 120, 0, 256, 1016, 2047, 4095]
theorem turns_leaving.tab5 : rtab .any (opsOf Try.f38 5) = turns_leaving.T5 := by kernel_rfl
theorem turns_leaving.bits5 : waitsOk turns_leaving.T5.2 turns_leaving.B5 = true := by kernel_rfl
set_option maxHeartbeats 8000000 in
set_option maxRecDepth 100000 in
theorem turns_leaving.calls (k : Nat) (A0_0 : Option Addr) (c0_0 : Nat) (l0_0 : List Int) (A0_1 : Option Addr) (c0_1 : Nat) (l0_1 : List (S158)) (A0_2 : Option Addr) (c0_2 : Nat) (l0_2 : List (S58)) (r : List (List Int)) (w : World) (hr0_0 : Kd.C (Kd.int .i64) w A0_0 l0_0.length l0_0) (hc0_0 : l0_0.length ≤ c0_0) (hr0_1 : Kd.C k158 w A0_1 l0_1.length l0_1) (hc0_1 : l0_1.length ≤ c0_1) (hr0_2 : Kd.C k58 w A0_2 l0_2.length l0_2) (hc0_2 : l0_2.length ≤ c0_2) (h : turns_leaving.f k l0_0 l0_1 l0_2 = some r) :
  Calls Try.prog 38 #[.agg #[.slice A0_0 l0_0.length c0_0, .slice A0_1 l0_1.length c0_1, .slice A0_2 l0_2.length c0_2]] w fun e w' => ∃ v0_ : Value, e = .returned (v0_) ∧ Kd.S (Kd.slice 3 (Kd.int .i64)) 33 w' w.heap.size (fun _ => True) v0_ r ∧ Below w.heap.size w w' := by
 have hu37 := Try.underlying37; have hu58 := Try.underlying58; have HR0_0 := Aside0.mk hr0_0; have HC0_0 := Aside0.mk hc0_0; clear hr0_0 hc0_0; have HR0_1 := Aside0.mk hr0_1; have HC0_1 := Aside0.mk hc0_1; clear hr0_1 hc0_1; have HR0_2 := Aside0.mk hr0_2; have HC0_2 := Aside0.mk hc0_2; clear hr0_2 hc0_2; have HB := Aside0.mk (Below.refl w.heap.size w)
 have H : (if 0 ≤ (l0_0.length : Int) then (if ((l0_0.length : Int) : Int).toNat ≤ 11728124029610 then (turns_leaving.l0 k (List.replicate ((l0_0.length : Int) : Int).toNat []) l0_2 (l0_2.length : Int) 0) else (none)) else (none)) = some r := h
 clear h
 by_cases c2 : 0 ≤ (l0_0.length : Int)
 ·rw [if_pos c2] at H
  have c2b0 := eq_true c2
  have c2b1 : decide (0 ≤ (l0_0.length : Int)) = true := decide_eq_true c2
  clear c2
  by_cases c3 : ((l0_0.length : Int) : Int).toNat ≤ 11728124029610
  ·rw [if_pos c3] at H
   have c3b0 := eq_true c3
   have c3b1 : decide (((l0_0.length : Int) : Int).toNat ≤ 11728124029610) = true := decide_eq_true c3
   clear c3
   obtain ⟨y391, hy391⟩ : ∃ y_ : List (List Int), y_ = (List.replicate ((l0_0.length : Int) : Int).toNat []) := ⟨_, rfl⟩
   replace H : (turns_leaving.l0 k y391 l0_2 (l0_2.length : Int) 0) = some r := by first | (rw [hy391]; with_reducible exact H) | (have H2_ := (Option.bind_some _ _).symm.trans H; rw [hy391]; with_reducible exact H2_) | (have H2_ := (Option.bind_some _ _).symm.trans H; with_reducible exact H2_) | with_reducible exact H | (rw [hy391]; exact H) | exact H
   have Ny391 := Aside0.mk hy391; clear hy391
   have H' := Aside0.mk H
   clear H
   go_enter Try.func38, Try.ntmps38
   go_wp2_with (first | ((with_reducible refine gate_dst (N := 1) rfl ?_); refine box_event ?hg (N := 1) ?hd (cs := #[.slice A0_0 l0_0.length c0_0, .slice A0_1 l0_1.length c0_1, .slice A0_2 l0_2.length c0_2]) (t := 37) ?hr ?_; (case hd => rfl); (case hg => rfl); (case hr => first | (go_simp; done) | (go_simp; rfl)); intro gb390 hg w4 hbox hb; have n0_ := Aside0.mk (below_step (byB HB.out) hb); have n1_ := Aside0.mk (hbox); have n2_ := Aside0.mk ((by rw [hg]; exact (below_size (byB HB.out)) : w.heap.size ≤ gb390)); have n3_ := Aside0.mk ((by rw [hg]; exact (below_size (byB HB.out)) : w.heap.size ≤ gb390)); clear HB; have HB := n0_; have BK390 := n1_; have GW390 := n2_; have GE390 := n3_; clear n0_ n1_ n2_ n3_ hb hbox hg; have hcz5_0 : w4.cell? ⟨gb390, 0, none⟩ = some (.slice A0_0 l0_0.length c0_0) := (blk_cell BK390.out 0).trans rfl; have hcz5_1 : w4.cell? ⟨gb390, 1, none⟩ = some (.slice A0_1 l0_1.length c0_1) := (blk_cell BK390.out 1).trans rfl; have hcz5_2 : w4.cell? ⟨gb390, 2, none⟩ = some (.slice A0_2 l0_2.length c0_2) := (blk_cell BK390.out 2).trans rfl; have hfz5_0 := blk_frozen BK390.out 0; have hfz5_1 := blk_frozen BK390.out 1; have hfz5_2 := blk_frozen BK390.out 2) | ((with_reducible refine gate_dst (N := 9) rfl ?_); refine Kd.S_make (Kd.slice 3 (Kd.int .i64)) _ 33 rfl (N := 9) rfl 87 _ _ rfl (l0_0.length : Int) rfl rfl Try.underlying87 (.slice none 0 0) 24 info33 rfl (by decide) (by omega) [] (ok := fun _ => True) (okp := fun _ => True) ⟨_, rfl, Kd.R_nil _ _ _ _ _⟩ (fun _ hk => hk) trivial (odt) (Nat.le_trans (Nat.mul_le_mul_right _ (odt : (l0_0.length : Int).toNat ≤ 11728124029610)) (by omega)) (Below.refl _ _) (Nat.le_refl _) ?_; intro v392 w6 ho7 hb hg_ hnew_; clear hg_ hnew_; (first | rw [← Ny391.out] at ho7 | (simp only [Int.reduceToNat] at ho7; rw [← Ny391.out] at ho7)); have n0_ := Aside0.mk (Kd.S_lower ho7 (below_size (byB1 HB.out GE390.out))); have n1_ := Aside0.mk (blk_below (g := gb390) (o := .cells #[.slice A0_0 l0_0.length c0_0, .slice A0_1 l0_1.length c0_1, .slice A0_2 l0_2.length c0_2] 37 (0, 0)) (byK BK390.out) hb); have n2_ := Aside0.mk (below_step (byB1 HB.out GE390.out) hb); clear BK390 HB; have HO393 := n0_; have BK390 := n1_; have HB := n2_; clear n0_ n1_ n2_ hb ho7; have hcz8_0 : w6.cell? ⟨gb390, 0, none⟩ = some (.slice A0_0 l0_0.length c0_0) := (blk_cell BK390.out 0).trans rfl; have hcz8_1 : w6.cell? ⟨gb390, 1, none⟩ = some (.slice A0_1 l0_1.length c0_1) := (blk_cell BK390.out 1).trans rfl; have hcz8_2 : w6.cell? ⟨gb390, 2, none⟩ = some (.slice A0_2 l0_2.length c0_2) := (blk_cell BK390.out 2).trans rfl; have hfz8_0 := blk_frozen BK390.out 0; have hfz8_1 := blk_frozen BK390.out 1; have hfz8_2 := blk_frozen BK390.out 2))
   go_loopg [13] k (fun kq v13 w' => ∃ (x9_1 : List (List Int)) (x13_1 : Int), v13 = .int .i64 x13_1 ∧ Aside0 (turns_leaving.l0 kq x9_1 l0_2 (l0_2.length : Int) x13_1 = some r) ∧ Aside0 (kq ≤ k) ∧ Aside0 (Kd.S (Kd.slice 3 (Kd.int .i64)) 33 w' w.heap.size (fun _ => True) v392 x9_1) ∧ Aside0 (w'.heap[gb390]? = some (.cells #[(.slice A0_0 l0_0.length c0_0), (.slice A0_1 l0_1.length c0_1), (.slice A0_2 l0_2.length c0_2)] 37 (0, 0))) ∧ Aside0 (Below w.heap.size w w'))
   case atStart => exact ⟨(y391), (0), byF, H', ⟨Nat.le_refl _⟩, ⟨by (with_reducible repeat (first | apply Kd.S_alloc | apply Kd.S_drewN | apply Kd.S_drew)); exact HO393.out⟩, ⟨by (with_reducible repeat (first | refine blk_drewN ?_ _ | refine blk_drew ?_ | refine blk_alloc ?_ _)); exact BK390.out⟩, ⟨byB1 HB.out GE390.out⟩⟩
   case round =>
    clear H'
    try clear c2
    try clear c2b0
    try clear c2b1
    try clear p2
    try clear c3
    try clear c3b0
    try clear c3b1
    try clear hcz5_0
    try clear hcz5_1
    try clear hcz5_2
    try clear hcz8_0
    try clear hcz8_1
    try clear hcz8_2
    try clear hfz5_0
    try clear hfz5_1
    try clear hfz5_2
    try clear hfz8_0
    try clear hfz8_1
    try clear hfz8_2
    obtain ⟨x9_1, x13_1, rfl, HA, HK1, HO_9, BK390, HB⟩ := hrel
    cases gk with
    | zero => exact absurd HA.out (by simp [turns_leaving.l0])
    | succ k1 =>
     have H := HA.out; clear HA
     simp only [turns_leaving.l0] at H
     by_cases c9 : x13_1 < (l0_2.length : Int)
     ·rw [if_pos c9] at H
      have c9b0 : decide (x13_1 < (l0_2.length : Int)) = true := decide_eq_true c9
      clear c9
      by_cases c10 : 0 ≤ x13_1
      ·rw [if_pos c10] at H
       have c10b0 : decide (0 ≤ x13_1) = true := decide_eq_true c10
       clear c10
       by_cases c11 : x13_1 < (l0_2.length : Int)
       ·rw [if_pos c11] at H
        have c11b0 : decide (x13_1 < (l0_2.length : Int)) = true := decide_eq_true c11
        clear c11
        by_cases c12 : 0 ≤ ((rd_T58 l0_2 x13_1).f0)
        ·rw [if_pos c12] at H
         have c12b0 : decide (0 ≤ ((rd_T58 l0_2 x13_1).f0)) = true := decide_eq_true c12
         clear c12
         by_cases c13 : ((rd_T58 l0_2 x13_1).f0) < (x9_1.length : Int)
         ·rw [if_pos c13] at H
          have c13b0 : decide (((rd_T58 l0_2 x13_1).f0) < (x9_1.length : Int)) = true := decide_eq_true c13
          clear c13
          by_cases c14 : (rd_L6 x9_1 ((rd_T58 l0_2 x13_1).f0)).length < 17592186044416
          ·rw [if_pos c14] at H
           have LMc14 := Aside0.mk c14; clear c14
           obtain ⟨y397, hy397⟩ : ∃ y_ : List Int, y_ = ((rd_L6 x9_1 ((rd_T58 l0_2 x13_1).f0)) ++ [x13_1]) := ⟨_, rfl⟩
           replace H : (turns_leaving.l0 k1 (x9_1.set (((rd_T58 l0_2 x13_1).f0) : Int).toNat y397) l0_2 (l0_2.length : Int) (wrap64 (x13_1 + 1))) = some r := by first | (rw [hy397]; with_reducible exact H) | (have H2_ := (Option.bind_some _ _).symm.trans H; rw [hy397]; with_reducible exact H2_) | (have H2_ := (Option.bind_some _ _).symm.trans H; with_reducible exact H2_) | with_reducible exact H | (rw [hy397]; exact H) | exact H
           have Ny397 := Aside0.mk hy397; clear hy397
           obtain ⟨y400, hy400⟩ : ∃ y_ : List (List Int), y_ = (x9_1.set (((rd_T58 l0_2 x13_1).f0) : Int).toNat y397) := ⟨_, rfl⟩
           replace H : (turns_leaving.l0 k1 y400 l0_2 (l0_2.length : Int) (wrap64 (x13_1 + 1))) = some r := by first | (rw [hy400]; with_reducible exact H) | (have H2_ := (Option.bind_some _ _).symm.trans H; rw [hy400]; with_reducible exact H2_) | (have H2_ := (Option.bind_some _ _).symm.trans H; with_reducible exact H2_) | with_reducible exact H | (rw [hy400]; exact H) | exact H
           have Ny400 := Aside0.mk hy400; clear hy400
           have H' := Aside0.mk H
           clear H
           have p394 : 0 ≤ (x13_1 : Int) := odt
           have q394 : x13_1 < (l0_2.length : Int) := odt
           obtain ⟨ad394, A394_5, c394_5, e394, hx394_0, hx394_1, hx394_2, hx394_3, hx394_4, hx394_5, hx394_6, hx394_7, hl394_5, hi394_5⟩ := at_T58 HR0_2.out x13_1 p394 q394
           cases e394
           replace hx394_0 := (HB.out.cell (World.block_lt_of_cell? w _ hx394_0)).trans hx394_0
           replace hx394_1 := (HB.out.cell (World.block_lt_of_cell? w _ hx394_1)).trans hx394_1
           replace hx394_2 := (HB.out.cell (World.block_lt_of_cell? w _ hx394_2)).trans hx394_2
           replace hx394_3 := (HB.out.cell (World.block_lt_of_cell? w _ hx394_3)).trans hx394_3
           replace hx394_4 := (HB.out.cell (World.block_lt_of_cell? w _ hx394_4)).trans hx394_4
           replace hx394_5 := (HB.out.cell (World.block_lt_of_cell? w _ hx394_5)).trans hx394_5
           replace hx394_6 := (HB.out.cell (World.block_lt_of_cell? w _ hx394_6)).trans hx394_6
           replace hx394_7 := (HB.out.cell (World.block_lt_of_cell? w _ hx394_7)).trans hx394_7
           have HR394_5 := Aside0.mk hi394_5; have HC394_5 := Aside0.mk hl394_5; clear hi394_5 hl394_5; replace p394 := eq_true p394; replace q394 := eq_true q394
           try go_wp2_with (first | ((with_reducible refine gate_dst (N := 5) rfl ?_); refine box_event ?hg (N := 5) ?hd (cs := #[.int .i64 0, .int .i64 0, .int .i64 0, .int .i64 0, .int .i64 0, .slice none 0 0, .int .i64 0, .int .i64 0]) (t := 58) ?hr ?_; (case hd => rfl); (case hg => rfl); (case hr => first | (go_simp; done) | (go_simp; rfl)); intro gb395 hg w16 hbox hb; have n0_ := Aside0.mk (Kd.S_below (byS HO_9.out) hb); have n1_ := Aside0.mk (blk_below (g := gb390) (o := .cells #[.slice A0_0 l0_0.length c0_0, .slice A0_1 l0_1.length c0_1, .slice (some ad394) l0_2.length c0_2] 37 (0, 0)) (byK BK390.out) hb); have n2_ := Aside0.mk (below_step (byB1 HB.out GE390.out) hb); have n3_ := Aside0.mk (hbox); have n4_ := Aside0.mk ((by rw [hg]; exact (below_size (byB1 HB.out GE390.out)) : w.heap.size ≤ gb395)); have n5_ := Aside0.mk ((by rw [hg]; exact (below_size (byB1 HB.out GE390.out)) : w.heap.size ≤ gb395)); have n6_ := Aside0.mk ((by rw [hg]; exact Nat.ne_of_lt (blk_lt (g := gb390) (o := .cells #[.slice A0_0 l0_0.length c0_0, .slice A0_1 l0_1.length c0_1, .slice (some ad394) l0_2.length c0_2] 37 (0, 0)) (byK BK390.out)) : gb390 ≠ gb395)); have n7_ := Aside0.mk ((by rw [hg]; exact Nat.ne_of_gt (blk_lt (g := gb390) (o := .cells #[.slice A0_0 l0_0.length c0_0, .slice A0_1 l0_1.length c0_1, .slice (some ad394) l0_2.length c0_2] 37 (0, 0)) (byK BK390.out)) : gb395 ≠ gb390)); clear HO_9 BK390 HB; have HO_9 := n0_; have BK390 := n1_; have HB := n2_; have BK395 := n3_; have GW395 := n4_; have GE395 := n5_; have NB390_395 := n6_; have NB395_390 := n7_; clear n0_ n1_ n2_ n3_ n4_ n5_ n6_ n7_ hb hbox hg; have hnb17 := NB395_390.out; have hnc17 := NB390_395.out; have hcz18_0 : w16.cell? ⟨gb395, 0, none⟩ = some (.int .i64 0) := (blk_cell BK395.out 0).trans rfl; have hcz18_1 : w16.cell? ⟨gb395, 1, none⟩ = some (.int .i64 0) := (blk_cell BK395.out 1).trans rfl; have hcz18_2 : w16.cell? ⟨gb395, 2, none⟩ = some (.int .i64 0) := (blk_cell BK395.out 2).trans rfl; have hcz18_3 : w16.cell? ⟨gb395, 3, none⟩ = some (.int .i64 0) := (blk_cell BK395.out 3).trans rfl; have hcz18_4 : w16.cell? ⟨gb395, 4, none⟩ = some (.int .i64 0) := (blk_cell BK395.out 4).trans rfl; have hcz18_5 : w16.cell? ⟨gb395, 5, none⟩ = some (.slice none 0 0) := (blk_cell BK395.out 5).trans rfl; have hcz18_6 : w16.cell? ⟨gb395, 6, none⟩ = some (.int .i64 0) := (blk_cell BK395.out 6).trans rfl; have hcz18_7 : w16.cell? ⟨gb395, 7, none⟩ = some (.int .i64 0) := (blk_cell BK395.out 7).trans rfl; have hfz18_0 := blk_frozen BK395.out 0; have hfz18_1 := blk_frozen BK395.out 1; have hfz18_2 := blk_frozen BK395.out 2; have hfz18_3 := blk_frozen BK395.out 3; have hfz18_4 := blk_frozen BK395.out 4; have hfz18_5 := blk_frozen BK395.out 5; have hfz18_6 := blk_frozen BK395.out 6; have hfz18_7 := blk_frozen BK395.out 7))
           have n0_ : Aside0 (Kd.S (Kd.slice 3 (Kd.int .i64)) 33 ((((((((w16.setCell ⟨gb395, 0, none⟩ (.int .i64 ((rd_T58 l0_2 x13_1).f0))).setCell ⟨gb395, 1, none⟩ (.int .i64 ((rd_T58 l0_2 x13_1).f1))).setCell ⟨gb395, 2, none⟩ (.int .i64 ((rd_T58 l0_2 x13_1).f2))).setCell ⟨gb395, 3, none⟩ (.int .i64 ((rd_T58 l0_2 x13_1).f3))).setCell ⟨gb395, 4, none⟩ (.int .i64 ((rd_T58 l0_2 x13_1).f4))).setCell ⟨gb395, 5, none⟩ (.slice A394_5 ((rd_T58 l0_2 x13_1).f5.f0).length c394_5)).setCell ⟨gb395, 6, none⟩ (.int .i64 ((rd_T58 l0_2 x13_1).f5.f1))).setCell ⟨gb395, 7, none⟩ (.int .i64 ((rd_T58 l0_2 x13_1).f5.f2))) w.heap.size (fun _ => True) v392 x9_1) := ⟨by (with_reducible repeat (first | apply Kd.S_alloc | apply Kd.S_drewN | apply Kd.S_drew)); exact Kd.S_mono (Kd.S_far (p := ⟨gb395, 7, none⟩) (Kd.S_far (p := ⟨gb395, 6, none⟩) (Kd.S_far (p := ⟨gb395, 5, none⟩) (Kd.S_far (p := ⟨gb395, 4, none⟩) (Kd.S_far (p := ⟨gb395, 3, none⟩) (Kd.S_far (p := ⟨gb395, 2, none⟩) (Kd.S_far (p := ⟨gb395, 1, none⟩) (Kd.S_far (p := ⟨gb395, 0, none⟩) (Kd.S_types HO_9.out BK395.out (by decide)) (fun _ hk => hk.2) (.int .i64 ((rd_T58 l0_2 x13_1).f0))) (fun _ hk => hk.2) (.int .i64 ((rd_T58 l0_2 x13_1).f1))) (fun _ hk => hk.2) (.int .i64 ((rd_T58 l0_2 x13_1).f2))) (fun _ hk => hk.2) (.int .i64 ((rd_T58 l0_2 x13_1).f3))) (fun _ hk => hk.2) (.int .i64 ((rd_T58 l0_2 x13_1).f4))) (fun _ hk => hk.2) (.slice A394_5 ((rd_T58 l0_2 x13_1).f5.f0).length c394_5)) (fun _ hk => hk.2) (.int .i64 ((rd_T58 l0_2 x13_1).f5.f1))) (fun _ hk => hk.2) (.int .i64 ((rd_T58 l0_2 x13_1).f5.f2))) (fun _ hk => trivial)⟩
           have n1_ : Aside0 (((((((((w16.setCell ⟨gb395, 0, none⟩ (.int .i64 ((rd_T58 l0_2 x13_1).f0))).setCell ⟨gb395, 1, none⟩ (.int .i64 ((rd_T58 l0_2 x13_1).f1))).setCell ⟨gb395, 2, none⟩ (.int .i64 ((rd_T58 l0_2 x13_1).f2))).setCell ⟨gb395, 3, none⟩ (.int .i64 ((rd_T58 l0_2 x13_1).f3))).setCell ⟨gb395, 4, none⟩ (.int .i64 ((rd_T58 l0_2 x13_1).f4))).setCell ⟨gb395, 5, none⟩ (.slice A394_5 ((rd_T58 l0_2 x13_1).f5.f0).length c394_5)).setCell ⟨gb395, 6, none⟩ (.int .i64 ((rd_T58 l0_2 x13_1).f5.f1))).setCell ⟨gb395, 7, none⟩ (.int .i64 ((rd_T58 l0_2 x13_1).f5.f2))).heap[gb390]? = some (.cells #[.slice A0_0 l0_0.length c0_0, .slice A0_1 l0_1.length c0_1, .slice (some ad394) l0_2.length c0_2] 37 (0, 0))) := ⟨by (with_reducible repeat (first | refine blk_drewN ?_ _ | refine blk_drew ?_ | refine blk_alloc ?_ _)); refine blk_far ?_ NB390_395.out _; (with_reducible repeat (first | refine blk_drewN ?_ _ | refine blk_drew ?_ | refine blk_alloc ?_ _)); refine blk_far ?_ NB390_395.out _; (with_reducible repeat (first | refine blk_drewN ?_ _ | refine blk_drew ?_ | refine blk_alloc ?_ _)); refine blk_far ?_ NB390_395.out _; (with_reducible repeat (first | refine blk_drewN ?_ _ | refine blk_drew ?_ | refine blk_alloc ?_ _)); refine blk_far ?_ NB390_395.out _; (with_reducible repeat (first | refine blk_drewN ?_ _ | refine blk_drew ?_ | refine blk_alloc ?_ _)); refine blk_far ?_ NB390_395.out _; (with_reducible repeat (first | refine blk_drewN ?_ _ | refine blk_drew ?_ | refine blk_alloc ?_ _)); refine blk_far ?_ NB390_395.out _; (with_reducible repeat (first | refine blk_drewN ?_ _ | refine blk_drew ?_ | refine blk_alloc ?_ _)); refine blk_far ?_ NB390_395.out _; (with_reducible repeat (first | refine blk_drewN ?_ _ | refine blk_drew ?_ | refine blk_alloc ?_ _)); refine blk_far ?_ NB390_395.out _; (with_reducible repeat (first | refine blk_drewN ?_ _ | refine blk_drew ?_ | refine blk_alloc ?_ _)); exact BK390.out⟩
           have n2_ : Aside0 (((((((((w16.setCell ⟨gb395, 0, none⟩ (.int .i64 ((rd_T58 l0_2 x13_1).f0))).setCell ⟨gb395, 1, none⟩ (.int .i64 ((rd_T58 l0_2 x13_1).f1))).setCell ⟨gb395, 2, none⟩ (.int .i64 ((rd_T58 l0_2 x13_1).f2))).setCell ⟨gb395, 3, none⟩ (.int .i64 ((rd_T58 l0_2 x13_1).f3))).setCell ⟨gb395, 4, none⟩ (.int .i64 ((rd_T58 l0_2 x13_1).f4))).setCell ⟨gb395, 5, none⟩ (.slice A394_5 ((rd_T58 l0_2 x13_1).f5.f0).length c394_5)).setCell ⟨gb395, 6, none⟩ (.int .i64 ((rd_T58 l0_2 x13_1).f5.f1))).setCell ⟨gb395, 7, none⟩ (.int .i64 ((rd_T58 l0_2 x13_1).f5.f2))).heap[gb395]? = some (.cells #[.int .i64 ((rd_T58 l0_2 x13_1).f0), .int .i64 ((rd_T58 l0_2 x13_1).f1), .int .i64 ((rd_T58 l0_2 x13_1).f2), .int .i64 ((rd_T58 l0_2 x13_1).f3), .int .i64 ((rd_T58 l0_2 x13_1).f4), .slice A394_5 ((rd_T58 l0_2 x13_1).f5.f0).length c394_5, .int .i64 ((rd_T58 l0_2 x13_1).f5.f1), .int .i64 ((rd_T58 l0_2 x13_1).f5.f2)] 58 (0, 0))) := ⟨by (with_reducible repeat (first | refine blk_drewN ?_ _ | refine blk_drew ?_ | refine blk_alloc ?_ _)); refine blk_put (cs := #[.int .i64 ((rd_T58 l0_2 x13_1).f0), .int .i64 ((rd_T58 l0_2 x13_1).f1), .int .i64 ((rd_T58 l0_2 x13_1).f2), .int .i64 ((rd_T58 l0_2 x13_1).f3), .int .i64 ((rd_T58 l0_2 x13_1).f4), .slice A394_5 ((rd_T58 l0_2 x13_1).f5.f0).length c394_5, .int .i64 ((rd_T58 l0_2 x13_1).f5.f1), .int .i64 0]) ?_ 7 _ rfl; (with_reducible repeat (first | refine blk_drewN ?_ _ | refine blk_drew ?_ | refine blk_alloc ?_ _)); refine blk_put (cs := #[.int .i64 ((rd_T58 l0_2 x13_1).f0), .int .i64 ((rd_T58 l0_2 x13_1).f1), .int .i64 ((rd_T58 l0_2 x13_1).f2), .int .i64 ((rd_T58 l0_2 x13_1).f3), .int .i64 ((rd_T58 l0_2 x13_1).f4), .slice A394_5 ((rd_T58 l0_2 x13_1).f5.f0).length c394_5, .int .i64 0, .int .i64 0]) ?_ 6 _ rfl; (with_reducible repeat (first | refine blk_drewN ?_ _ | refine blk_drew ?_ | refine blk_alloc ?_ _)); refine blk_put (cs := #[.int .i64 ((rd_T58 l0_2 x13_1).f0), .int .i64 ((rd_T58 l0_2 x13_1).f1), .int .i64 ((rd_T58 l0_2 x13_1).f2), .int .i64 ((rd_T58 l0_2 x13_1).f3), .int .i64 ((rd_T58 l0_2 x13_1).f4), .slice none 0 0, .int .i64 0, .int .i64 0]) ?_ 5 _ rfl; (with_reducible repeat (first | refine blk_drewN ?_ _ | refine blk_drew ?_ | refine blk_alloc ?_ _)); refine blk_put (cs := #[.int .i64 ((rd_T58 l0_2 x13_1).f0), .int .i64 ((rd_T58 l0_2 x13_1).f1), .int .i64 ((rd_T58 l0_2 x13_1).f2), .int .i64 ((rd_T58 l0_2 x13_1).f3), .int .i64 0, .slice none 0 0, .int .i64 0, .int .i64 0]) ?_ 4 _ rfl; (with_reducible repeat (first | refine blk_drewN ?_ _ | refine blk_drew ?_ | refine blk_alloc ?_ _)); refine blk_put (cs := #[.int .i64 ((rd_T58 l0_2 x13_1).f0), .int .i64 ((rd_T58 l0_2 x13_1).f1), .int .i64 ((rd_T58 l0_2 x13_1).f2), .int .i64 0, .int .i64 0, .slice none 0 0, .int .i64 0, .int .i64 0]) ?_ 3 _ rfl; (with_reducible repeat (first | refine blk_drewN ?_ _ | refine blk_drew ?_ | refine blk_alloc ?_ _)); refine blk_put (cs := #[.int .i64 ((rd_T58 l0_2 x13_1).f0), .int .i64 ((rd_T58 l0_2 x13_1).f1), .int .i64 0, .int .i64 0, .int .i64 0, .slice none 0 0, .int .i64 0, .int .i64 0]) ?_ 2 _ rfl; (with_reducible repeat (first | refine blk_drewN ?_ _ | refine blk_drew ?_ | refine blk_alloc ?_ _)); refine blk_put (cs := #[.int .i64 ((rd_T58 l0_2 x13_1).f0), .int .i64 0, .int .i64 0, .int .i64 0, .int .i64 0, .slice none 0 0, .int .i64 0, .int .i64 0]) ?_ 1 _ rfl; (with_reducible repeat (first | refine blk_drewN ?_ _ | refine blk_drew ?_ | refine blk_alloc ?_ _)); refine blk_put (cs := #[.int .i64 0, .int .i64 0, .int .i64 0, .int .i64 0, .int .i64 0, .slice none 0 0, .int .i64 0, .int .i64 0]) ?_ 0 _ rfl; (with_reducible repeat (first | refine blk_drewN ?_ _ | refine blk_drew ?_ | refine blk_alloc ?_ _)); exact BK395.out⟩
           have n3_ : Aside0 (Below w.heap.size w ((((((((w16.setCell ⟨gb395, 0, none⟩ (.int .i64 ((rd_T58 l0_2 x13_1).f0))).setCell ⟨gb395, 1, none⟩ (.int .i64 ((rd_T58 l0_2 x13_1).f1))).setCell ⟨gb395, 2, none⟩ (.int .i64 ((rd_T58 l0_2 x13_1).f2))).setCell ⟨gb395, 3, none⟩ (.int .i64 ((rd_T58 l0_2 x13_1).f3))).setCell ⟨gb395, 4, none⟩ (.int .i64 ((rd_T58 l0_2 x13_1).f4))).setCell ⟨gb395, 5, none⟩ (.slice A394_5 ((rd_T58 l0_2 x13_1).f5.f0).length c394_5)).setCell ⟨gb395, 6, none⟩ (.int .i64 ((rd_T58 l0_2 x13_1).f5.f1))).setCell ⟨gb395, 7, none⟩ (.int .i64 ((rd_T58 l0_2 x13_1).f5.f2)))) := ⟨byB2 HB.out GE390.out GE395.out⟩
           (try clear HO_9)
           (try clear BK390)
           (try clear BK395)
           (try clear HB)
           generalize ((((((((w16.setCell ⟨gb395, 0, none⟩ (.int .i64 ((rd_T58 l0_2 x13_1).f0))).setCell ⟨gb395, 1, none⟩ (.int .i64 ((rd_T58 l0_2 x13_1).f1))).setCell ⟨gb395, 2, none⟩ (.int .i64 ((rd_T58 l0_2 x13_1).f2))).setCell ⟨gb395, 3, none⟩ (.int .i64 ((rd_T58 l0_2 x13_1).f3))).setCell ⟨gb395, 4, none⟩ (.int .i64 ((rd_T58 l0_2 x13_1).f4))).setCell ⟨gb395, 5, none⟩ (.slice A394_5 ((rd_T58 l0_2 x13_1).f5.f0).length c394_5)).setCell ⟨gb395, 6, none⟩ (.int .i64 ((rd_T58 l0_2 x13_1).f5.f1))).setCell ⟨gb395, 7, none⟩ (.int .i64 ((rd_T58 l0_2 x13_1).f5.f2))) = w19 at n0_ n1_ n2_ n3_ ⊢
           have HO_9 := n0_; have BK390 := n1_; have BK395 := n2_; have HB := n3_; clear n0_ n1_ n2_ n3_; have n0_ := Aside0.mk (Kd.S_drew HO_9.out); have n1_ := Aside0.mk (blk_drew BK390.out); have n2_ := Aside0.mk (blk_drew BK395.out); have n3_ := Aside0.mk (below_drew1 HB.out); clear HO_9 BK390 BK395 HB; have HO_9 := n0_; have BK390 := n1_; have BK395 := n2_; have HB := n3_; clear n0_ n1_ n2_ n3_
           obtain ⟨Ao21, co21, eo21⟩ := Kd.S_slice HO_9.out
           (first | subst eo21 | (injection eo21 with f1_ f2_ f3_; have f4_ := f1_.symm; have f5_ := f3_.symm; clear f1_ f2_ f3_; subst f4_; subst f5_))
           have p396 : 0 ≤ (((rd_T58 l0_2 x13_1).f0) : Int) := odt
           have q396 : ((rd_T58 l0_2 x13_1).f0) < (x9_1.length : Int) := odt
           obtain ⟨ad396, A396_0, c396_0, e396, hx396_0, hl396_0, hi396_0⟩ := at_L6 (Kd.S_reads' HO_9.out).2.2 ((rd_T58 l0_2 x13_1).f0) p396 q396
           cases e396
           obtain ⟨ce396, hce396, hMe396, hcc396⟩ := Kd.S_get HO_9.out [] ((rd_T58 l0_2 x13_1).f0) p396 (by first | exact q396 | exact odt | (have e_ := (Kd.S_reads' HO_9.out).1; omega))
           obtain ⟨ve396_0, rfl, ge396_0⟩ := hMe396
           have hv396_0 := hcc396 0 _ rfl
           rw [Nat.add_zero, show ((Kd.slice 3 (Kd.int .i64))).sz = 1 from rfl, Nat.mul_one] at hv396_0
           replace hv396_0 := Option.some.inj (hv396_0.symm.trans hx396_0)
           rw [hv396_0] at ge396_0
           have HL396_0 := Aside0.mk (show Kd.R (Kd.int .i64) 3 _ _ _ _ (rd_L6 x9_1 ((rd_T58 l0_2 x13_1).f0)) from ge396_0); clear hv396_0 ge396_0; have HX396_0 := Aside0.mk hx396_0; clear hcc396 hce396; have HR396_0 := Aside0.mk hi396_0; have HC396_0 := Aside0.mk hl396_0; clear hi396_0 hl396_0; replace p396 := eq_true p396; replace q396 := eq_true q396
           obtain ⟨go22, co22, eo22, gb22, gl22, cl22, HG22⟩ := Kd.S_form HO_9.out (by have h_ : (((rd_T58 l0_2 x13_1).f0) : Int) < ((x9_1.length : Int) : Int) := odt; have h2_ : 0 ≤ (((rd_T58 l0_2 x13_1).f0) : Int) := (odt); omega)
           (first | cases eo22 | (injection eo22 with ea_ en_ ec_; (first | subst ea_ | (injection ea_ with ea_; subst ea_)); subst ec_; clear en_))
           have GB22 := Aside0.mk gb22; have GG22 := Aside0.mk HG22; clear gb22 gl22 HG22
           (first | simp only [add_plain] at hx396_0 | skip)
           obtain ⟨oki22, ce22, hcl22, hM22, hcc22, _, _, hH22⟩ := Kd.S_elem HO_9.out [] (((rd_T58 l0_2 x13_1).f0) : Int) (odt) (by have h_ : (((rd_T58 l0_2 x13_1).f0) : Int) < ((x9_1.length : Int) : Int) := odt; first | exact h_ | (have e_ := (Kd.S_reads' HO_9.out).1; omega) | simpa using h_)
           obtain ⟨ve22_0, rfl, ge22_0⟩ := hM22
           have hv22 := hcc22 0 _ rfl; have hX22 := HX396_0.out
           (try simp only [add_plain] at hX22)
           (try simp only [Nat.add_zero] at hv22)
           (try rw [show ((Kd.slice 3 (Kd.int .i64))).sz = 1 from rfl, Nat.mul_one] at hv22)
           replace hv22 := Option.some.inj (hv22.symm.trans hX22)
           subst hv22; clear hX22 hcc22 hcl22; have UU22 := Aside0.mk (show Kd.R (Kd.int .i64) 3 _ w.heap.size oki22 (.slice A396_0 (rd_L6 x9_1 ((rd_T58 l0_2 x13_1).f0)).length c396_0) (rd_L6 x9_1 ((rd_T58 l0_2 x13_1).f0)) from ge22_0); have HH22 := Aside0.mk hH22
           have HN22 := Aside0.mk (Kd.S_reads' HO_9.out).1
           clear hH22 ge22_0
           refine start_ (n := 13) (S := fun w' => w'.cell? ⟨gb395, 0, none⟩ = some (.int .i64 ((rd_T58 l0_2 x13_1).f0)) ∧ w'.cell? ⟨gb395, 1, none⟩ = some (.int .i64 ((rd_T58 l0_2 x13_1).f1)) ∧ w'.cell? ⟨gb395, 2, none⟩ = some (.int .i64 ((rd_T58 l0_2 x13_1).f2)) ∧ w'.cell? ⟨gb395, 3, none⟩ = some (.int .i64 ((rd_T58 l0_2 x13_1).f3)) ∧ w'.cell? ⟨gb395, 4, none⟩ = some (.int .i64 ((rd_T58 l0_2 x13_1).f4)) ∧ w'.cell? ⟨gb395, 5, none⟩ = some (.slice A394_5 ((rd_T58 l0_2 x13_1).f5.f0).length c394_5) ∧ w'.cell? ⟨gb395, 6, none⟩ = some (.int .i64 ((rd_T58 l0_2 x13_1).f5.f1)) ∧ w'.cell? ⟨gb395, 7, none⟩ = some (.int .i64 ((rd_T58 l0_2 x13_1).f5.f2)) ∧ w'.cell? ⟨go22, (((rd_T58 l0_2 x13_1).f0)).toNat, none⟩ = some (.slice A396_0 (rd_L6 x9_1 ((rd_T58 l0_2 x13_1).f0)).length c396_0)) (ds := [12]) (bits 13 0) (by kernel_rfl) rfl rfl ⟨(blk_cell BK395.out 0).trans rfl, (blk_cell BK395.out 1).trans rfl, (blk_cell BK395.out 2).trans rfl, (blk_cell BK395.out 3).trans rfl, (blk_cell BK395.out 4).trans rfl, (blk_cell BK395.out 5).trans rfl, (blk_cell BK395.out 6).trans rfl, (blk_cell BK395.out 7).trans rfl, hx396_0⟩ (fun hHeld => ?_); refine with_tabW turns_leaving.tab5 turns_leaving.bits5 (fun HT_ HW_ => ?_)
           generalize w19.drew = w20 at HO_9 BK390 BK395 HB GG22 HH22 HL396_0 HR396_0 HX396_0 UU22 hx396_0 hHeld ⊢
           refine q_ 0 18 HT_ ?_; refine q_ 1 19 HT_ ?_; refine q_ 3 21 HT_ ?_; refine q_ 4 22 HT_ ?_; refine q_ 8 26 HT_ ?_; refine r9_ 2 20 HT_ HW_ hHeld ?_; refine r9_ 5 23 HT_ HW_ hHeld ?_; refine q_ 6 24 HT_ ?_; refine r9_ 7 25 HT_ HW_ hHeld ?_; refine one_ (i := 9) (N := some 27) (bits 13 1023) rfl rfl (one_of HT_.out (by kernel_rfl)) (by decide) (fun K hK => ?_)
           refine value_ (w1 := ?_) (v := ?_) (by rfl) rfl ?_ ?_
           rotate_left 2
           ·go_simp
            constructor
            (·rfl); (·rfl)
           refine hK.out _ _ ⟨(blk_cell (blk_alloc BK395.out _) 0).trans rfl, (blk_cell (blk_alloc BK395.out _) 1).trans rfl, (blk_cell (blk_alloc BK395.out _) 2).trans rfl, (blk_cell (blk_alloc BK395.out _) 3).trans rfl, (blk_cell (blk_alloc BK395.out _) 4).trans rfl, (blk_cell (blk_alloc BK395.out _) 5).trans rfl, (blk_cell (blk_alloc BK395.out _) 6).trans rfl, (blk_cell (blk_alloc BK395.out _) 7).trans rfl, (World.cell?_alloc_lt _ _ _ (World.block_lt_of_cell? _ _ (hHeld.2.2.2.2.2.2.2.2))).trans (hHeld.2.2.2.2.2.2.2.2)⟩ (fun hHeld => ?_)
           clear hK K
           refine norm_ (a' := ?_) ?_ ?_
           rotate_left
           ·show Act.put _ (some 27) _ = _
            simp only [putW]; rfl
           refine one_ (i := 10) (N := some 28) (bits 13 2047) rfl rfl (one_of HT_.out (by kernel_rfl)) (by decide) (fun K hK => ?_)
           refine Kd.R_append_step (Kd.int .i64) (w0 := w) w.heap.size (by rfl) (.tmp 25) (.tmp 27) 33 3 (.int .i64 0) 8 rfl Try.underlying33 info3 rfl (by decide) (by omega) (.slice A396_0 (rd_L6 x9_1 ((rd_T58 l0_2 x13_1).f0)).length c396_0) (rd_L6 x9_1 ((rd_T58 l0_2 x13_1).f0)) x13_1 [.int .i64 x13_1] (fun k_ => oki22 k_ ∨ ((fun _ => True)) k_ ∧ w20.heap.size ≤ k_) (fun _ => False) rfl rfl ?aP (fun _ hk => hk.elim) ?aF ?aO ?aB ?aS ?aL ?_
           (case aP => exact rfl)
           (case aB => exact (byB2 HB.out GE390.out GE395.out))
           (case aF => exact (fun k_ hk => .inr ⟨trivial, hk⟩))
           (case aO => exact (by (with_reducible repeat (first | apply Kd.R_alloc | apply Kd.R_drewN | apply Kd.R_drew)); exact Kd.R_mono UU22.out (fun _ hk => .inl hk)))
           (case aS => exact (below_size (byB2 HB.out GE390.out GE395.out)))
           (case aL => have := LMc14.out; omega)
           intro v398 w23 ho hb hg hat
           (first | have HS8_ := cell_grown hg (hHeld.2.2.2.2.2.2.2.2) (by first | (rw [add_block]; exact (fun e_ => ((HL396_0.out.1 _ e_.symm).2) rfl)) | (show some (Addr.add _ _).block ≠ _; rw [add_block]; exact (fun e_ => ((HL396_0.out.1 _ e_.symm).2) rfl)) | exact (fun e_ => ((HL396_0.out.1 _ e_.symm).2) rfl)) | have HS8_ := cell_grown hg (cell_unalloc (hHeld.2.2.2.2.2.2.2.2) (by first | (rw [add_block]; exact Kd.S_lt HO_9.out _ rfl) | (show (Addr.add _ _).block < _; rw [add_block]; exact Kd.S_lt HO_9.out _ rfl) | exact Kd.S_lt HO_9.out _ rfl)) (by first | (rw [add_block]; exact (fun e_ => ((HL396_0.out.1 _ e_.symm).2) rfl)) | (show some (Addr.add _ _).block ≠ _; rw [add_block]; exact (fun e_ => ((HL396_0.out.1 _ e_.symm).2) rfl)) | exact (fun e_ => ((HL396_0.out.1 _ e_.symm).2) rfl)))
           rw [← Ny397.out] at ho
           have n0_ := Aside0.mk (blk_grown (g := gb390) (o := .cells #[.slice A0_0 l0_0.length c0_0, .slice A0_1 l0_1.length c0_1, .slice (some ad394) l0_2.length c0_2] 37 (0, 0)) (byK BK390.out) hg (Kd.R_ne HL396_0.out BK390.out (by decide))); have n1_ := Aside0.mk (blk_grown (g := gb395) (o := .cells #[.int .i64 ((rd_T58 l0_2 x13_1).f0), .int .i64 ((rd_T58 l0_2 x13_1).f1), .int .i64 ((rd_T58 l0_2 x13_1).f2), .int .i64 ((rd_T58 l0_2 x13_1).f3), .int .i64 ((rd_T58 l0_2 x13_1).f4), .slice A394_5 ((rd_T58 l0_2 x13_1).f5.f0).length c394_5, .int .i64 ((rd_T58 l0_2 x13_1).f5.f1), .int .i64 ((rd_T58 l0_2 x13_1).f5.f2)] 58 (0, 0)) (byK BK395.out) hg (Kd.R_ne HL396_0.out BK395.out (by decide))); have n2_ := Aside0.mk (hb); have n3_ := Aside0.mk (Kd.H_grown (Kd.H_widen (by repeat (first | exact HH22.out | refine Kd.H_alloc ?_ _ | refine Kd.H_drewN ?_ _ | refine Kd.H_drew ?_))) hg (fun k_ e_ => .inl (UU22.out.1 k_ e_))); have n4_ := Aside0.mk (ho); clear BK390 BK395 HB HH22 HO_9 UU22 HL396_0; have BK390 := n0_; have BK395 := n1_; have HB := n2_; have HH22 := n3_; have HO399 := n4_; clear n0_ n1_ n2_ n3_ n4_ ho hb hg hat
           have p15 : 0 ≤ (((rd_T58 l0_2 x13_1).f0) : Int) := odt
           have q15 : (((rd_T58 l0_2 x13_1).f0) : Int) < ((x9_1.length : Int) : Int) := odt
           replace p15 := eq_true p15; replace q15 := eq_true q15
           obtain ⟨Ao26, co26, eo26⟩ := Kd.R_slice HO399.out
           (first | subst eo26 | (injection eo26 with f1_ f2_ f3_; have f4_ := f1_.symm; have f5_ := f3_.symm; clear f1_ f2_ f3_; subst f4_; subst f5_))
           obtain ⟨_, _, hraw24, _, _, hcc24, _⟩ := Kd.H_raw HH22.out (odt) (by have h_ : (((rd_T58 l0_2 x13_1).f0) : Int) < ((x9_1.length : Int) : Int) := odt; first | exact h_ | (have e_ := (HN22.out); omega) | simpa using h_)
           obtain ⟨_, hfr24⟩ := Kd.H_at HH22.out (odt) (by have h_ : (((rd_T58 l0_2 x13_1).f0) : Int) < ((x9_1.length : Int) : Int) := odt; first | exact h_ | (have e_ := (HN22.out); omega) | simpa using h_)
           have hx24_0 := hcc24 0 _ rfl; have hf24_0 := hfr24 0
           (try simp only [Nat.add_zero] at hx24_0 hf24_0)
           (try rw [show ((Kd.slice 3 (Kd.int .i64))).sz = 1 from rfl, Nat.mul_one] at hx24_0)
           (try rw [show ((Kd.slice 3 (Kd.int .i64))).sz = 1 from rfl, Nat.mul_one] at hf24_0)
           have HP24 := Kd.S_seg0 HH22.out (odt) (by have h_ : (((rd_T58 l0_2 x13_1).f0) : Int) < ((x9_1.length : Int) : Int) := odt; first | exact h_ | (have e_ := (HN22.out); omega) | simpa using h_) (seg := [.slice Ao26 y397.length co26]) (j := 0) (show 1 ≤ 1 from by decide) (x' := y397) (Kd.M_row HO399.out) (fun _ hk => hk)
           (try simp only [show ((Kd.slice 3 (Kd.int .i64))).sz = 1 from rfl, Nat.mul_one, Nat.add_zero] at HP24)
           clear hcc24 hfr24; have HNB390_go22 := Aside0.mk (show gb390 ≠ go22 from by have h_ := Kd.R_ne hraw24 BK390.out (by decide); intro e_; exact h_ (by rw [e_]; rfl)); have HNB395_go22 := Aside0.mk (show gb395 ≠ go22 from by have h_ := Kd.R_ne hraw24 BK395.out (by decide); intro e_; exact h_ (by rw [e_]; rfl)); have HS24 := HP24.1
           rw [← Ny400.out] at HS24
           have HQ24 := Aside0.mk HS24
           obtain ⟨_, hgg24⟩ := Kd.R_typed hraw24 go22 rfl
           have GG24_ := Aside0.mk hgg24; clear HP24 HS24 hgg24
           refine hK.out _ _ ⟨(blk_cell BK395.out 0).trans rfl, (blk_cell BK395.out 1).trans rfl, (blk_cell BK395.out 2).trans rfl, (blk_cell BK395.out 3).trans rfl, (blk_cell BK395.out 4).trans rfl, (blk_cell BK395.out 5).trans rfl, (blk_cell BK395.out 6).trans rfl, (blk_cell BK395.out 7).trans rfl, HS8_⟩ (fun hHeld => ?_)
           clear hK K
           refine norm_ (a' := ?_) ?_ ?_
           rotate_left
           ·show Act.put _ (some 28) _ = _
            simp only [putW]; rfl
           refine q_ 11 29 HT_ ?_
           refine last_ (i := 12) (N := none) (bits 13 8191) rfl rfl (one_of HT_.out (by kernel_rfl)) (by decide) (fun K hK => ?_)
           refine skip_ (w1 := ?_) (by rfl) rfl ?_ ?_
           rotate_left; (·go_simp; rfl)
           refine hK.out _ _ ?_
           clear hK K
           refine done_ (done_of HT_.out (by kernel_rfl)) ?_
           try go_wp2
           go_roundg k1
           case measure => have := HK1.out; omega
           case rel => exact ⟨(y400), (wrap64 (x13_1 + 1)), byF, H', ⟨by have := HK1.out; omega⟩, ⟨by (with_reducible repeat (first | apply Kd.S_alloc | apply Kd.S_drewN | apply Kd.S_drew)); exact HQ24.out⟩, ⟨by (with_reducible repeat (first | refine blk_drewN ?_ _ | refine blk_drew ?_ | refine blk_alloc ?_ _)); refine blk_far ?_ HNB390_go22.out _; (with_reducible repeat (first | refine blk_drewN ?_ _ | refine blk_drew ?_ | refine blk_alloc ?_ _)); exact BK390.out⟩, ⟨byB3 HB.out GB22.out GE390.out GE395.out⟩⟩
          ·rw [if_neg c14] at H
           exact absurd H (by simp)
         ·rw [if_neg c13] at H
          exact absurd H (by simp)
        ·rw [if_neg c12] at H
         exact absurd H (by simp)
       ·rw [if_neg c11] at H
        exact absurd H (by simp)
      ·rw [if_neg c10] at H
       exact absurd H (by simp)
     ·rw [if_neg c9] at H
      have c9b0 : decide (x13_1 < (l0_2.length : Int)) = false := decide_eq_false c9
      clear c9
      obtain rfl := Option.some.inj H
      go_wp2
      go_ret
      exact ⟨_, byE, by (with_reducible repeat (first | apply Kd.S_alloc | apply Kd.S_drewN | apply Kd.S_drew)); exact HO_9.out, byB1 HB.out GE390.out⟩
  ·rw [if_neg c3] at H
   exact absurd H (by simp)
 ·rw [if_neg c2] at H
  exact absurd H (by simp)
end Go.Proofs.Ytaodlehnfjalnaa.Print
