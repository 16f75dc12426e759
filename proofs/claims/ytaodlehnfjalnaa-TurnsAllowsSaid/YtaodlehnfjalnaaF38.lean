/- Written by a program of this claim's author (xprint.py, over the kit's print.py): the call of mapmaker/turns.leaving comes to what the Lean function of its name says. -/
import Derived.Test.YtaodlehnfjalnaaPrint0
import Derived.Test.YtaodlehnfjalnaaM0
namespace Go.Proofs.Ytaodlehnfjalnaa.Print
open Go.RowKit Go.Proofs.YtaodlehnfjalnaaW.PrintWords Go.Proofs.YtaodlehnfjalnaaW.PrintLast Go.Proofs.YtaodlehnfjalnaaW.PrintMore
attribute [local go_sem] max2_int min2_int max_two min_two max_three min_three max_four min_four   -- for this text's walks alone
set_option linter.unusedVariables false
set_option linter.unusedSimpArgs false
/-! ### turns_leaving: function 38 -/
def turns_leaving.l0 : Nat → List (List Int) → List (S58) → Int → Int → Option ((List (List Int)))
 | 0, _, _, _, _ => none
 | k + 1, x9, x11, x12, x13 => if x13 < x12 then (if 0 ≤ x13 then (if x13 < (x11.length : Int) then (if 0 ≤ ((rd_T58 x11 x13).f0) then (if ((rd_T58 x11 x13).f0) < (x9.length : Int) then (if (rd_L6 x9 ((rd_T58 x11 x13).f0)).length < 17592186044416 then (turns_leaving.l0 k (x9.set (((rd_T58 x11 x13).f0) : Int).toNat ((rd_L6 x9 ((rd_T58 x11 x13).f0)) ++ [x13])) x11 x12 (wrap64 (x13 + 1))) else (none)) else (none)) else (none)) else (none)) else (none)) else (some x9)
def turns_leaving.f (k : Nat) (l0_0 : List Int) (l0_1 : List (S158)) (l0_2 : List (S58)) : Option ((List (List Int))) := if 0 ≤ (l0_0.length : Int) then (if ((l0_0.length : Int) : Int).toNat ≤ 11728124029610 then (turns_leaving.l0 k (List.replicate ((l0_0.length : Int) : Int).toNat []) l0_2 (l0_2.length : Int) 0) else (none)) else (none)
def turns_leaving.T5 : Bool × List (List Nat × List Nat) := (true, [([], []), ([], []), ([1], [1]), ([], []), ([], []), ([4], [4]), ([3, 5], [3, 5]), ([6], [6]), ([], []), ([8], [8]), ([7, 9], [7, 9]), ([0, 2, 0, 1, 2, 3, 4, 5, 6, 7, 8, 9, 10], [0, 2]), ([11, 10, 10, 0, 1, 2, 3, 4, 5, 6, 7, 8, 9, 10], [10, 11])])
def turns_leaving.B5 : List Nat := [0, 0, 2, 0, 0, 16, 56, 120, 0, 256, 1016, 2047, 4095]
theorem turns_leaving.tab5 : rtab .any (opsOf Try.f38 5) = turns_leaving.T5 := by kernel_rfl
theorem turns_leaving.bits5 : waitsOk turns_leaving.T5.2 turns_leaving.B5 = true := by kernel_rfl
set_option maxHeartbeats 8000000 in
set_option maxRecDepth 100000 in
theorem turns_leaving.calls (k : Nat) (A0_0 : Option Addr) (c0_0 : Nat) (l0_0 : List Int) (A0_1 : Option Addr) (c0_1 : Nat) (l0_1 : List (S158)) (A0_2 : Option Addr) (c0_2 : Nat) (l0_2 : List (S58)) (r : List (List Int)) (w : World) (hr0_0 : Kd.C (Kd.int .i64) w A0_0 l0_0.length l0_0) (hc0_0 : l0_0.length ≤ c0_0) (hr0_1 : Kd.C k158 w A0_1 l0_1.length l0_1) (hc0_1 : l0_1.length ≤ c0_1) (hr0_2 : Kd.C k58 w A0_2 l0_2.length l0_2) (hc0_2 : l0_2.length ≤ c0_2) (h : turns_leaving.f k l0_0 l0_1 l0_2 = some r) :
  Calls Try.prog 38 #[.agg #[.slice A0_0 l0_0.length c0_0, .slice A0_1 l0_1.length c0_1, .slice A0_2 l0_2.length c0_2]] w fun e w' => ∃ v0_ : Value, e = .returned (v0_) ∧ Kd.S (Kd.slice 3 (Kd.int .i64)) 33 w' w.heap.size (fun _ => True) v0_ r ∧ Below w.heap.size w w' := by
 have hu37 := Try.underlying37; have hu58 := Try.underlying58; have HR0_0 := Aside0.mk hr0_0; have HC0_0 := Aside0.mk hc0_0; clear hr0_0 hc0_0; have HR0_1 := Aside0.mk hr0_1; have HC0_1 := Aside0.mk hc0_1; clear hr0_1 hc0_1; have HR0_2 := Aside0.mk hr0_2; have HC0_2 := Aside0.mk hc0_2; clear hr0_2 hc0_2; have HB := Aside0.mk (Below.refl w.heap.size w)
 have H : (if 0 ≤ (l0_0.length : Int) then (if ((l0_0.length : Int) : Int).toNat ≤ 11728124029610 then (turns_leaving.l0 k (List.replicate ((l0_0.length : Int) : Int).toNat []) l0_2 (l0_2.length : Int) 0) else (none)) else (none)) = some r := h
 clear h
 by_cases c2 : 0 ≤ (l0_0.length : Int)
 ·rw [if_pos c2] at H
  have c2b0 := eq_true c2
  have c2b1 : decide (0 ≤ (l0_0.length : Int)) = true := decide_eq_true c2
  clear c2
  by_cases c3 : ((l0_0.length : Int) : Int).toNat ≤ 11728124029610
  ·rw [if_pos c3] at H
   have c3b0 := eq_true c3
   have c3b1 : decide (((l0_0.length : Int) : Int).toNat ≤ 11728124029610) = true := decide_eq_true c3
   clear c3
   obtain ⟨y344, hy344⟩ : ∃ y_ : List (List Int), y_ = (List.replicate ((l0_0.length : Int) : Int).toNat []) := ⟨_, rfl⟩
   replace H : (turns_leaving.l0 k y344 l0_2 (l0_2.length : Int) 0) = some r := by first | (rw [hy344]; with_reducible exact H) | (have H2_ := (Option.bind_some _ _).symm.trans H; rw [hy344]; with_reducible exact H2_) | (have H2_ := (Option.bind_some _ _).symm.trans H; with_reducible exact H2_) | with_reducible exact H | (rw [hy344]; exact H) | exact H
   have Ny344 := Aside0.mk hy344; clear hy344
   have H' := Aside0.mk H
   clear H
   go_enter Try.func38, Try.ntmps38
   go_wp2_with (first | ((with_reducible refine gate_dst (N := 1) rfl ?_); refine box_event ?hg (N := 1) ?hd (cs := #[.slice A0_0 l0_0.length c0_0, .slice A0_1 l0_1.length c0_1, .slice A0_2 l0_2.length c0_2]) (t := 37) ?hr ?_; (case hd => rfl); (case hg => rfl); (case hr => first | (go_simp; done) | (go_simp; rfl)); intro gb343 hg w4 hbox hb; have n0_ := Aside0.mk (below_step (byB HB.out) hb); have n1_ := Aside0.mk (hbox); have n2_ := Aside0.mk ((by rw [hg]; exact (below_size (byB HB.out)) : w.heap.size ≤ gb343)); have n3_ := Aside0.mk ((by rw [hg]; exact (below_size (byB HB.out)) : w.heap.size ≤ gb343)); clear HB; have HB := n0_; have BK343 := n1_; have GW343 := n2_; have GE343 := n3_; clear n0_ n1_ n2_ n3_ hb hbox hg; have hcz5_0 : w4.cell? ⟨gb343, 0, none⟩ = some (.slice A0_0 l0_0.length c0_0) := (blk_cell BK343.out 0).trans rfl; have hcz5_1 : w4.cell? ⟨gb343, 1, none⟩ = some (.slice A0_1 l0_1.length c0_1) := (blk_cell BK343.out 1).trans rfl; have hcz5_2 : w4.cell? ⟨gb343, 2, none⟩ = some (.slice A0_2 l0_2.length c0_2) := (blk_cell BK343.out 2).trans rfl; have hfz5_0 := blk_frozen BK343.out 0; have hfz5_1 := blk_frozen BK343.out 1; have hfz5_2 := blk_frozen BK343.out 2) | ((with_reducible refine gate_dst (N := 9) rfl ?_); refine Kd.S_make (Kd.slice 3 (Kd.int .i64)) _ 33 rfl (N := 9) rfl 87 _ _ rfl (l0_0.length : Int) rfl rfl Try.underlying87 (.slice none 0 0) 24 info33 rfl (by decide) (by omega) [] (ok := fun _ => True) (okp := fun _ => True) ⟨_, rfl, Kd.R_nil _ _ _ _ _⟩ (fun _ hk => hk) trivial (odt) (Nat.le_trans (Nat.mul_le_mul_right _ (odt : (l0_0.length : Int).toNat ≤ 11728124029610)) (by omega)) (Below.refl _ _) (Nat.le_refl _) ?_; intro v345 w6 ho7 hb hg_ hnew_; clear hg_ hnew_; (first | rw [← Ny344.out] at ho7 | (simp only [Int.reduceToNat] at ho7; rw [← Ny344.out] at ho7)); have n0_ := Aside0.mk (Kd.S_lower ho7 (below_size (byB1 HB.out GE343.out))); have n1_ := Aside0.mk (blk_below (g := gb343) (o := .cells #[.slice A0_0 l0_0.length c0_0, .slice A0_1 l0_1.length c0_1, .slice A0_2 l0_2.length c0_2] 37 (0, 0)) (byK BK343.out) hb); have n2_ := Aside0.mk (below_step (byB1 HB.out GE343.out) hb); clear BK343 HB; have HO346 := n0_; have BK343 := n1_; have HB := n2_; clear n0_ n1_ n2_ hb ho7; have hcz8_0 : w6.cell? ⟨gb343, 0, none⟩ = some (.slice A0_0 l0_0.length c0_0) := (blk_cell BK343.out 0).trans rfl; have hcz8_1 : w6.cell? ⟨gb343, 1, none⟩ = some (.slice A0_1 l0_1.length c0_1) := (blk_cell BK343.out 1).trans rfl; have hcz8_2 : w6.cell? ⟨gb343, 2, none⟩ = some (.slice A0_2 l0_2.length c0_2) := (blk_cell BK343.out 2).trans rfl; have hfz8_0 := blk_frozen BK343.out 0; have hfz8_1 := blk_frozen BK343.out 1; have hfz8_2 := blk_frozen BK343.out 2))
   go_loopg [13] k (fun kq v13 w' => ∃ (x9_1 : List (List Int)) (x13_1 : Int), v13 = .int .i64 x13_1 ∧ Aside0 (turns_leaving.l0 kq x9_1 l0_2 (l0_2.length : Int) x13_1 = some r) ∧ Aside0 (kq ≤ k) ∧ Aside0 (Kd.S (Kd.slice 3 (Kd.int .i64)) 33 w' w.heap.size (fun _ => True) v345 x9_1) ∧ Aside0 (w'.heap[gb343]? = some (.cells #[(.slice A0_0 l0_0.length c0_0), (.slice A0_1 l0_1.length c0_1), (.slice A0_2 l0_2.length c0_2)] 37 (0, 0))) ∧ Aside0 (Below w.heap.size w w'))
   case atStart => exact ⟨(y344), (0), byF, H', ⟨Nat.le_refl _⟩, ⟨by (with_reducible repeat (first | apply Kd.S_alloc | apply Kd.S_drewN | apply Kd.S_drew)); exact HO346.out⟩, ⟨by (with_reducible repeat (first | refine blk_drewN ?_ _ | refine blk_drew ?_ | refine blk_alloc ?_ _)); exact BK343.out⟩, ⟨byB1 HB.out GE343.out⟩⟩
   case round =>
    clear H'
    try clear c2
    try clear c2b0
    try clear c2b1
    try clear p2
    try clear c3
    try clear c3b0
    try clear c3b1
    try clear hcz5_0
    try clear hcz5_1
    try clear hcz5_2
    try clear hcz8_0
    try clear hcz8_1
    try clear hcz8_2
    try clear hfz5_0
    try clear hfz5_1
    try clear hfz5_2
    try clear hfz8_0
    try clear hfz8_1
    try clear hfz8_2
    obtain ⟨x9_1, x13_1, rfl, HA, HK1, HO_9, BK343, HB⟩ := hrel
    cases gk with
    | zero => exact absurd HA.out (by simp [turns_leaving.l0])
    | succ k1 =>
     have H := HA.out; clear HA
     simp only [turns_leaving.l0] at H
     by_cases c9 : x13_1 < (l0_2.length : Int)
     ·rw [if_pos c9] at H
      have c9b0 : decide (x13_1 < (l0_2.length : Int)) = true := decide_eq_true c9
      clear c9
      by_cases c10 : 0 ≤ x13_1
      ·rw [if_pos c10] at H
       have c10b0 : decide (0 ≤ x13_1) = true := decide_eq_true c10
       clear c10
       by_cases c11 : x13_1 < (l0_2.length : Int)
       ·rw [if_pos c11] at H
        have c11b0 : decide (x13_1 < (l0_2.length : Int)) = true := decide_eq_true c11
        clear c11
        by_cases c12 : 0 ≤ ((rd_T58 l0_2 x13_1).f0)
        ·rw [if_pos c12] at H
         have c12b0 : decide (0 ≤ ((rd_T58 l0_2 x13_1).f0)) = true := decide_eq_true c12
         clear c12
         by_cases c13 : ((rd_T58 l0_2 x13_1).f0) < (x9_1.length : Int)
         ·rw [if_pos c13] at H
          have c13b0 : decide (((rd_T58 l0_2 x13_1).f0) < (x9_1.length : Int)) = true := decide_eq_true c13
          clear c13
          by_cases c14 : (rd_L6 x9_1 ((rd_T58 l0_2 x13_1).f0)).length < 17592186044416
          ·rw [if_pos c14] at H
           have LMc14 := Aside0.mk c14; clear c14
           obtain ⟨y350, hy350⟩ : ∃ y_ : List Int, y_ = ((rd_L6 x9_1 ((rd_T58 l0_2 x13_1).f0)) ++ [x13_1]) := ⟨_, rfl⟩
           replace H : (turns_leaving.l0 k1 (x9_1.set (((rd_T58 l0_2 x13_1).f0) : Int).toNat y350) l0_2 (l0_2.length : Int) (wrap64 (x13_1 + 1))) = some r := by first | (rw [hy350]; with_reducible exact H) | (have H2_ := (Option.bind_some _ _).symm.trans H; rw [hy350]; with_reducible exact H2_) | (have H2_ := (Option.bind_some _ _).symm.trans H; with_reducible exact H2_) | with_reducible exact H | (rw [hy350]; exact H) | exact H
           have Ny350 := Aside0.mk hy350; clear hy350
           obtain ⟨y353, hy353⟩ : ∃ y_ : List (List Int), y_ = (x9_1.set (((rd_T58 l0_2 x13_1).f0) : Int).toNat y350) := ⟨_, rfl⟩
           replace H : (turns_leaving.l0 k1 y353 l0_2 (l0_2.length : Int) (wrap64 (x13_1 + 1))) = some r := by first | (rw [hy353]; with_reducible exact H) | (have H2_ := (Option.bind_some _ _).symm.trans H; rw [hy353]; with_reducible exact H2_) | (have H2_ := (Option.bind_some _ _).symm.trans H; with_reducible exact H2_) | with_reducible exact H | (rw [hy353]; exact H) | exact H
           have Ny353 := Aside0.mk hy353; clear hy353
           have H' := Aside0.mk H
           clear H
           have p347 : 0 ≤ (x13_1 : Int) := odt
           have q347 : x13_1 < (l0_2.length : Int) := odt
           obtain ⟨ad347, A347_5, c347_5, e347, hx347_0, hx347_1, hx347_2, hx347_3, hx347_4, hx347_5, hx347_6, hx347_7, hl347_5, hi347_5⟩ := at_T58 HR0_2.out x13_1 p347 q347
           cases e347
           replace hx347_0 := (HB.out.cell (World.block_lt_of_cell? w _ hx347_0)).trans hx347_0
           replace hx347_1 := (HB.out.cell (World.block_lt_of_cell? w _ hx347_1)).trans hx347_1
           replace hx347_2 := (HB.out.cell (World.block_lt_of_cell? w _ hx347_2)).trans hx347_2
           replace hx347_3 := (HB.out.cell (World.block_lt_of_cell? w _ hx347_3)).trans hx347_3
           replace hx347_4 := (HB.out.cell (World.block_lt_of_cell? w _ hx347_4)).trans hx347_4
           replace hx347_5 := (HB.out.cell (World.block_lt_of_cell? w _ hx347_5)).trans hx347_5
           replace hx347_6 := (HB.out.cell (World.block_lt_of_cell? w _ hx347_6)).trans hx347_6
           replace hx347_7 := (HB.out.cell (World.block_lt_of_cell? w _ hx347_7)).trans hx347_7
           have HR347_5 := Aside0.mk hi347_5; have HC347_5 := Aside0.mk hl347_5; clear hi347_5 hl347_5; replace p347 := eq_true p347; replace q347 := eq_true q347
           try go_wp2_with (first | ((with_reducible refine gate_dst (N := 5) rfl ?_); refine box_event ?hg (N := 5) ?hd (cs := #[.int .i64 0, .int .i64 0, .int .i64 0, .int .i64 0, .int .i64 0, .slice none 0 0, .int .i64 0, .int .i64 0]) (t := 58) ?hr ?_; (case hd => rfl); (case hg => rfl); (case hr => first | (go_simp; done) | (go_simp; rfl)); intro gb348 hg w16 hbox hb; have n0_ := Aside0.mk (Kd.S_below (byS HO_9.out) hb); have n1_ := Aside0.mk (blk_below (g := gb343) (o := .cells #[.slice A0_0 l0_0.length c0_0, .slice A0_1 l0_1.length c0_1, .slice (some ad347) l0_2.length c0_2] 37 (0, 0)) (byK BK343.out) hb); have n2_ := Aside0.mk (below_step (byB1 HB.out GE343.out) hb); have n3_ := Aside0.mk (hbox); have n4_ := Aside0.mk ((by rw [hg]; exact (below_size (byB1 HB.out GE343.out)) : w.heap.size ≤ gb348)); have n5_ := Aside0.mk ((by rw [hg]; exact (below_size (byB1 HB.out GE343.out)) : w.heap.size ≤ gb348)); have n6_ := Aside0.mk ((by rw [hg]; exact Nat.ne_of_lt (blk_lt (g := gb343) (o := .cells #[.slice A0_0 l0_0.length c0_0, .slice A0_1 l0_1.length c0_1, .slice (some ad347) l0_2.length c0_2] 37 (0, 0)) (byK BK343.out)) : gb343 ≠ gb348)); have n7_ := Aside0.mk ((by rw [hg]; exact Nat.ne_of_gt (blk_lt (g := gb343) (o := .cells #[.slice A0_0 l0_0.length c0_0, .slice A0_1 l0_1.length c0_1, .slice (some ad347) l0_2.length c0_2] 37 (0, 0)) (byK BK343.out)) : gb348 ≠ gb343)); clear HO_9 BK343 HB; have HO_9 := n0_; have BK343 := n1_; have HB := n2_; have BK348 := n3_; have GW348 := n4_; have GE348 := n5_; have NB343_348 := n6_; have NB348_343 := n7_; clear n0_ n1_ n2_ n3_ n4_ n5_ n6_ n7_ hb hbox hg; have hnb17 := NB348_343.out; have hnc17 := NB343_348.out; have hcz18_0 : w16.cell? ⟨gb348, 0, none⟩ = some (.int .i64 0) := (blk_cell BK348.out 0).trans rfl; have hcz18_1 : w16.cell? ⟨gb348, 1, none⟩ = some (.int .i64 0) := (blk_cell BK348.out 1).trans rfl; have hcz18_2 : w16.cell? ⟨gb348, 2, none⟩ = some (.int .i64 0) := (blk_cell BK348.out 2).trans rfl; have hcz18_3 : w16.cell? ⟨gb348, 3, none⟩ = some (.int .i64 0) := (blk_cell BK348.out 3).trans rfl; have hcz18_4 : w16.cell? ⟨gb348, 4, none⟩ = some (.int .i64 0) := (blk_cell BK348.out 4).trans rfl; have hcz18_5 : w16.cell? ⟨gb348, 5, none⟩ = some (.slice none 0 0) := (blk_cell BK348.out 5).trans rfl; have hcz18_6 : w16.cell? ⟨gb348, 6, none⟩ = some (.int .i64 0) := (blk_cell BK348.out 6).trans rfl; have hcz18_7 : w16.cell? ⟨gb348, 7, none⟩ = some (.int .i64 0) := (blk_cell BK348.out 7).trans rfl; have hfz18_0 := blk_frozen BK348.out 0; have hfz18_1 := blk_frozen BK348.out 1; have hfz18_2 := blk_frozen BK348.out 2; have hfz18_3 := blk_frozen BK348.out 3; have hfz18_4 := blk_frozen BK348.out 4; have hfz18_5 := blk_frozen BK348.out 5; have hfz18_6 := blk_frozen BK348.out 6; have hfz18_7 := blk_frozen BK348.out 7))
           have n0_ : Aside0 (Kd.S (Kd.slice 3 (Kd.int .i64)) 33 ((((((((w16.setCell ⟨gb348, 0, none⟩ (.int .i64 ((rd_T58 l0_2 x13_1).f0))).setCell ⟨gb348, 1, none⟩ (.int .i64 ((rd_T58 l0_2 x13_1).f1))).setCell ⟨gb348, 2, none⟩ (.int .i64 ((rd_T58 l0_2 x13_1).f2))).setCell ⟨gb348, 3, none⟩ (.int .i64 ((rd_T58 l0_2 x13_1).f3))).setCell ⟨gb348, 4, none⟩ (.int .i64 ((rd_T58 l0_2 x13_1).f4))).setCell ⟨gb348, 5, none⟩ (.slice A347_5 ((rd_T58 l0_2 x13_1).f5.f0).length c347_5)).setCell ⟨gb348, 6, none⟩ (.int .i64 ((rd_T58 l0_2 x13_1).f5.f1))).setCell ⟨gb348, 7, none⟩ (.int .i64 ((rd_T58 l0_2 x13_1).f5.f2))) w.heap.size (fun _ => True) v345 x9_1) := ⟨by (with_reducible repeat (first | apply Kd.S_alloc | apply Kd.S_drewN | apply Kd.S_drew)); exact Kd.S_mono (Kd.S_far (p := ⟨gb348, 7, none⟩) (Kd.S_far (p := ⟨gb348, 6, none⟩) (Kd.S_far (p := ⟨gb348, 5, none⟩) (Kd.S_far (p := ⟨gb348, 4, none⟩) (Kd.S_far (p := ⟨gb348, 3, none⟩) (Kd.S_far (p := ⟨gb348, 2, none⟩) (Kd.S_far (p := ⟨gb348, 1, none⟩) (Kd.S_far (p := ⟨gb348, 0, none⟩) (Kd.S_types HO_9.out BK348.out (by decide)) (fun _ hk => hk.2) (.int .i64 ((rd_T58 l0_2 x13_1).f0))) (fun _ hk => hk.2) (.int .i64 ((rd_T58 l0_2 x13_1).f1))) (fun _ hk => hk.2) (.int .i64 ((rd_T58 l0_2 x13_1).f2))) (fun _ hk => hk.2) (.int .i64 ((rd_T58 l0_2 x13_1).f3))) (fun _ hk => hk.2) (.int .i64 ((rd_T58 l0_2 x13_1).f4))) (fun _ hk => hk.2) (.slice A347_5 ((rd_T58 l0_2 x13_1).f5.f0).length c347_5)) (fun _ hk => hk.2) (.int .i64 ((rd_T58 l0_2 x13_1).f5.f1))) (fun _ hk => hk.2) (.int .i64 ((rd_T58 l0_2 x13_1).f5.f2))) (fun _ hk => trivial)⟩
           have n1_ : Aside0 (((((((((w16.setCell ⟨gb348, 0, none⟩ (.int .i64 ((rd_T58 l0_2 x13_1).f0))).setCell ⟨gb348, 1, none⟩ (.int .i64 ((rd_T58 l0_2 x13_1).f1))).setCell ⟨gb348, 2, none⟩ (.int .i64 ((rd_T58 l0_2 x13_1).f2))).setCell ⟨gb348, 3, none⟩ (.int .i64 ((rd_T58 l0_2 x13_1).f3))).setCell ⟨gb348, 4, none⟩ (.int .i64 ((rd_T58 l0_2 x13_1).f4))).setCell ⟨gb348, 5, none⟩ (.slice A347_5 ((rd_T58 l0_2 x13_1).f5.f0).length c347_5)).setCell ⟨gb348, 6, none⟩ (.int .i64 ((rd_T58 l0_2 x13_1).f5.f1))).setCell ⟨gb348, 7, none⟩ (.int .i64 ((rd_T58 l0_2 x13_1).f5.f2))).heap[gb343]? = some (.cells #[.slice A0_0 l0_0.length c0_0, .slice A0_1 l0_1.length c0_1, .slice (some ad347) l0_2.length c0_2] 37 (0, 0))) := ⟨by (with_reducible repeat (first | refine blk_drewN ?_ _ | refine blk_drew ?_ | refine blk_alloc ?_ _)); refine blk_far ?_ NB343_348.out _; (with_reducible repeat (first | refine blk_drewN ?_ _ | refine blk_drew ?_ | refine blk_alloc ?_ _)); refine blk_far ?_ NB343_348.out _; (with_reducible repeat (first | refine blk_drewN ?_ _ | refine blk_drew ?_ | refine blk_alloc ?_ _)); refine blk_far ?_ NB343_348.out _; (with_reducible repeat (first | refine blk_drewN ?_ _ | refine blk_drew ?_ | refine blk_alloc ?_ _)); refine blk_far ?_ NB343_348.out _; (with_reducible repeat (first | refine blk_drewN ?_ _ | refine blk_drew ?_ | refine blk_alloc ?_ _)); refine blk_far ?_ NB343_348.out _; (with_reducible repeat (first | refine blk_drewN ?_ _ | refine blk_drew ?_ | refine blk_alloc ?_ _)); refine blk_far ?_ NB343_348.out _; (with_reducible repeat (first | refine blk_drewN ?_ _ | refine blk_drew ?_ | refine blk_alloc ?_ _)); refine blk_far ?_ NB343_348.out _; (with_reducible repeat (first | refine blk_drewN ?_ _ | refine blk_drew ?_ | refine blk_alloc ?_ _)); refine blk_far ?_ NB343_348.out _; (with_reducible repeat (first | refine blk_drewN ?_ _ | refine blk_drew ?_ | refine blk_alloc ?_ _)); exact BK343.out⟩
           have n2_ : Aside0 (((((((((w16.setCell ⟨gb348, 0, none⟩ (.int .i64 ((rd_T58 l0_2 x13_1).f0))).setCell ⟨gb348, 1, none⟩ (.int .i64 ((rd_T58 l0_2 x13_1).f1))).setCell ⟨gb348, 2, none⟩ (.int .i64 ((rd_T58 l0_2 x13_1).f2))).setCell ⟨gb348, 3, none⟩ (.int .i64 ((rd_T58 l0_2 x13_1).f3))).setCell ⟨gb348, 4, none⟩ (.int .i64 ((rd_T58 l0_2 x13_1).f4))).setCell ⟨gb348, 5, none⟩ (.slice A347_5 ((rd_T58 l0_2 x13_1).f5.f0).length c347_5)).setCell ⟨gb348, 6, none⟩ (.int .i64 ((rd_T58 l0_2 x13_1).f5.f1))).setCell ⟨gb348, 7, none⟩ (.int .i64 ((rd_T58 l0_2 x13_1).f5.f2))).heap[gb348]? = some (.cells #[.int .i64 ((rd_T58 l0_2 x13_1).f0), .int .i64 ((rd_T58 l0_2 x13_1).f1), .int .i64 ((rd_T58 l0_2 x13_1).f2), .int .i64 ((rd_T58 l0_2 x13_1).f3), .int .i64 ((rd_T58 l0_2 x13_1).f4), .slice A347_5 ((rd_T58 l0_2 x13_1).f5.f0).length c347_5, .int .i64 ((rd_T58 l0_2 x13_1).f5.f1), .int .i64 ((rd_T58 l0_2 x13_1).f5.f2)] 58 (0, 0))) := ⟨by (with_reducible repeat (first | refine blk_drewN ?_ _ | refine blk_drew ?_ | refine blk_alloc ?_ _)); refine blk_put (cs := #[.int .i64 ((rd_T58 l0_2 x13_1).f0), .int .i64 ((rd_T58 l0_2 x13_1).f1), .int .i64 ((rd_T58 l0_2 x13_1).f2), .int .i64 ((rd_T58 l0_2 x13_1).f3), .int .i64 ((rd_T58 l0_2 x13_1).f4), .slice A347_5 ((rd_T58 l0_2 x13_1).f5.f0).length c347_5, .int .i64 ((rd_T58 l0_2 x13_1).f5.f1), .int .i64 0]) ?_ 7 _ rfl; (with_reducible repeat (first | refine blk_drewN ?_ _ | refine blk_drew ?_ | refine blk_alloc ?_ _)); refine blk_put (cs := #[.int .i64 ((rd_T58 l0_2 x13_1).f0), .int .i64 ((rd_T58 l0_2 x13_1).f1), .int .i64 ((rd_T58 l0_2 x13_1).f2), .int .i64 ((rd_T58 l0_2 x13_1).f3), .int .i64 ((rd_T58 l0_2 x13_1).f4), .slice A347_5 ((rd_T58 l0_2 x13_1).f5.f0).length c347_5, .int .i64 0, .int .i64 0]) ?_ 6 _ rfl; (with_reducible repeat (first | refine blk_drewN ?_ _ | refine blk_drew ?_ | refine blk_alloc ?_ _)); refine blk_put (cs := #[.int .i64 ((rd_T58 l0_2 x13_1).f0), .int .i64 ((rd_T58 l0_2 x13_1).f1), .int .i64 ((rd_T58 l0_2 x13_1).f2), .int .i64 ((rd_T58 l0_2 x13_1).f3), .int .i64 ((rd_T58 l0_2 x13_1).f4), .slice none 0 0, .int .i64 0, .int .i64 0]) ?_ 5 _ rfl; (with_reducible repeat (first | refine blk_drewN ?_ _ | refine blk_drew ?_ | refine blk_alloc ?_ _)); refine blk_put (cs := #[.int .i64 ((rd_T58 l0_2 x13_1).f0), .int .i64 ((rd_T58 l0_2 x13_1).f1), .int .i64 ((rd_T58 l0_2 x13_1).f2), .int .i64 ((rd_T58 l0_2 x13_1).f3), .int .i64 0, .slice none 0 0, .int .i64 0, .int .i64 0]) ?_ 4 _ rfl; (with_reducible repeat (first | refine blk_drewN ?_ _ | refine blk_drew ?_ | refine blk_alloc ?_ _)); refine blk_put (cs := #[.int .i64 ((rd_T58 l0_2 x13_1).f0), .int .i64 ((rd_T58 l0_2 x13_1).f1), .int .i64 ((rd_T58 l0_2 x13_1).f2), .int .i64 0, .int .i64 0, .slice none 0 0, .int .i64 0, .int .i64 0]) ?_ 3 _ rfl; (with_reducible repeat (first | refine blk_drewN ?_ _ | refine blk_drew ?_ | refine blk_alloc ?_ _)); refine blk_put (cs := #[.int .i64 ((rd_T58 l0_2 x13_1).f0), .int .i64 ((rd_T58 l0_2 x13_1).f1), .int .i64 0, .int .i64 0, .int .i64 0, .slice none 0 0, .int .i64 0, .int .i64 0]) ?_ 2 _ rfl; (with_reducible repeat (first | refine blk_drewN ?_ _ | refine blk_drew ?_ | refine blk_alloc ?_ _)); refine blk_put (cs := #[.int .i64 ((rd_T58 l0_2 x13_1).f0), .int .i64 0, .int .i64 0, .int .i64 0, .int .i64 0, .slice none 0 0, .int .i64 0, .int .i64 0]) ?_ 1 _ rfl; (with_reducible repeat (first | refine blk_drewN ?_ _ | refine blk_drew ?_ | refine blk_alloc ?_ _)); refine blk_put (cs := #[.int .i64 0, .int .i64 0, .int .i64 0, .int .i64 0, .int .i64 0, .slice none 0 0, .int .i64 0, .int .i64 0]) ?_ 0 _ rfl; (with_reducible repeat (first | refine blk_drewN ?_ _ | refine blk_drew ?_ | refine blk_alloc ?_ _)); exact BK348.out⟩
           have n3_ : Aside0 (Below w.heap.size w ((((((((w16.setCell ⟨gb348, 0, none⟩ (.int .i64 ((rd_T58 l0_2 x13_1).f0))).setCell ⟨gb348, 1, none⟩ (.int .i64 ((rd_T58 l0_2 x13_1).f1))).setCell ⟨gb348, 2, none⟩ (.int .i64 ((rd_T58 l0_2 x13_1).f2))).setCell ⟨gb348, 3, none⟩ (.int .i64 ((rd_T58 l0_2 x13_1).f3))).setCell ⟨gb348, 4, none⟩ (.int .i64 ((rd_T58 l0_2 x13_1).f4))).setCell ⟨gb348, 5, none⟩ (.slice A347_5 ((rd_T58 l0_2 x13_1).f5.f0).length c347_5)).setCell ⟨gb348, 6, none⟩ (.int .i64 ((rd_T58 l0_2 x13_1).f5.f1))).setCell ⟨gb348, 7, none⟩ (.int .i64 ((rd_T58 l0_2 x13_1).f5.f2)))) := ⟨byB2 HB.out GE343.out GE348.out⟩
           (try clear HO_9)
           (try clear BK343)
           (try clear BK348)
           (try clear HB)
           generalize ((((((((w16.setCell ⟨gb348, 0, none⟩ (.int .i64 ((rd_T58 l0_2 x13_1).f0))).setCell ⟨gb348, 1, none⟩ (.int .i64 ((rd_T58 l0_2 x13_1).f1))).setCell ⟨gb348, 2, none⟩ (.int .i64 ((rd_T58 l0_2 x13_1).f2))).setCell ⟨gb348, 3, none⟩ (.int .i64 ((rd_T58 l0_2 x13_1).f3))).setCell ⟨gb348, 4, none⟩ (.int .i64 ((rd_T58 l0_2 x13_1).f4))).setCell ⟨gb348, 5, none⟩ (.slice A347_5 ((rd_T58 l0_2 x13_1).f5.f0).length c347_5)).setCell ⟨gb348, 6, none⟩ (.int .i64 ((rd_T58 l0_2 x13_1).f5.f1))).setCell ⟨gb348, 7, none⟩ (.int .i64 ((rd_T58 l0_2 x13_1).f5.f2))) = w19 at n0_ n1_ n2_ n3_ ⊢
           have HO_9 := n0_; have BK343 := n1_; have BK348 := n2_; have HB := n3_; clear n0_ n1_ n2_ n3_; have n0_ := Aside0.mk (Kd.S_drew HO_9.out); have n1_ := Aside0.mk (blk_drew BK343.out); have n2_ := Aside0.mk (blk_drew BK348.out); have n3_ := Aside0.mk (below_drew1 HB.out); clear HO_9 BK343 BK348 HB; have HO_9 := n0_; have BK343 := n1_; have BK348 := n2_; have HB := n3_; clear n0_ n1_ n2_ n3_
           obtain ⟨Ao21, co21, eo21⟩ := Kd.S_slice HO_9.out
           (first | subst eo21 | (injection eo21 with f1_ f2_ f3_; have f4_ := f1_.symm; have f5_ := f3_.symm; clear f1_ f2_ f3_; subst f4_; subst f5_))
           have p349 : 0 ≤ (((rd_T58 l0_2 x13_1).f0) : Int) := odt
           have q349 : ((rd_T58 l0_2 x13_1).f0) < (x9_1.length : Int) := odt
           obtain ⟨ad349, A349_0, c349_0, e349, hx349_0, hl349_0, hi349_0⟩ := at_L6 (Kd.S_reads' HO_9.out).2.2 ((rd_T58 l0_2 x13_1).f0) p349 q349
           cases e349
           obtain ⟨ce349, hce349, hMe349, hcc349⟩ := Kd.S_get HO_9.out [] ((rd_T58 l0_2 x13_1).f0) p349 (by first | exact q349 | exact odt | (have e_ := (Kd.S_reads' HO_9.out).1; omega))
           obtain ⟨ve349_0, rfl, ge349_0⟩ := hMe349
           have hv349_0 := hcc349 0 _ rfl
           rw [Nat.add_zero, show ((Kd.slice 3 (Kd.int .i64))).sz = 1 from rfl, Nat.mul_one] at hv349_0
           replace hv349_0 := Option.some.inj (hv349_0.symm.trans hx349_0)
           rw [hv349_0] at ge349_0
           have HL349_0 := Aside0.mk (show Kd.R (Kd.int .i64) 3 _ _ _ _ (rd_L6 x9_1 ((rd_T58 l0_2 x13_1).f0)) from ge349_0); clear hv349_0 ge349_0; have HX349_0 := Aside0.mk hx349_0; clear hcc349 hce349; have HR349_0 := Aside0.mk hi349_0; have HC349_0 := Aside0.mk hl349_0; clear hi349_0 hl349_0; replace p349 := eq_true p349; replace q349 := eq_true q349
           obtain ⟨go22, co22, eo22, gb22, gl22, cl22, HG22⟩ := Kd.S_form HO_9.out (by have h_ : (((rd_T58 l0_2 x13_1).f0) : Int) < ((x9_1.length : Int) : Int) := odt; have h2_ : 0 ≤ (((rd_T58 l0_2 x13_1).f0) : Int) := (odt); omega)
           (first | cases eo22 | (injection eo22 with ea_ en_ ec_; (first | subst ea_ | (injection ea_ with ea_; subst ea_)); subst ec_; clear en_))
           have GB22 := Aside0.mk gb22; have GG22 := Aside0.mk HG22; clear gb22 gl22 HG22
           (first | simp only [add_plain] at hx349_0 | skip)
           obtain ⟨oki22, ce22, hcl22, hM22, hcc22, _, _, hH22⟩ := Kd.S_elem HO_9.out [] (((rd_T58 l0_2 x13_1).f0) : Int) (odt) (by have h_ : (((rd_T58 l0_2 x13_1).f0) : Int) < ((x9_1.length : Int) : Int) := odt; first | exact h_ | (have e_ := (Kd.S_reads' HO_9.out).1; omega) | simpa using h_)
           obtain ⟨ve22_0, rfl, ge22_0⟩ := hM22
           have hv22 := hcc22 0 _ rfl; have hX22 := HX349_0.out
           (try simp only [add_plain] at hX22)
           (try simp only [Nat.add_zero] at hv22)
           (try rw [show ((Kd.slice 3 (Kd.int .i64))).sz = 1 from rfl, Nat.mul_one] at hv22)
           replace hv22 := Option.some.inj (hv22.symm.trans hX22)
           subst hv22; clear hX22 hcc22 hcl22; have UU22 := Aside0.mk (show Kd.R (Kd.int .i64) 3 _ w.heap.size oki22 (.slice A349_0 (rd_L6 x9_1 ((rd_T58 l0_2 x13_1).f0)).length c349_0) (rd_L6 x9_1 ((rd_T58 l0_2 x13_1).f0)) from ge22_0); have HH22 := Aside0.mk hH22
           have HN22 := Aside0.mk (Kd.S_reads' HO_9.out).1
           clear hH22 ge22_0
           refine start_ (n := 13) (S := fun w' => w'.cell? ⟨gb348, 0, none⟩ = some (.int .i64 ((rd_T58 l0_2 x13_1).f0)) ∧ w'.cell? ⟨gb348, 1, none⟩ = some (.int .i64 ((rd_T58 l0_2 x13_1).f1)) ∧ w'.cell? ⟨gb348, 2, none⟩ = some (.int .i64 ((rd_T58 l0_2 x13_1).f2)) ∧ w'.cell? ⟨gb348, 3, none⟩ = some (.int .i64 ((rd_T58 l0_2 x13_1).f3)) ∧ w'.cell? ⟨gb348, 4, none⟩ = some (.int .i64 ((rd_T58 l0_2 x13_1).f4)) ∧ w'.cell? ⟨gb348, 5, none⟩ = some (.slice A347_5 ((rd_T58 l0_2 x13_1).f5.f0).length c347_5) ∧ w'.cell? ⟨gb348, 6, none⟩ = some (.int .i64 ((rd_T58 l0_2 x13_1).f5.f1)) ∧ w'.cell? ⟨gb348, 7, none⟩ = some (.int .i64 ((rd_T58 l0_2 x13_1).f5.f2)) ∧ w'.cell? ⟨go22, (((rd_T58 l0_2 x13_1).f0)).toNat, none⟩ = some (.slice A349_0 (rd_L6 x9_1 ((rd_T58 l0_2 x13_1).f0)).length c349_0)) (ds := [12]) (bits 13 0) (by kernel_rfl) rfl rfl ⟨(blk_cell BK348.out 0).trans rfl, (blk_cell BK348.out 1).trans rfl, (blk_cell BK348.out 2).trans rfl, (blk_cell BK348.out 3).trans rfl, (blk_cell BK348.out 4).trans rfl, (blk_cell BK348.out 5).trans rfl, (blk_cell BK348.out 6).trans rfl, (blk_cell BK348.out 7).trans rfl, hx349_0⟩ (fun hHeld => ?_); refine with_tabW turns_leaving.tab5 turns_leaving.bits5 (fun HT_ HW_ => ?_)
           generalize w19.drew = w20 at HO_9 BK343 BK348 HB GG22 HH22 HL349_0 HR349_0 HX349_0 UU22 hx349_0 hHeld ⊢
           refine q_ 0 18 HT_ ?_; refine q_ 1 19 HT_ ?_; refine q_ 3 21 HT_ ?_; refine q_ 4 22 HT_ ?_; refine q_ 8 26 HT_ ?_; refine r9_ 2 20 HT_ HW_ hHeld ?_; refine r9_ 5 23 HT_ HW_ hHeld ?_; refine q_ 6 24 HT_ ?_; refine r9_ 7 25 HT_ HW_ hHeld ?_; refine one_ (i := 9) (N := some 27) (bits 13 1023) rfl rfl (one_of HT_.out (by kernel_rfl)) (by decide) (fun K hK => ?_)
           refine value_ (w1 := ?_) (v := ?_) (by rfl) rfl ?_ ?_
           rotate_left 2
           ·go_simp
            constructor
            (·rfl); (·rfl)
           refine hK.out _ _ ⟨(blk_cell (blk_alloc BK348.out _) 0).trans rfl, (blk_cell (blk_alloc BK348.out _) 1).trans rfl, (blk_cell (blk_alloc BK348.out _) 2).trans rfl, (blk_cell (blk_alloc BK348.out _) 3).trans rfl, (blk_cell (blk_alloc BK348.out _) 4).trans rfl, (blk_cell (blk_alloc BK348.out _) 5).trans rfl, (blk_cell (blk_alloc BK348.out _) 6).trans rfl, (blk_cell (blk_alloc BK348.out _) 7).trans rfl, (World.cell?_alloc_lt _ _ _ (World.block_lt_of_cell? _ _ (hHeld.2.2.2.2.2.2.2.2))).trans (hHeld.2.2.2.2.2.2.2.2)⟩ (fun hHeld => ?_)
           clear hK K
           refine norm_ (a' := ?_) ?_ ?_
           rotate_left
           ·show Act.put _ (some 27) _ = _
            simp only [putW]; rfl
           refine one_ (i := 10) (N := some 28) (bits 13 2047) rfl rfl (one_of HT_.out (by kernel_rfl)) (by decide) (fun K hK => ?_)
           refine Kd.R_append_step (Kd.int .i64) (w0 := w) w.heap.size (by rfl) (.tmp 25) (.tmp 27) 33 3 (.int .i64 0) 8 rfl Try.underlying33 info3 rfl (by decide) (by omega) (.slice A349_0 (rd_L6 x9_1 ((rd_T58 l0_2 x13_1).f0)).length c349_0) (rd_L6 x9_1 ((rd_T58 l0_2 x13_1).f0)) x13_1 [.int .i64 x13_1] (fun k_ => oki22 k_ ∨ ((fun _ => True)) k_ ∧ w20.heap.size ≤ k_) (fun _ => False) rfl rfl ?aP (fun _ hk => hk.elim) ?aF ?aO ?aB ?aS ?aL ?_
           (case aP => exact rfl)
           (case aB => exact (byB2 HB.out GE343.out GE348.out))
           (case aF => exact (fun k_ hk => .inr ⟨trivial, hk⟩))
           (case aO => exact (by (with_reducible repeat (first | apply Kd.R_alloc | apply Kd.R_drewN | apply Kd.R_drew)); exact Kd.R_mono UU22.out (fun _ hk => .inl hk)))
           (case aS => exact (below_size (byB2 HB.out GE343.out GE348.out)))
           (case aL => have := LMc14.out; omega)
           intro v351 w23 ho hb hg hat
           (first | have HS8_ := cell_grown hg (hHeld.2.2.2.2.2.2.2.2) (by first | (rw [add_block]; exact (fun e_ => ((HL349_0.out.1 _ e_.symm).2) rfl)) | (show some (Addr.add _ _).block ≠ _; rw [add_block]; exact (fun e_ => ((HL349_0.out.1 _ e_.symm).2) rfl)) | exact (fun e_ => ((HL349_0.out.1 _ e_.symm).2) rfl)) | have HS8_ := cell_grown hg (cell_unalloc (hHeld.2.2.2.2.2.2.2.2) (by first | (rw [add_block]; exact Kd.S_lt HO_9.out _ rfl) | (show (Addr.add _ _).block < _; rw [add_block]; exact Kd.S_lt HO_9.out _ rfl) | exact Kd.S_lt HO_9.out _ rfl)) (by first | (rw [add_block]; exact (fun e_ => ((HL349_0.out.1 _ e_.symm).2) rfl)) | (show some (Addr.add _ _).block ≠ _; rw [add_block]; exact (fun e_ => ((HL349_0.out.1 _ e_.symm).2) rfl)) | exact (fun e_ => ((HL349_0.out.1 _ e_.symm).2) rfl)))
           rw [← Ny350.out] at ho
           have n0_ := Aside0.mk (blk_grown (g := gb343) (o := .cells #[.slice A0_0 l0_0.length c0_0, .slice A0_1 l0_1.length c0_1, .slice (some ad347) l0_2.length c0_2] 37 (0, 0)) (byK BK343.out) hg (Kd.R_ne HL349_0.out BK343.out (by decide))); have n1_ := Aside0.mk (blk_grown (g := gb348) (o := .cells #[.int .i64 ((rd_T58 l0_2 x13_1).f0), .int .i64 ((rd_T58 l0_2 x13_1).f1), .int .i64 ((rd_T58 l0_2 x13_1).f2), .int .i64 ((rd_T58 l0_2 x13_1).f3), .int .i64 ((rd_T58 l0_2 x13_1).f4), .slice A347_5 ((rd_T58 l0_2 x13_1).f5.f0).length c347_5, .int .i64 ((rd_T58 l0_2 x13_1).f5.f1), .int .i64 ((rd_T58 l0_2 x13_1).f5.f2)] 58 (0, 0)) (byK BK348.out) hg (Kd.R_ne HL349_0.out BK348.out (by decide))); have n2_ := Aside0.mk (hb); have n3_ := Aside0.mk (Kd.H_grown (Kd.H_widen (by repeat (first | exact HH22.out | refine Kd.H_alloc ?_ _ | refine Kd.H_drewN ?_ _ | refine Kd.H_drew ?_))) hg (fun k_ e_ => .inl (UU22.out.1 k_ e_))); have n4_ := Aside0.mk (ho); clear BK343 BK348 HB HH22 HO_9 UU22 HL349_0; have BK343 := n0_; have BK348 := n1_; have HB := n2_; have HH22 := n3_; have HO352 := n4_; clear n0_ n1_ n2_ n3_ n4_ ho hb hg hat
           have p15 : 0 ≤ (((rd_T58 l0_2 x13_1).f0) : Int) := odt
           have q15 : (((rd_T58 l0_2 x13_1).f0) : Int) < ((x9_1.length : Int) : Int) := odt
           replace p15 := eq_true p15; replace q15 := eq_true q15
           obtain ⟨Ao26, co26, eo26⟩ := Kd.R_slice HO352.out
           (first | subst eo26 | (injection eo26 with f1_ f2_ f3_; have f4_ := f1_.symm; have f5_ := f3_.symm; clear f1_ f2_ f3_; subst f4_; subst f5_))
           obtain ⟨_, _, hraw24, _, _, hcc24, _⟩ := Kd.H_raw HH22.out (odt) (by have h_ : (((rd_T58 l0_2 x13_1).f0) : Int) < ((x9_1.length : Int) : Int) := odt; first | exact h_ | (have e_ := (HN22.out); omega) | simpa using h_)
           obtain ⟨_, hfr24⟩ := Kd.H_at HH22.out (odt) (by have h_ : (((rd_T58 l0_2 x13_1).f0) : Int) < ((x9_1.length : Int) : Int) := odt; first | exact h_ | (have e_ := (HN22.out); omega) | simpa using h_)
           have hx24_0 := hcc24 0 _ rfl; have hf24_0 := hfr24 0
           (try simp only [Nat.add_zero] at hx24_0 hf24_0)
           (try rw [show ((Kd.slice 3 (Kd.int .i64))).sz = 1 from rfl, Nat.mul_one] at hx24_0)
           (try rw [show ((Kd.slice 3 (Kd.int .i64))).sz = 1 from rfl, Nat.mul_one] at hf24_0)
           have HP24 := Kd.S_seg0 HH22.out (odt) (by have h_ : (((rd_T58 l0_2 x13_1).f0) : Int) < ((x9_1.length : Int) : Int) := odt; first | exact h_ | (have e_ := (HN22.out); omega) | simpa using h_) (seg := [.slice Ao26 y350.length co26]) (j := 0) (show 1 ≤ 1 from by decide) (x' := y350) (Kd.M_row HO352.out) (fun _ hk => hk)
           (try simp only [show ((Kd.slice 3 (Kd.int .i64))).sz = 1 from rfl, Nat.mul_one, Nat.add_zero] at HP24)
           clear hcc24 hfr24; have HNB343_go22 := Aside0.mk (show gb343 ≠ go22 from by have h_ := Kd.R_ne hraw24 BK343.out (by decide); intro e_; exact h_ (by rw [e_]; rfl)); have HNB348_go22 := Aside0.mk (show gb348 ≠ go22 from by have h_ := Kd.R_ne hraw24 BK348.out (by decide); intro e_; exact h_ (by rw [e_]; rfl)); have HS24 := HP24.1
           rw [← Ny353.out] at HS24
           have HQ24 := Aside0.mk HS24
           obtain ⟨_, hgg24⟩ := Kd.R_typed hraw24 go22 rfl
           have GG24_ := Aside0.mk hgg24; clear HP24 HS24 hgg24
           refine hK.out _ _ ⟨(blk_cell BK348.out 0).trans rfl, (blk_cell BK348.out 1).trans rfl, (blk_cell BK348.out 2).trans rfl, (blk_cell BK348.out 3).trans rfl, (blk_cell BK348.out 4).trans rfl, (blk_cell BK348.out 5).trans rfl, (blk_cell BK348.out 6).trans rfl, (blk_cell BK348.out 7).trans rfl, HS8_⟩ (fun hHeld => ?_)
           clear hK K
           refine norm_ (a' := ?_) ?_ ?_
           rotate_left
           ·show Act.put _ (some 28) _ = _
            simp only [putW]; rfl
           refine q_ 11 29 HT_ ?_
           refine last_ (i := 12) (N := none) (bits 13 8191) rfl rfl (one_of HT_.out (by kernel_rfl)) (by decide) (fun K hK => ?_)
           refine skip_ (w1 := ?_) (by rfl) rfl ?_ ?_
           rotate_left; (·go_simp; rfl)
           refine hK.out _ _ ?_
           clear hK K
           refine done_ (done_of HT_.out (by kernel_rfl)) ?_
           try go_wp2
           go_roundg k1
           case measure => have := HK1.out; omega
           case rel => exact ⟨(y353), (wrap64 (x13_1 + 1)), byF, H', ⟨by have := HK1.out; omega⟩, ⟨by (with_reducible repeat (first | apply Kd.S_alloc | apply Kd.S_drewN | apply Kd.S_drew)); exact HQ24.out⟩, ⟨by (with_reducible repeat (first | refine blk_drewN ?_ _ | refine blk_drew ?_ | refine blk_alloc ?_ _)); refine blk_far ?_ HNB343_go22.out _; (with_reducible repeat (first | refine blk_drewN ?_ _ | refine blk_drew ?_ | refine blk_alloc ?_ _)); exact BK343.out⟩, ⟨byB3 HB.out GB22.out GE343.out GE348.out⟩⟩
          ·rw [if_neg c14] at H
           exact absurd H (by simp)
         ·rw [if_neg c13] at H
          exact absurd H (by simp)
        ·rw [if_neg c12] at H
         exact absurd H (by simp)
       ·rw [if_neg c11] at H
        exact absurd H (by simp)
      ·rw [if_neg c10] at H
       exact absurd H (by simp)
     ·rw [if_neg c9] at H
      have c9b0 : decide (x13_1 < (l0_2.length : Int)) = false := decide_eq_false c9
      clear c9
      obtain rfl := Option.some.inj H
      go_wp2
      go_ret
      exact ⟨_, byE, by (with_reducible repeat (first | apply Kd.S_alloc | apply Kd.S_drewN | apply Kd.S_drew)); exact HO_9.out, byB1 HB.out GE343.out⟩
  ·rw [if_neg c3] at H
   exact absurd H (by simp)
 ·rw [if_neg c2] at H
  exact absurd H (by simp)
end Go.Proofs.Ytaodlehnfjalnaa.Print
