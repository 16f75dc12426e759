/- Several texts of this claim in one: F24, HTAll. -/
import Derived.Test.YtaodlehnfjalnaaPrint0
import Derived.Test.YtaodlehnfjalnaaM0
import Derived.Test.YtaodlehnfjalnaaM6
import Derived.Test.YtaodlehnfjalnaaM7
namespace Go.Proofs.Ytaodlehnfjalnaa.Print
open Go.RowKit Go.Proofs.YtaodlehnfjalnaaW.PrintWords Go.Proofs.YtaodlehnfjalnaaW.PrintLast Go.Proofs.YtaodlehnfjalnaaW.PrintMore
attribute [local go_sem] max2_int min2_int max_two min_two max_three min_three max_four min_four   -- for this text's walks alone
set_option linter.unusedVariables false
set_option linter.unusedSimpArgs false
/-! ### mapmakerref46_Graph: function 24 -/
def mapmakerref46_Graph.l0 : Nat → Int → List Int → List (S158) → List (S58) → Int → List (S92) → Option (Int × (List (S92)))
 | 0, _, _, _, _, _, _ => none
 | k + 1, x4, x289000, x289001, x289002, x291000, x291001 => if x4 < (x289002.length : Int) then (if 0 ≤ x4 then (if x291001.length < 8796093022208 then (mapmakerref46_Graph.l0 k (wrap64 (x4 + 1)) x289000 x289001 x289002 x291000 (x291001 ++ [(⟨(rd_T58 x289002 x4).f0, (rd_T58 x289002 x4).f1⟩ : S92)])) else (none)) else (none)) else (some (x291000, x291001))
def mapmakerref46_Graph.f (k : Nat) (l0_0 : List Int) (l0_1 : List (S158)) (l0_2 : List (S58)) : Option (Int × (List (S92))) := mapmakerref46_Graph.l0 k 0 l0_0 l0_1 l0_2 (l0_0.length : Int) ([] : List (S92))
def mapmakerref46_Graph.T5 : Bool × List (List Nat × List Nat) := (true, [([], []), ([0], [0]), ([], []), ([2], [2]), ([], []), ([3, 4], [3, 4]), ([5], [5]), ([6], [6]), ([], []), ([8], [8]), ([], []), ([9, 10], [9, 10]), ([11], [11]), ([12], [12]), ([7, 13], [7, 13]), ([14], [14]), ([1, 15], [1, 15]), ([0, 1, 2, 3, 4, 5, 6, 7, 8, 9, 10, 11, 12, 13, 14, 15, 16], []), ([17, 16, 16, 0, 1, 2, 3, 4, 5, 6, 7, 8, 9, 10, 11, 12, 13, 14, 15, 16], [16, 17])])
def mapmakerref46_Graph.B5 : List Nat := [0, 1, 0, 4, 0, 28, 60, 124, 0, 256, 0, 1792, 3840, 7936, 16380, 32764, 65535, 131071, 262143]
theorem mapmakerref46_Graph.tab5 : rtab .any (opsOf Try.f24 5) = mapmakerref46_Graph.T5 := by kernel_rfl
theorem mapmakerref46_Graph.bits5 : waitsOk mapmakerref46_Graph.T5.2 mapmakerref46_Graph.B5 = true := by kernel_rfl
set_option maxHeartbeats 8000000 in
set_option maxRecDepth 100000 in
theorem mapmakerref46_Graph.calls (k : Nat) (A0_0 : Option Addr) (c0_0 : Nat) (l0_0 : List Int) (A0_1 : Option Addr) (c0_1 : Nat) (l0_1 : List (S158)) (A0_2 : Option Addr) (c0_2 : Nat) (l0_2 : List (S58)) (r1 : Int) (r2 : List (S92)) (w : World) (hr0_0 : Kd.C (Kd.int .i64) w A0_0 l0_0.length l0_0) (hc0_0 : l0_0.length ≤ c0_0) (hr0_1 : Kd.C k158 w A0_1 l0_1.length l0_1) (hc0_1 : l0_1.length ≤ c0_1) (hr0_2 : Kd.C k58 w A0_2 l0_2.length l0_2) (hc0_2 : l0_2.length ≤ c0_2) (h : mapmakerref46_Graph.f k l0_0 l0_1 l0_2 = some (r1, r2)) :
  Calls Try.prog 24 #[.agg #[.slice A0_0 l0_0.length c0_0, .slice A0_1 l0_1.length c0_1, .slice A0_2 l0_2.length c0_2]] w fun e w' => ∃ v1_ : Value, e = .returned (.agg #[.int .i64 r1, v1_]) ∧ Kd.R k92 92 w' w.heap.size (fun _ => True) v1_ r2 ∧ Below w.heap.size w w' := by
 have hu37 := Try.underlying37; have hu51 := Try.underlying51; have hu92 := Try.underlying92; have HR0_0 := Aside0.mk hr0_0; have HC0_0 := Aside0.mk hc0_0; clear hr0_0 hc0_0; have HR0_1 := Aside0.mk hr0_1; have HC0_1 := Aside0.mk hc0_1; clear hr0_1 hc0_1; have HR0_2 := Aside0.mk hr0_2; have HC0_2 := Aside0.mk hc0_2; clear hr0_2 hc0_2; have HB := Aside0.mk (Below.refl w.heap.size w)
 have H : (mapmakerref46_Graph.l0 k 0 l0_0 l0_1 l0_2 (l0_0.length : Int) ([] : List (S92))) = some (r1, r2) := h
 clear h
 have H' := Aside0.mk H
 clear H
 go_enter Try.func24, Try.ntmps24
 go_wp2_with (first | ((with_reducible refine gate_dst (N := 1) rfl ?_); refine box_event ?hg (N := 1) ?hd (cs := #[.slice A0_0 l0_0.length c0_0, .slice A0_1 l0_1.length c0_1, .slice A0_2 l0_2.length c0_2]) (t := 37) ?hr ?_; (case hd => rfl); (case hg => rfl); (case hr => first | (go_simp; done) | (go_simp; rfl)); intro gb288 hg w2 hbox hb; have n0_ := Aside0.mk (below_step (byB HB.out) hb); have n1_ := Aside0.mk (hbox); have n2_ := Aside0.mk ((by rw [hg]; exact (below_size (byB HB.out)) : w.heap.size ≤ gb288)); have n3_ := Aside0.mk ((by rw [hg]; exact (below_size (byB HB.out)) : w.heap.size ≤ gb288)); clear HB; have HB := n0_; have BK288 := n1_; have GW288 := n2_; have GE288 := n3_; clear n0_ n1_ n2_ n3_ hb hbox hg) | ((with_reducible refine gate_dst (N := 2) rfl ?_); refine box_event ?hg (N := 2) ?hd (cs := #[.int .i64 0, .slice none 0 0]) (t := 51) ?hr ?_; (case hd => rfl); (case hg => rfl); (case hr => first | (go_simp; done) | (go_simp; rfl)); intro gb289 hg w3 hbox hb; have n0_ := Aside0.mk (blk_below (g := gb288) (o := .cells #[.slice A0_0 l0_0.length c0_0, .slice A0_1 l0_1.length c0_1, .slice A0_2 l0_2.length c0_2] 37 (0, 0)) (byK BK288.out) hb); have n1_ := Aside0.mk (below_step (byB1 HB.out GE288.out) hb); have n2_ := Aside0.mk (hbox); have n3_ := Aside0.mk ((by rw [hg]; exact (below_size (byB1 HB.out GE288.out)) : w.heap.size ≤ gb289)); have n4_ := Aside0.mk ((by rw [hg]; exact (below_size (byB1 HB.out GE288.out)) : w.heap.size ≤ gb289)); have n5_ := Aside0.mk ((by rw [hg]; exact Nat.ne_of_lt (blk_lt (g := gb288) (o := .cells #[.slice A0_0 l0_0.length c0_0, .slice A0_1 l0_1.length c0_1, .slice A0_2 l0_2.length c0_2] 37 (0, 0)) (byK BK288.out)) : gb288 ≠ gb289)); have n6_ := Aside0.mk ((by rw [hg]; exact Nat.ne_of_gt (blk_lt (g := gb288) (o := .cells #[.slice A0_0 l0_0.length c0_0, .slice A0_1 l0_1.length c0_1, .slice A0_2 l0_2.length c0_2] 37 (0, 0)) (byK BK288.out)) : gb289 ≠ gb288)); clear BK288 HB; have BK288 := n0_; have HB := n1_; have BK289 := n2_; have GW289 := n3_; have GE289 := n4_; have NB288_289 := n5_; have NB289_288 := n6_; clear n0_ n1_ n2_ n3_ n4_ n5_ n6_ hb hbox hg; have hnb4 := NB288_289.out; have hnc4 := NB289_288.out; have hcz5_0 : w3.cell? ⟨gb288, 0, none⟩ = some (.slice A0_0 l0_0.length c0_0) := (blk_cell BK288.out 0).trans rfl; have hcz5_1 : w3.cell? ⟨gb288, 1, none⟩ = some (.slice A0_1 l0_1.length c0_1) := (blk_cell BK288.out 1).trans rfl; have hcz5_2 : w3.cell? ⟨gb288, 2, none⟩ = some (.slice A0_2 l0_2.length c0_2) := (blk_cell BK288.out 2).trans rfl; have hfz5_0 := blk_frozen BK288.out 0; have hfz5_1 := blk_frozen BK288.out 1; have hfz5_2 := blk_frozen BK288.out 2) | ((with_reducible refine gate_dst (N := 3) rfl ?_); refine box_event ?hg (N := 3) ?hd (cs := #[.int .i64 0, .slice none 0 0]) (t := 51) ?hr ?_; (case hd => rfl); (case hg => rfl); (case hr => first | (go_simp; done) | (go_simp; rfl)); intro gb290 hg w6 hbox hb; have n0_ := Aside0.mk (blk_below (g := gb288) (o := .cells #[.slice A0_0 l0_0.length c0_0, .slice A0_1 l0_1.length c0_1, .slice A0_2 l0_2.length c0_2] 37 (0, 0)) (byK BK288.out) hb); have n1_ := Aside0.mk (blk_below (g := gb289) (o := .cells #[.int .i64 0, .slice none 0 0] 51 (0, 0)) (byK BK289.out) hb); have n2_ := Aside0.mk (below_step (byB2 HB.out GE288.out GE289.out) hb); have n3_ := Aside0.mk (hbox); have n4_ := Aside0.mk ((by rw [hg]; exact (below_size (byB2 HB.out GE288.out GE289.out)) : w.heap.size ≤ gb290)); have n5_ := Aside0.mk ((by rw [hg]; exact (below_size (byB2 HB.out GE288.out GE289.out)) : w.heap.size ≤ gb290)); have n6_ := Aside0.mk ((by rw [hg]; exact Nat.ne_of_lt (blk_lt (g := gb288) (o := .cells #[.slice A0_0 l0_0.length c0_0, .slice A0_1 l0_1.length c0_1, .slice A0_2 l0_2.length c0_2] 37 (0, 0)) (byK BK288.out)) : gb288 ≠ gb290)); have n7_ := Aside0.mk ((by rw [hg]; exact Nat.ne_of_gt (blk_lt (g := gb288) (o := .cells #[.slice A0_0 l0_0.length c0_0, .slice A0_1 l0_1.length c0_1, .slice A0_2 l0_2.length c0_2] 37 (0, 0)) (byK BK288.out)) : gb290 ≠ gb288)); have n8_ := Aside0.mk ((by rw [hg]; exact Nat.ne_of_lt (blk_lt (g := gb289) (o := .cells #[.int .i64 0, .slice none 0 0] 51 (0, 0)) (byK BK289.out)) : gb289 ≠ gb290)); have n9_ := Aside0.mk ((by rw [hg]; exact Nat.ne_of_gt (blk_lt (g := gb289) (o := .cells #[.int .i64 0, .slice none 0 0] 51 (0, 0)) (byK BK289.out)) : gb290 ≠ gb289)); clear BK288 BK289 HB; have BK288 := n0_; have BK289 := n1_; have HB := n2_; have BK290 := n3_; have GW290 := n4_; have GE290 := n5_; have NB288_290 := n6_; have NB290_288 := n7_; have NB289_290 := n8_; have NB290_289 := n9_; clear n0_ n1_ n2_ n3_ n4_ n5_ n6_ n7_ n8_ n9_ hb hbox hg; have hnb7 := NB290_288.out; have hnc7 := NB288_290.out; have hnb8 := NB290_289.out; have hnc8 := NB289_290.out; have hcz9_0 : w6.cell? ⟨gb290, 0, none⟩ = some (.int .i64 0) := (blk_cell BK290.out 0).trans rfl; have hcz9_1 : w6.cell? ⟨gb290, 1, none⟩ = some (.slice none 0 0) := (blk_cell BK290.out 1).trans rfl; have hfz9_0 := blk_frozen BK290.out 0; have hfz9_1 := blk_frozen BK290.out 1))
 go_loopg [4] k (fun kq v4 w' => ∃ (x4_1 : Int) (x291001_1 : List (S92)) (u291001 : Value), v4 = .int .i64 x4_1 ∧ Aside0 (mapmakerref46_Graph.l0 kq x4_1 l0_0 l0_1 l0_2 (l0_0.length : Int) x291001_1 = some (r1, r2)) ∧ Aside0 (kq ≤ k) ∧ Aside0 (Kd.R k92 92 w' w.heap.size (fun _ => True) u291001 x291001_1) ∧ Aside0 (w'.heap[gb288]? = some (.cells #[(.slice A0_0 l0_0.length c0_0), (.slice A0_1 l0_1.length c0_1), (.slice A0_2 l0_2.length c0_2)] 37 (0, 0))) ∧ Aside0 (w'.heap[gb289]? = some (.cells #[.int .i64 0, (.slice none 0 0)] 51 (0, 0))) ∧ Aside0 (w'.heap[gb290]? = some (.cells #[.int .i64 (l0_0.length : Int), u291001] 51 (0, 0))) ∧ Aside0 (Below w.heap.size w w'))
 case atStart => exact ⟨(0), (([] : List (S92))), (.slice none 0 0), byF, H', ⟨Nat.le_refl _⟩, ⟨by first | exact Kd.R_nil _ _ _ _ _ | exact Kd.N_nil _ _ _ _ _ | exact Kd.V_nil _ _ _ _ _ | exact Kd.Q_nil _ _ _ _ _ | exact Kd.S_nil _ _ _ _ _⟩, ⟨by (with_reducible repeat (first | refine blk_drewN ?_ _ | refine blk_drew ?_ | refine blk_alloc ?_ _)); refine blk_far ?_ NB288_290.out _; (with_reducible repeat (first | refine blk_drewN ?_ _ | refine blk_drew ?_ | refine blk_alloc ?_ _)); refine blk_far ?_ NB288_290.out _; (with_reducible repeat (first | refine blk_drewN ?_ _ | refine blk_drew ?_ | refine blk_alloc ?_ _)); exact BK288.out⟩, ⟨by (with_reducible repeat (first | refine blk_drewN ?_ _ | refine blk_drew ?_ | refine blk_alloc ?_ _)); refine blk_far ?_ NB289_290.out _; (with_reducible repeat (first | refine blk_drewN ?_ _ | refine blk_drew ?_ | refine blk_alloc ?_ _)); refine blk_far ?_ NB289_290.out _; (with_reducible repeat (first | refine blk_drewN ?_ _ | refine blk_drew ?_ | refine blk_alloc ?_ _)); exact BK289.out⟩, ⟨by (with_reducible repeat (first | refine blk_drewN ?_ _ | refine blk_drew ?_ | refine blk_alloc ?_ _)); refine blk_put (cs := #[.int .i64 (l0_0.length : Int), .slice none 0 0]) ?_ 1 _ rfl; (with_reducible repeat (first | refine blk_drewN ?_ _ | refine blk_drew ?_ | refine blk_alloc ?_ _)); refine blk_put (cs := #[.int .i64 0, .slice none 0 0]) ?_ 0 _ rfl; (with_reducible repeat (first | refine blk_drewN ?_ _ | refine blk_drew ?_ | refine blk_alloc ?_ _)); exact BK290.out⟩, ⟨byB3 HB.out GE288.out GE289.out GE290.out⟩⟩
 case round =>
  clear H'
  try clear c2
  try clear p2
  try clear c4
  try clear c7
  try clear c8
  try clear hcz5_0
  try clear hcz5_1
  try clear hcz5_2
  try clear hcz9_0
  try clear hcz9_1
  try clear hfz5_0
  try clear hfz5_1
  try clear hfz5_2
  try clear hfz9_0
  try clear hfz9_1
  obtain ⟨x4_1, x291001_1, u291001, rfl, HA, HK1, HO_291001, BK288, BK289, BK290, HB⟩ := hrel
  cases gk with
  | zero => exact absurd HA.out (by simp [mapmakerref46_Graph.l0])
  | succ k1 =>
   have H := HA.out; clear HA
   simp only [mapmakerref46_Graph.l0] at H
   by_cases c10 : x4_1 < (l0_2.length : Int)
   ·rw [if_pos c10] at H
    have c10b0 : decide (x4_1 < (l0_2.length : Int)) = true := decide_eq_true c10
    clear c10
    by_cases c11 : 0 ≤ x4_1
    ·rw [if_pos c11] at H
     have c11b0 : decide (0 ≤ x4_1) = true := decide_eq_true c11
     clear c11
     by_cases c12 : x291001_1.length < 8796093022208
     ·rw [if_pos c12] at H
      have LMc12 := Aside0.mk c12; clear c12
      obtain ⟨y293, hy293⟩ : ∃ y_ : List (S92), y_ = (x291001_1 ++ [(⟨(rd_T58 l0_2 x4_1).f0, (rd_T58 l0_2 x4_1).f1⟩ : S92)]) := ⟨_, rfl⟩
      replace H : (mapmakerref46_Graph.l0 k1 (wrap64 (x4_1 + 1)) l0_0 l0_1 l0_2 (l0_0.length : Int) y293) = some (r1, r2) := by first | (rw [hy293]; with_reducible exact H) | (have H2_ := (Option.bind_some _ _).symm.trans H; rw [hy293]; with_reducible exact H2_) | (have H2_ := (Option.bind_some _ _).symm.trans H; with_reducible exact H2_) | with_reducible exact H | (rw [hy293]; exact H) | exact H
      have Ny293 := Aside0.mk hy293; clear hy293
      have H' := Aside0.mk H
      clear H; have hnb13 := NB288_289.out; have hnc13 := NB289_288.out; have hnb14 := NB288_290.out; have hnc14 := NB290_288.out
      have hcz15_0 : wr.cell? ⟨gb288, 0, none⟩ = some (.slice A0_0 l0_0.length c0_0) := (blk_cell BK288.out 0).trans rfl
      have hcz15_1 : wr.cell? ⟨gb288, 1, none⟩ = some (.slice A0_1 l0_1.length c0_1) := (blk_cell BK288.out 1).trans rfl
      have hcz15_2 : wr.cell? ⟨gb288, 2, none⟩ = some (.slice A0_2 l0_2.length c0_2) := (blk_cell BK288.out 2).trans rfl
      have hfz15_0 := blk_frozen BK288.out 0; have hfz15_1 := blk_frozen BK288.out 1; have hfz15_2 := blk_frozen BK288.out 2
      try go_wp2
      have n0_ := Aside0.mk (Kd.R_drew HO_291001.out); have n1_ := Aside0.mk (blk_drew BK288.out); have n2_ := Aside0.mk (blk_drew BK289.out); have n3_ := Aside0.mk (blk_drew BK290.out); have n4_ := Aside0.mk (below_drew1 HB.out); clear HO_291001 BK288 BK289 BK290 HB; have HO_291001 := n0_; have BK288 := n1_; have BK289 := n2_; have BK290 := n3_; have HB := n4_; clear n0_ n1_ n2_ n3_ n4_
      have p291 : 0 ≤ (x4_1 : Int) := odt
      have q291 : x4_1 < (l0_2.length : Int) := odt
      obtain ⟨ad291, A291_5, c291_5, e291, hx291_0, hx291_1, hx291_2, hx291_3, hx291_4, hx291_5, hx291_6, hx291_7, hl291_5, hi291_5⟩ := at_T58 HR0_2.out x4_1 p291 q291
      have hw291_7 := hx291_7; have hw291_6 := hx291_6; have hw291_5 := hx291_5; have hw291_4 := hx291_4; have hw291_3 := hx291_3; have hw291_2 := hx291_2; have hw291_1 := hx291_1; have hw291_0 := hx291_0
      cases e291
      replace hx291_0 := (HB.out.cell (World.block_lt_of_cell? w _ hx291_0)).trans hx291_0
      replace hx291_1 := (HB.out.cell (World.block_lt_of_cell? w _ hx291_1)).trans hx291_1
      replace hx291_2 := (HB.out.cell (World.block_lt_of_cell? w _ hx291_2)).trans hx291_2
      replace hx291_3 := (HB.out.cell (World.block_lt_of_cell? w _ hx291_3)).trans hx291_3
      replace hx291_4 := (HB.out.cell (World.block_lt_of_cell? w _ hx291_4)).trans hx291_4
      replace hx291_5 := (HB.out.cell (World.block_lt_of_cell? w _ hx291_5)).trans hx291_5
      replace hx291_6 := (HB.out.cell (World.block_lt_of_cell? w _ hx291_6)).trans hx291_6
      replace hx291_7 := (HB.out.cell (World.block_lt_of_cell? w _ hx291_7)).trans hx291_7
      have HR291_5 := Aside0.mk hi291_5; have HC291_5 := Aside0.mk hl291_5; clear hi291_5 hl291_5; replace p291 := eq_true p291; replace q291 := eq_true q291
      have p292 : 0 ≤ (x4_1 : Int) := odt
      have q292 : x4_1 < (l0_2.length : Int) := odt
      obtain ⟨ad292, A292_5, c292_5, e292, hx292_0, hx292_1, hx292_2, hx292_3, hx292_4, hx292_5, hx292_6, hx292_7, hl292_5, hi292_5⟩ := at_T58 HR0_2.out x4_1 p292 q292
      have hw292_7 := hx292_7; have hw292_6 := hx292_6; have hw292_5 := hx292_5; have hw292_4 := hx292_4; have hw292_3 := hx292_3; have hw292_2 := hx292_2; have hw292_1 := hx292_1; have hw292_0 := hx292_0
      obtain rfl : ad291 = ad292 := (by injection e292)
      replace hx292_0 := (HB.out.cell (World.block_lt_of_cell? w _ hx292_0)).trans hx292_0
      replace hx292_1 := (HB.out.cell (World.block_lt_of_cell? w _ hx292_1)).trans hx292_1
      replace hx292_2 := (HB.out.cell (World.block_lt_of_cell? w _ hx292_2)).trans hx292_2
      replace hx292_3 := (HB.out.cell (World.block_lt_of_cell? w _ hx292_3)).trans hx292_3
      replace hx292_4 := (HB.out.cell (World.block_lt_of_cell? w _ hx292_4)).trans hx292_4
      replace hx292_5 := (HB.out.cell (World.block_lt_of_cell? w _ hx292_5)).trans hx292_5
      replace hx292_6 := (HB.out.cell (World.block_lt_of_cell? w _ hx292_6)).trans hx292_6
      replace hx292_7 := (HB.out.cell (World.block_lt_of_cell? w _ hx292_7)).trans hx292_7
      have HR292_5 := Aside0.mk hi292_5; have HC292_5 := Aside0.mk hl292_5; clear hi292_5 hl292_5; replace p292 := eq_true p292; replace q292 := eq_true q292
      have ea_ := Option.some.inj (hx291_5.symm.trans hx292_5)
      injection ea_ with ea_ en_ ec_
      subst ea_; subst ec_; clear en_
      refine start_ (n := 19) (S := fun w' => w'.cell? ⟨gb290, 0, none⟩ = some (.int .i64 (l0_0.length : Int)) ∧ w'.cell? ⟨gb290, 1, none⟩ = some (u291001) ∧ w'.cell? ⟨gb288, 0, none⟩ = some (.slice A0_0 l0_0.length c0_0) ∧ w'.cell? ⟨gb288, 1, none⟩ = some (.slice A0_1 l0_1.length c0_1) ∧ w'.cell? ⟨gb288, 2, none⟩ = some (.slice (some ad291) l0_2.length c0_2) ∧ w'.cell? (ad291.add ((x4_1).toNat * 8)) = some (.int .i64 ((rd_T58 l0_2 x4_1).f0)) ∧ w'.cell? ⟨(ad291.add ((x4_1).toNat * 8)).block, (ad291.add ((x4_1).toNat * 8)).off + 1, none⟩ = some (.int .i64 ((rd_T58 l0_2 x4_1).f1)) ∧ w'.cell? ⟨(ad291.add ((x4_1).toNat * 8)).block, (ad291.add ((x4_1).toNat * 8)).off + 2, none⟩ = some (.int .i64 ((rd_T58 l0_2 x4_1).f2)) ∧ w'.cell? ⟨(ad291.add ((x4_1).toNat * 8)).block, (ad291.add ((x4_1).toNat * 8)).off + 3, none⟩ = some (.int .i64 ((rd_T58 l0_2 x4_1).f3)) ∧ w'.cell? ⟨(ad291.add ((x4_1).toNat * 8)).block, (ad291.add ((x4_1).toNat * 8)).off + 4, none⟩ = some (.int .i64 ((rd_T58 l0_2 x4_1).f4)) ∧ w'.cell? ⟨(ad291.add ((x4_1).toNat * 8)).block, (ad291.add ((x4_1).toNat * 8)).off + 5, none⟩ = some (.slice A291_5 ((rd_T58 l0_2 x4_1).f5.f0).length c291_5) ∧ w'.cell? ⟨(ad291.add ((x4_1).toNat * 8)).block, (ad291.add ((x4_1).toNat * 8)).off + 6, none⟩ = some (.int .i64 ((rd_T58 l0_2 x4_1).f5.f1)) ∧ w'.cell? ⟨(ad291.add ((x4_1).toNat * 8)).block, (ad291.add ((x4_1).toNat * 8)).off + 7, none⟩ = some (.int .i64 ((rd_T58 l0_2 x4_1).f5.f2)) ∧ w'.cell? (ad291.add ((x4_1).toNat * 8)) = some (.int .i64 ((rd_T58 l0_2 x4_1).f0)) ∧ w'.cell? ⟨(ad291.add ((x4_1).toNat * 8)).block, (ad291.add ((x4_1).toNat * 8)).off + 1, none⟩ = some (.int .i64 ((rd_T58 l0_2 x4_1).f1)) ∧ w'.cell? ⟨(ad291.add ((x4_1).toNat * 8)).block, (ad291.add ((x4_1).toNat * 8)).off + 2, none⟩ = some (.int .i64 ((rd_T58 l0_2 x4_1).f2)) ∧ w'.cell? ⟨(ad291.add ((x4_1).toNat * 8)).block, (ad291.add ((x4_1).toNat * 8)).off + 3, none⟩ = some (.int .i64 ((rd_T58 l0_2 x4_1).f3)) ∧ w'.cell? ⟨(ad291.add ((x4_1).toNat * 8)).block, (ad291.add ((x4_1).toNat * 8)).off + 4, none⟩ = some (.int .i64 ((rd_T58 l0_2 x4_1).f4)) ∧ w'.cell? ⟨(ad291.add ((x4_1).toNat * 8)).block, (ad291.add ((x4_1).toNat * 8)).off + 5, none⟩ = some (.slice A291_5 ((rd_T58 l0_2 x4_1).f5.f0).length c291_5) ∧ w'.cell? ⟨(ad291.add ((x4_1).toNat * 8)).block, (ad291.add ((x4_1).toNat * 8)).off + 6, none⟩ = some (.int .i64 ((rd_T58 l0_2 x4_1).f5.f1)) ∧ w'.cell? ⟨(ad291.add ((x4_1).toNat * 8)).block, (ad291.add ((x4_1).toNat * 8)).off + 7, none⟩ = some (.int .i64 ((rd_T58 l0_2 x4_1).f5.f2))) (ds := [18]) (bits 19 0) (by kernel_rfl) rfl rfl ⟨(blk_cell BK290.out 0).trans rfl, (blk_cell BK290.out 1).trans rfl, (blk_cell BK288.out 0).trans rfl, (blk_cell BK288.out 1).trans rfl, (blk_cell BK288.out 2).trans rfl, ((HB.out.cell (World.block_lt_of_cell? w _ hw291_0)).trans hw291_0), ((HB.out.cell (World.block_lt_of_cell? w _ hw291_1)).trans hw291_1), ((HB.out.cell (World.block_lt_of_cell? w _ hw291_2)).trans hw291_2), ((HB.out.cell (World.block_lt_of_cell? w _ hw291_3)).trans hw291_3), ((HB.out.cell (World.block_lt_of_cell? w _ hw291_4)).trans hw291_4), ((HB.out.cell (World.block_lt_of_cell? w _ hw291_5)).trans hw291_5), ((HB.out.cell (World.block_lt_of_cell? w _ hw291_6)).trans hw291_6), ((HB.out.cell (World.block_lt_of_cell? w _ hw291_7)).trans hw291_7), ((HB.out.cell (World.block_lt_of_cell? w _ hw292_0)).trans hw292_0), ((HB.out.cell (World.block_lt_of_cell? w _ hw292_1)).trans hw292_1), ((HB.out.cell (World.block_lt_of_cell? w _ hw292_2)).trans hw292_2), ((HB.out.cell (World.block_lt_of_cell? w _ hw292_3)).trans hw292_3), ((HB.out.cell (World.block_lt_of_cell? w _ hw292_4)).trans hw292_4), ((HB.out.cell (World.block_lt_of_cell? w _ hw292_5)).trans hw292_5), ((HB.out.cell (World.block_lt_of_cell? w _ hw292_6)).trans hw292_6), ((HB.out.cell (World.block_lt_of_cell? w _ hw292_7)).trans hw292_7)⟩ (fun hHeld => ?_); refine with_tabW mapmakerref46_Graph.tab5 mapmakerref46_Graph.bits5 (fun HT_ HW_ => ?_)
      generalize wr.drew = w16 at HO_291001 BK288 BK289 BK290 HB HR291_5 HR292_5 hx291_0 hx291_1 hx291_2 hx291_3 hx291_4 hx291_5 hx291_6 hx291_7 hx292_0 hx292_1 hx292_2 hx292_3 hx292_4 hx292_5 hx292_6 hx292_7 hHeld ⊢
      refine q_ 0 16 HT_ ?_; refine q_ 2 18 HT_ ?_; refine q_ 4 20 HT_ ?_; refine q_ 8 24 HT_ ?_; refine q_ 10 26 HT_ ?_; refine take_ (i := 1) (N := some 17) (v := ?_) (a' := ?_) (bits 19 1303) rfl rfl (take_ofW HT_.out HW_.out (by kernel_rfl)) (fun _ _ _ h => h) (Or.inl ⟨by rfl, ?_⟩) hHeld ?_ ?_; rotate_left; (·rintro w' ⟨s0, s1, s2, s3, s4, s5, s6, s7, s8, s9, s10, s11, s12, s13, s14, s15, s16, s17, s18, s19, s20⟩; go_simp; with_reducible rfl); rotate_left; (·simp only [putW]; rfl); refine take_ (i := 3) (N := some 19) (v := ?_) (a' := ?_) (bits 19 1311) rfl rfl (take_ofW HT_.out HW_.out (by kernel_rfl)) (fun _ _ _ h => h) (Or.inl ⟨by rfl, ?_⟩) hHeld ?_ ?_; rotate_left; (·rintro w' ⟨s0, s1, s2, s3, s4, s5, s6, s7, s8, s9, s10, s11, s12, s13, s14, s15, s16, s17, s18, s19, s20⟩; go_simp; with_reducible rfl); rotate_left; (·simp only [putW]; rfl); refine q_ 5 21 HT_ ?_; refine q_ 6 22 HT_ ?_; refine take_ (i := 7) (N := some 23) (v := ?_) (a' := ?_) (bits 19 1535) rfl rfl (take_ofW HT_.out HW_.out (by kernel_rfl)) (fun _ _ _ h => h) (Or.inl ⟨by rfl, ?_⟩) hHeld ?_ ?_; rotate_left; (·rintro w' ⟨s0, s1, s2, s3, s4, s5, s6, s7, s8, s9, s10, s11, s12, s13, s14, s15, s16, s17, s18, s19, s20⟩; go_simp; with_reducible rfl); rotate_left; (·simp only [putW]; rfl); refine take_ (i := 9) (N := some 25) (v := ?_) (a' := ?_) (bits 19 2047) rfl rfl (take_ofW HT_.out HW_.out (by kernel_rfl)) (fun _ _ _ h => h) (Or.inl ⟨by rfl, ?_⟩) hHeld ?_ ?_; rotate_left; (·rintro w' ⟨s0, s1, s2, s3, s4, s5, s6, s7, s8, s9, s10, s11, s12, s13, s14, s15, s16, s17, s18, s19, s20⟩; go_simp; with_reducible rfl); rotate_left; (·simp only [putW]; rfl); refine q_ 11 27 HT_ ?_; refine q_ 12 28 HT_ ?_; refine take_ (i := 13) (N := some 29) (v := ?_) (a' := ?_) (bits 19 16383) rfl rfl (take_ofW HT_.out HW_.out (by kernel_rfl)) (fun _ _ _ h => h) (Or.inl ⟨by rfl, ?_⟩) hHeld ?_ ?_; rotate_left; (·rintro w' ⟨s0, s1, s2, s3, s4, s5, s6, s7, s8, s9, s10, s11, s12, s13, s14, s15, s16, s17, s18, s19, s20⟩; go_simp; with_reducible rfl); rotate_left; (·simp only [putW]; rfl); refine q_ 14 30 HT_ ?_; refine one_ (i := 15) (N := some 31) (bits 19 65535) rfl rfl (one_of HT_.out (by kernel_rfl)) (by decide) (fun K hK => ?_)
      refine value_ (w1 := ?_) (v := ?_) (by rfl) rfl ?_ ?_
      rotate_left 2
      ·go_simp
       constructor
       (·rfl); (·rfl)
      refine hK.out _ _ ⟨(blk_cell (blk_alloc BK290.out _) 0).trans rfl, (blk_cell (blk_alloc BK290.out _) 1).trans rfl, (blk_cell (blk_alloc BK288.out _) 0).trans rfl, (blk_cell (blk_alloc BK288.out _) 1).trans rfl, (blk_cell (blk_alloc BK288.out _) 2).trans rfl, (World.cell?_alloc_lt _ _ _ (World.block_lt_of_cell? _ _ (((HB.out.cell (World.block_lt_of_cell? w _ hw291_0)).trans hw291_0)))).trans (((HB.out.cell (World.block_lt_of_cell? w _ hw291_0)).trans hw291_0)), (World.cell?_alloc_lt _ _ _ (World.block_lt_of_cell? _ _ (((HB.out.cell (World.block_lt_of_cell? w _ hw291_1)).trans hw291_1)))).trans (((HB.out.cell (World.block_lt_of_cell? w _ hw291_1)).trans hw291_1)), (World.cell?_alloc_lt _ _ _ (World.block_lt_of_cell? _ _ (((HB.out.cell (World.block_lt_of_cell? w _ hw291_2)).trans hw291_2)))).trans (((HB.out.cell (World.block_lt_of_cell? w _ hw291_2)).trans hw291_2)), (World.cell?_alloc_lt _ _ _ (World.block_lt_of_cell? _ _ (((HB.out.cell (World.block_lt_of_cell? w _ hw291_3)).trans hw291_3)))).trans (((HB.out.cell (World.block_lt_of_cell? w _ hw291_3)).trans hw291_3)), (World.cell?_alloc_lt _ _ _ (World.block_lt_of_cell? _ _ (((HB.out.cell (World.block_lt_of_cell? w _ hw291_4)).trans hw291_4)))).trans (((HB.out.cell (World.block_lt_of_cell? w _ hw291_4)).trans hw291_4)), (World.cell?_alloc_lt _ _ _ (World.block_lt_of_cell? _ _ (((HB.out.cell (World.block_lt_of_cell? w _ hw291_5)).trans hw291_5)))).trans (((HB.out.cell (World.block_lt_of_cell? w _ hw291_5)).trans hw291_5)), (World.cell?_alloc_lt _ _ _ (World.block_lt_of_cell? _ _ (((HB.out.cell (World.block_lt_of_cell? w _ hw291_6)).trans hw291_6)))).trans (((HB.out.cell (World.block_lt_of_cell? w _ hw291_6)).trans hw291_6)), (World.cell?_alloc_lt _ _ _ (World.block_lt_of_cell? _ _ (((HB.out.cell (World.block_lt_of_cell? w _ hw291_7)).trans hw291_7)))).trans (((HB.out.cell (World.block_lt_of_cell? w _ hw291_7)).trans hw291_7)), (World.cell?_alloc_lt _ _ _ (World.block_lt_of_cell? _ _ (((HB.out.cell (World.block_lt_of_cell? w _ hw292_0)).trans hw292_0)))).trans (((HB.out.cell (World.block_lt_of_cell? w _ hw292_0)).trans hw292_0)), (World.cell?_alloc_lt _ _ _ (World.block_lt_of_cell? _ _ (((HB.out.cell (World.block_lt_of_cell? w _ hw292_1)).trans hw292_1)))).trans (((HB.out.cell (World.block_lt_of_cell? w _ hw292_1)).trans hw292_1)), (World.cell?_alloc_lt _ _ _ (World.block_lt_of_cell? _ _ (((HB.out.cell (World.block_lt_of_cell? w _ hw292_2)).trans hw292_2)))).trans (((HB.out.cell (World.block_lt_of_cell? w _ hw292_2)).trans hw292_2)), (World.cell?_alloc_lt _ _ _ (World.block_lt_of_cell? _ _ (((HB.out.cell (World.block_lt_of_cell? w _ hw292_3)).trans hw292_3)))).trans (((HB.out.cell (World.block_lt_of_cell? w _ hw292_3)).trans hw292_3)), (World.cell?_alloc_lt _ _ _ (World.block_lt_of_cell? _ _ (((HB.out.cell (World.block_lt_of_cell? w _ hw292_4)).trans hw292_4)))).trans (((HB.out.cell (World.block_lt_of_cell? w _ hw292_4)).trans hw292_4)), (World.cell?_alloc_lt _ _ _ (World.block_lt_of_cell? _ _ (((HB.out.cell (World.block_lt_of_cell? w _ hw292_5)).trans hw292_5)))).trans (((HB.out.cell (World.block_lt_of_cell? w _ hw292_5)).trans hw292_5)), (World.cell?_alloc_lt _ _ _ (World.block_lt_of_cell? _ _ (((HB.out.cell (World.block_lt_of_cell? w _ hw292_6)).trans hw292_6)))).trans (((HB.out.cell (World.block_lt_of_cell? w _ hw292_6)).trans hw292_6)), (World.cell?_alloc_lt _ _ _ (World.block_lt_of_cell? _ _ (((HB.out.cell (World.block_lt_of_cell? w _ hw292_7)).trans hw292_7)))).trans (((HB.out.cell (World.block_lt_of_cell? w _ hw292_7)).trans hw292_7))⟩ (fun hHeld => ?_)
      clear hK K
      refine norm_ (a' := ?_) ?_ ?_
      rotate_left
      ·show Act.put _ (some 31) _ = _
       simp only [putW]; rfl
      refine one_ (i := 16) (N := some 32) (bits 19 131071) rfl rfl (one_of HT_.out (by kernel_rfl)) (by decide) (fun K hK => ?_)
      refine Kd.R_append_step k92 (w0 := w) w.heap.size (by rfl) (.tmp 17) (.tmp 31) 49 92 (.agg #[(.int .i64 0), (.int .i64 0)]) 16 rfl Try.underlying49 info92 rfl (by decide) (by omega) u291001 x291001_1 (⟨(rd_T58 l0_2 x4_1).f0, (rd_T58 l0_2 x4_1).f1⟩ : S92) [.int .i64 ((rd_T58 l0_2 x4_1).f0), .int .i64 ((rd_T58 l0_2 x4_1).f1)] (fun _ => True) (fun _ => False) rfl rfl ?aP (fun _ hk => hk.elim) ?aF ?aO ?aB ?aS ?aL ?_
      (case aP => exact k92_mkM _ _ _ (⟨(rd_T58 l0_2 x4_1).f0, (rd_T58 l0_2 x4_1).f1⟩ : S92))
      (case aB => exact (byB3 HB.out GE288.out GE289.out GE290.out))
      (case aF => exact (fun _ _ => trivial))
      (case aO => exact (byR HO_291001.out))
      (case aS => exact (below_size (byB3 HB.out GE288.out GE289.out GE290.out)))
      (case aL => have := LMc12.out; omega)
      intro v294 w17 ho hb hg hat
      rw [← Ny293.out] at ho
      have n0_ := Aside0.mk (blk_grown (g := gb288) (o := .cells #[.slice A0_0 l0_0.length c0_0, .slice A0_1 l0_1.length c0_1, .slice (some ad291) l0_2.length c0_2] 37 (0, 0)) (byK BK288.out) hg (Kd.R_ne HO_291001.out BK288.out (by decide))); have n1_ := Aside0.mk (blk_grown (g := gb289) (o := .cells #[.int .i64 0, .slice none 0 0] 51 (0, 0)) (byK BK289.out) hg (Kd.R_ne HO_291001.out BK289.out (by decide))); have n2_ := Aside0.mk (blk_grown (g := gb290) (o := .cells #[.int .i64 (l0_0.length : Int), u291001] 51 (0, 0)) (byK BK290.out) hg (Kd.R_ne HO_291001.out BK290.out (by decide))); have n3_ := Aside0.mk (hb); have n4_ := Aside0.mk (ho); clear BK288 BK289 BK290 HB HO_291001; have BK288 := n0_; have BK289 := n1_; have BK290 := n2_; have HB := n3_; have HO295 := n4_; clear n0_ n1_ n2_ n3_ n4_ ho hb hg hat
      obtain ⟨Ao18, co18, eo18⟩ := Kd.R_slice HO295.out
      (first | subst eo18 | (injection eo18 with f1_ f2_ f3_; have f4_ := f1_.symm; have f5_ := f3_.symm; clear f1_ f2_ f3_; subst f4_; subst f5_))
      refine hK.out _ _ ⟨(blk_cell BK290.out 0).trans rfl, (blk_cell BK290.out 1).trans rfl, (blk_cell BK288.out 0).trans rfl, (blk_cell BK288.out 1).trans rfl, (blk_cell BK288.out 2).trans rfl, ((HB.out.cell (World.block_lt_of_cell? w _ hw291_0)).trans hw291_0), ((HB.out.cell (World.block_lt_of_cell? w _ hw291_1)).trans hw291_1), ((HB.out.cell (World.block_lt_of_cell? w _ hw291_2)).trans hw291_2), ((HB.out.cell (World.block_lt_of_cell? w _ hw291_3)).trans hw291_3), ((HB.out.cell (World.block_lt_of_cell? w _ hw291_4)).trans hw291_4), ((HB.out.cell (World.block_lt_of_cell? w _ hw291_5)).trans hw291_5), ((HB.out.cell (World.block_lt_of_cell? w _ hw291_6)).trans hw291_6), ((HB.out.cell (World.block_lt_of_cell? w _ hw291_7)).trans hw291_7), ((HB.out.cell (World.block_lt_of_cell? w _ hw292_0)).trans hw292_0), ((HB.out.cell (World.block_lt_of_cell? w _ hw292_1)).trans hw292_1), ((HB.out.cell (World.block_lt_of_cell? w _ hw292_2)).trans hw292_2), ((HB.out.cell (World.block_lt_of_cell? w _ hw292_3)).trans hw292_3), ((HB.out.cell (World.block_lt_of_cell? w _ hw292_4)).trans hw292_4), ((HB.out.cell (World.block_lt_of_cell? w _ hw292_5)).trans hw292_5), ((HB.out.cell (World.block_lt_of_cell? w _ hw292_6)).trans hw292_6), ((HB.out.cell (World.block_lt_of_cell? w _ hw292_7)).trans hw292_7)⟩ (fun hHeld => ?_)
      clear hK K
      refine norm_ (a' := ?_) ?_ ?_
      rotate_left
      ·show Act.put _ (some 32) _ = _
       simp only [putW]; rfl
      refine q_ 17 33 HT_ ?_
      refine last_ (i := 18) (N := none) (bits 19 524287) rfl rfl (one_of HT_.out (by kernel_rfl)) (by decide) (fun K hK => ?_)
      have hs19 : w17.cell? ⟨gb290, 1, none⟩ = some (u291001) := (blk_cell BK290.out 1).trans rfl
      have hfs19 := blk_frozen BK290.out 1; have hns19_0 := NB288_290.out; have hns19_1 := NB289_290.out; have hms19_0 := NB290_288.out; have hms19_1 := NB290_289.out
      refine skip_ (w1 := ?_) (by rfl) rfl ?_ ?_
      rotate_left; (·go_simp; rfl)
      refine hK.out _ _ ?_
      clear hK K
      refine done_ (done_of HT_.out (by kernel_rfl)) ?_
      try go_wp2
      go_roundg k1
      case measure => have := HK1.out; omega
      case rel => exact ⟨(wrap64 (x4_1 + 1)), (y293), (.slice Ao18 y293.length co18), byF, H', ⟨by have := HK1.out; omega⟩, ⟨by (with_reducible repeat (first | apply Kd.R_alloc | apply Kd.R_drewN | apply Kd.R_drew)); exact Kd.R_mono (Kd.R_far (p := ⟨gb290, 1, none⟩) (Kd.R_types HO295.out BK290.out (by decide)) (fun _ hk => hk.2) (.slice Ao18 y293.length co18)) (fun _ hk => trivial)⟩, ⟨by (with_reducible repeat (first | refine blk_drewN ?_ _ | refine blk_drew ?_ | refine blk_alloc ?_ _)); refine blk_far ?_ NB288_290.out _; (with_reducible repeat (first | refine blk_drewN ?_ _ | refine blk_drew ?_ | refine blk_alloc ?_ _)); exact BK288.out⟩, ⟨by (with_reducible repeat (first | refine blk_drewN ?_ _ | refine blk_drew ?_ | refine blk_alloc ?_ _)); refine blk_far ?_ NB289_290.out _; (with_reducible repeat (first | refine blk_drewN ?_ _ | refine blk_drew ?_ | refine blk_alloc ?_ _)); exact BK289.out⟩, ⟨by (with_reducible repeat (first | refine blk_drewN ?_ _ | refine blk_drew ?_ | refine blk_alloc ?_ _)); refine blk_put (cs := #[.int .i64 (l0_0.length : Int), u291001]) ?_ 1 _ rfl; (with_reducible repeat (first | refine blk_drewN ?_ _ | refine blk_drew ?_ | refine blk_alloc ?_ _)); exact BK290.out⟩, ⟨byB3 HB.out GE288.out GE289.out GE290.out⟩⟩
     ·rw [if_neg c12] at H
      exact absurd H (by simp)
    ·rw [if_neg c11] at H
     exact absurd H (by simp)
   ·rw [if_neg c10] at H
    have c10b0 : decide (x4_1 < (l0_2.length : Int)) = false := decide_eq_false c10
    clear c10
    simp only [Option.some.injEq, Prod.mk.injEq] at H
    obtain ⟨rfl, rfl⟩ := H
    have hnb20 := NB288_289.out; have hnc20 := NB289_288.out; have hnb21 := NB288_290.out; have hnc21 := NB290_288.out
    have hcz22_0 : wr.cell? ⟨gb288, 0, none⟩ = some (.slice A0_0 l0_0.length c0_0) := (blk_cell BK288.out 0).trans rfl
    have hcz22_1 : wr.cell? ⟨gb288, 1, none⟩ = some (.slice A0_1 l0_1.length c0_1) := (blk_cell BK288.out 1).trans rfl
    have hcz22_2 : wr.cell? ⟨gb288, 2, none⟩ = some (.slice A0_2 l0_2.length c0_2) := (blk_cell BK288.out 2).trans rfl
    have hfz22_0 := blk_frozen BK288.out 0; have hfz22_1 := blk_frozen BK288.out 1; have hfz22_2 := blk_frozen BK288.out 2; have hnb23 := NB290_289.out; have hnc23 := NB289_290.out
    have hcz24_0 : wr.cell? ⟨gb290, 0, none⟩ = some (.int .i64 (l0_0.length : Int)) := (blk_cell BK290.out 0).trans rfl
    have hcz24_1 : wr.cell? ⟨gb290, 1, none⟩ = some (u291001) := (blk_cell BK290.out 1).trans rfl
    have hfz24_0 := blk_frozen BK290.out 0; have hfz24_1 := blk_frozen BK290.out 1
    have hcz25_0 : wr.cell? ⟨gb289, 0, none⟩ = some (.int .i64 0) := (blk_cell BK289.out 0).trans rfl
    have hcz25_1 : wr.cell? ⟨gb289, 1, none⟩ = some (.slice none 0 0) := (blk_cell BK289.out 1).trans rfl
    have hfz25_0 := blk_frozen BK289.out 0; have hfz25_1 := blk_frozen BK289.out 1
    obtain ⟨Ao26, co26, eo26⟩ := Kd.R_slice HO_291001.out
    subst eo26
    go_wp2
    refine bodyPost_ret (results_cell_row rfl _ _ gb289 51 #[.int .i64 (l0_0.length : Int), .slice Ao26 x291001_1.length co26] (0, 0) _ rfl (by (with_reducible repeat (first | refine blk_drewN ?_ _ | refine blk_drew ?_ | refine blk_alloc ?_ _)); refine blk_put (cs := #[.int .i64 (l0_0.length : Int), .slice none 0 0]) ?_ 1 _ rfl; (with_reducible repeat (first | refine blk_drewN ?_ _ | refine blk_drew ?_ | refine blk_alloc ?_ _)); refine blk_put (cs := #[.int .i64 0, .slice none 0 0]) ?_ 0 _ rfl; (with_reducible repeat (first | refine blk_drewN ?_ _ | refine blk_drew ?_ | refine blk_alloc ?_ _)); exact BK289.out) Try.underlying51 rfl (by kernel_rfl)) rfl ?_
    exact ⟨_, byE, by (with_reducible repeat (first | apply Kd.R_alloc | apply Kd.R_drewN | apply Kd.R_drew)); exact Kd.R_mono (Kd.R_far (p := ⟨gb289, 1, none⟩) (Kd.R_far (p := ⟨gb289, 0, none⟩) (Kd.R_types HO_291001.out BK289.out (by decide)) (fun _ hk => hk.2) (.int .i64 (l0_0.length : Int))) (fun _ hk => hk.2) (.slice Ao26 x291001_1.length co26)) (fun _ hk => trivial), byB3 HB.out GE288.out GE289.out GE290.out⟩
end Go.Proofs.Ytaodlehnfjalnaa.Print
namespace Go.Proofs.Ytaodlehnfjalnaa.Print
open Go.RowKit Go.Proofs.YtaodlehnfjalnaaW.PrintWords Go.Proofs.YtaodlehnfjalnaaW.PrintLast Go.Proofs.YtaodlehnfjalnaaW.PrintMore
set_option linter.unusedVariables false
set_option linter.unusedSimpArgs false
def backR (p q : S58) : Bool := decide (q.f0 = p.f1 ∧ q.f1 = p.f0 ∧ q.f2 = p.f2)
def onlyBack (p : S58) (r : S58) : Bool := !(decide (r.f0 = p.f1)) || backR p r
def allowB (nodes : List Int) (pts : List S158) (pcs : List S58) (l : List S42) (a b : Int) : Bool :=
 if chk46 nodes pts pcs ≠ 0 ∨ a < 0 ∨ b < 0 ∨ a ≥ (pcs.length : Int) ∨ b ≥ (pcs.length : Int) then false
 else if (rd_T58 pcs a).f1 ≠ (rd_T58 pcs b).f0 then false
 else if backR (rd_T58 pcs a) (rd_T58 pcs b) = true ∧ ¬ (pcs.all (onlyBack (rd_T58 pcs a))) = true then false
 else turnsR (rd_T58 pcs a).f2 (rd nodes (rd_T58 pcs a).f1) (rd_T58 pcs b).f2 l false false
end Go.Proofs.Ytaodlehnfjalnaa.Print
