/- Written by a program of this claim's author (xprint.py, over the kit's print.py): the call of mapmaker/mapmakerref37.Neighbours comes to what the Lean function of its name says. -/
import Derived.Test.YtcfeehaoeaoegaaPrint0
import Derived.Test.YtcfeehaoeaoegaaM4
import Derived.Test.YtcfeehaoeaoegaaM15
import Derived.Test.YtcfeehaoeaoegaaM0
namespace Go.Proofs.Ytcfeehaoeaoegaa.Print
open Go.RowKit Go.Proofs.YtcfeehaoeaoegaaW.PrintWords Go.Proofs.YtcfeehaoeaoegaaW.PrintLast Go.Proofs.YtcfeehaoeaoegaaW.PrintMore
attribute [local go_sem] max2_int min2_int max_two min_two max_three min_three max_four min_four   -- for this text's walks alone
set_option linter.unusedVariables false
set_option linter.unusedSimpArgs false

/-! ### mapmakerref37_Neighbours: function 15 -/
mutual
def mapmakerref37_Neighbours.l0 : Nat → List (List Int) → Int → Int → List (S38) → Option ((List (List Int)))
 | 0, _, _, _, _ => none
 | k + 1, x3, x4, x120000, x120001 => if x4 < x120000 then ((mapmakerref37_Check.f k x120000 x120001).bind fun t120 => (mapmakerref37_Neighbours.j1 k x3 x4 (t120 == 0) x120000 x120001)) else (mapmakerref37_Neighbours.j1 k x3 x4 false x120000 x120001)
def mapmakerref37_Neighbours.j1 : Nat → List (List Int) → Int → Bool → Int → List (S38) → Option ((List (List Int)))
 | 0, _, _, _, _, _ => none
 | k + 1, x3, x4, x16, x120000, x120001 => if x16 = true then (mapmakerref37_Neighbours.l1 k x3 x4 ([] : List Int) 0 x120000 x120001) else (some x3)
def mapmakerref37_Neighbours.l1 : Nat → List (List Int) → Int → List Int → Int → Int → List (S38) → Option ((List (List Int)))
 | 0, _, _, _, _, _, _ => none
 | k + 1, x3, x4, x5, x6, x120000, x120001 => if x6 < (x120001.length : Int) then (if 0 ≤ x6 then (if ((rd_T38 x120001 x6).f0) = x4 then (mapmakerref37_Neighbours.j3 k x3 x4 x5 x6 (((rd_T38 x120001 x6).f1) != x4) x120000 x120001 ((rd_T38 x120001 x6).f0) ((rd_T38 x120001 x6).f1)) else (mapmakerref37_Neighbours.j3 k x3 x4 x5 x6 false x120000 x120001 ((rd_T38 x120001 x6).f0) ((rd_T38 x120001 x6).f1))) else (none)) else (if x3.length < 5864062014805 then (mapmakerref37_Neighbours.l0 k (x3 ++ [x5]) (wrap64 (x4 + 1)) x120000 x120001) else (none))
def mapmakerref37_Neighbours.j3 : Nat → List (List Int) → Int → List Int → Int → Bool → Int → List (S38) → Int → Int → Option ((List (List Int)))
 | 0, _, _, _, _, _, _, _, _, _ => none
 | k + 1, x3, x4, x5, x6, x40, x120000, x120001, x126000, x126001 => if x40 = true then ((mapmakerref05_With.f k x5 x126001).bind fun t126 => (if x126001 = x4 then (if x126000 = x4 then (mapmakerref37_Neighbours.l1 k x3 x4 t126 (wrap64 (x6 + 1)) x120000 x120001) else ((mapmakerref05_With.f k t126 x126000).bind fun t129 => (mapmakerref37_Neighbours.l1 k x3 x4 t129 (wrap64 (x6 + 1)) x120000 x120001))) else (mapmakerref37_Neighbours.l1 k x3 x4 t126 (wrap64 (x6 + 1)) x120000 x120001))) else (if x126001 = x4 then (if x126000 = x4 then (mapmakerref37_Neighbours.l1 k x3 x4 x5 (wrap64 (x6 + 1)) x120000 x120001) else ((mapmakerref05_With.f k x5 x126000).bind fun t132 => (mapmakerref37_Neighbours.l1 k x3 x4 t132 (wrap64 (x6 + 1)) x120000 x120001))) else (mapmakerref37_Neighbours.l1 k x3 x4 x5 (wrap64 (x6 + 1)) x120000 x120001))
end
def mapmakerref37_Neighbours.f (k : Nat) (a0_0 : Int) (l0_1 : List (S38)) : Option ((List (List Int))) := mapmakerref37_Neighbours.l0 k ([] : List (List Int)) 0 a0_0 l0_1
set_option maxHeartbeats 8000000 in
set_option maxRecDepth 100000 in
theorem mapmakerref37_Neighbours.calls (k : Nat) (a0_0 : Int) (A0_1 : Option Addr) (c0_1 : Nat) (l0_1 : List (S38)) (r : List (List Int)) (w : World) (hr0_1 : Kd.C k38 w A0_1 l0_1.length l0_1) (hc0_1 : l0_1.length ≤ c0_1) (h : mapmakerref37_Neighbours.f k a0_0 l0_1 = some r) :
  Calls Try.prog 15 #[.agg #[.int .i64 a0_0, .slice A0_1 l0_1.length c0_1]] w fun e w' => ∃ v0_ : Value, e = .returned (v0_) ∧ Kd.S (Kd.slice 3 (Kd.int .i64)) 25 w' w.heap.size (fun _ => True) v0_ r ∧ Below w.heap.size w w' := by
 have hu24 := Try.underlying24; have hu38 := Try.underlying38; have HR0_1 := Aside0.mk hr0_1; have HC0_1 := Aside0.mk hc0_1; clear hr0_1 hc0_1; have HB := Aside0.mk (Below.refl w.heap.size w)
 have H : (mapmakerref37_Neighbours.l0 k ([] : List (List Int)) 0 a0_0 l0_1) = some r := h
 clear h
 have H' := Aside0.mk H
 clear H
 go_enter Try.func15, Try.ntmps15
 go_wp2_with (first | ((with_reducible refine gate_dst (N := 1) rfl ?_); refine box_event ?hg (N := 1) ?hd (cs := #[.int .i64 a0_0, .slice A0_1 l0_1.length c0_1]) (t := 24) ?hr ?_; (case hd => rfl); (case hg => rfl); (case hr => first | (go_simp; done) | (go_simp; rfl)); intro gb119 hg w2 hbox hb; have n0_ := Aside0.mk (below_step (byB HB.out) hb); have n1_ := Aside0.mk (hbox); have n2_ := Aside0.mk ((by rw [hg]; exact (below_size (byB HB.out)) : w.heap.size ≤ gb119)); have n3_ := Aside0.mk ((by rw [hg]; exact (below_size (byB HB.out)) : w.heap.size ≤ gb119)); clear HB; have HB := n0_; have BK119 := n1_; have GW119 := n2_; have GE119 := n3_; clear n0_ n1_ n2_ n3_ hb hbox hg))
 go_loopg [3, 4] k (fun kq v3 v4 w' => ∃ (x3_1 : List (List Int)) (x4_1 : Int), v4 = .int .i64 x4_1 ∧ Aside0 (mapmakerref37_Neighbours.l0 kq x3_1 x4_1 a0_0 l0_1 = some r) ∧ Aside0 (kq ≤ k) ∧ Aside0 (Kd.S (Kd.slice 3 (Kd.int .i64)) 25 w' w.heap.size (fun _ => True) v3 x3_1) ∧ Aside0 (w'.heap[gb119]? = some (.cells #[.int .i64 a0_0, (.slice A0_1 l0_1.length c0_1)] 24 (0, 0))) ∧ Aside0 (Below w.heap.size w w'))
 case atStart => exact ⟨(([] : List (List Int))), (0), (by first | rfl | (simp; done) | (simp [*]; done)), H', ⟨Nat.le_refl _⟩, ⟨by first | exact Kd.S_nil _ _ _ _ _ | exact Kd.N_nil _ _ _ _ _ | exact Kd.V_nil _ _ _ _ _ | exact Kd.Q_nil _ _ _ _ _ | exact Kd.R_nil _ _ _ _ _⟩, ⟨by (with_reducible repeat (first | refine blk_drewN ?_ _ | refine blk_drew ?_ | refine blk_alloc ?_ _)); exact BK119.out⟩, ⟨by repeat (first | (with_reducible first | exact HB.out | apply below_alloc | apply pw_below_drewN | apply below_drew1 | refine below_set ?_ GE119.out) | exact HB.out)⟩⟩
 case round =>
  clear H'
  try clear c1
  try clear p2
  obtain ⟨x3_1, x4_1, rfl, HA, HK1, HO_3, BK119, HB⟩ := hrel
  cases gk with
  | zero => exact absurd HA.out (by simp [mapmakerref37_Neighbours.l0])
  | succ k1 =>
   have H := HA.out; clear HA
   simp only [mapmakerref37_Neighbours.l0] at H
   have HC3 := Aside0.mk H; clear H
   go_upto_region 3 with (fail)
   go_cut [16] (fun v16 wc => ∃ (kq : Nat) (x16_2 : Bool), v16 = .bool x16_2 ∧ Aside0 (mapmakerref37_Neighbours.j1 kq x3_1 x4_1 x16_2 a0_0 l0_1 = some r) ∧ Aside0 (kq ≤ k1) ∧ Aside0 (Kd.S (Kd.slice 3 (Kd.int .i64)) 25 wc w.heap.size (fun _ => True) u3 x3_1) ∧ Aside0 (wc.heap[gb119]? = some (.cells #[.int .i64 a0_0, (.slice A0_1 l0_1.length c0_1)] 24 (0, 0))) ∧ Aside0 (Below w.heap.size w wc))
   case first =>
    have H := HC3.out; clear HC3
    by_cases c4 : x4_1 < a0_0
    ·rw [if_pos c4] at H
     have c4b0 : decide (x4_1 < a0_0) = true := decide_eq_true c4
     clear c4
     (first | rw [c4b0] | (simp only [i64_w, i32_w]; rw [c4b0]) | skip)
     replace H := Option.bind_eq_some_iff.mp H
     obtain ⟨t120, A50, H⟩ := H
     replace H : (mapmakerref37_Neighbours.j1 k1 x3_1 x4_1 (t120 == 0) a0_0 l0_1) = some r := H
     have A5 := Aside0.mk A50; clear A50
     have H' := Aside0.mk H
     clear H
     have hcz6_0 : wr.cell? ⟨gb119, 0, none⟩ = some (.int .i64 a0_0) := (blk_cell BK119.out 0).trans rfl
     have hcz6_1 : wr.cell? ⟨gb119, 1, none⟩ = some (.slice A0_1 l0_1.length c0_1) := (blk_cell BK119.out 1).trans rfl
     have hfz6_0 := blk_frozen BK119.out 0; have hfz6_1 := blk_frozen BK119.out 1
     go_wp2_with (first | (go_at_call 56; (with_reducible refine (mapmakerref37_Check.calls k1 a0_0 _ _ l0_1 t120 _ ?side1 ?side2 A5.out).mono ?_); (case side1 => exact byC (Kd.C_below HR0_1.out HB.out)); (case side2 => exact HC0_1.out); rintro e w7 ⟨rfl, hb⟩; have n0_ := Aside0.mk (Kd.S_below (byS HO_3.out) hb); have n1_ := Aside0.mk (blk_below (g := gb119) (o := .cells #[.int .i64 a0_0, .slice A0_1 l0_1.length c0_1] 24 (0, 0)) (byK BK119.out) hb); have n2_ := Aside0.mk (below_step (byB1 HB.out GE119.out) hb); clear HO_3 BK119 HB; have HO_3 := n0_; have BK119 := n1_; have HB := n2_; clear n0_ n1_ n2_; (try clear hb); (try clear hb2); (try clear hk); (try clear hi)))
     go_meet
     case rel => exact ⟨_, ((t120 == 0)), (by first | rfl | (simp; done) | (simp [*]; done)), H', ⟨by have := HK1.out; first | omega | exact Nat.le_refl _⟩, ⟨by (with_reducible repeat (first | apply Kd.S_alloc | apply Kd.S_drewN | apply Kd.S_drew)); exact HO_3.out⟩, ⟨by (with_reducible repeat (first | refine blk_drewN ?_ _ | refine blk_drew ?_ | refine blk_alloc ?_ _)); exact BK119.out⟩, ⟨by repeat (first | (with_reducible first | exact HB.out | apply below_alloc | apply pw_below_drewN | apply below_drew1 | refine below_set ?_ GE119.out) | exact HB.out)⟩⟩
    ·rw [if_neg c4] at H
     have c4b0 : decide (x4_1 < a0_0) = false := decide_eq_false c4
     clear c4
     (first | rw [c4b0] | (simp only [i64_w, i32_w]; rw [c4b0]) | skip)
     have H' := Aside0.mk H
     clear H
     have hcz8_0 : wr.cell? ⟨gb119, 0, none⟩ = some (.int .i64 a0_0) := (blk_cell BK119.out 0).trans rfl
     have hcz8_1 : wr.cell? ⟨gb119, 1, none⟩ = some (.slice A0_1 l0_1.length c0_1) := (blk_cell BK119.out 1).trans rfl
     have hfz8_0 := blk_frozen BK119.out 0; have hfz8_1 := blk_frozen BK119.out 1
     go_wp2
     go_meet
     case rel => exact ⟨_, (false), (by first | rfl | (simp; done) | (simp [*]; done)), H', ⟨by have := HK1.out; first | omega | exact Nat.le_refl _⟩, ⟨by (with_reducible repeat (first | apply Kd.S_alloc | apply Kd.S_drewN | apply Kd.S_drew)); exact HO_3.out⟩, ⟨by (with_reducible repeat (first | refine blk_drewN ?_ _ | refine blk_drew ?_ | refine blk_alloc ?_ _)); exact BK119.out⟩, ⟨by repeat (first | (with_reducible first | exact HB.out | apply below_alloc | apply pw_below_drewN | apply below_drew1 | refine below_set ?_ GE119.out) | exact HB.out)⟩⟩
   case rest =>
    clear HC3
    try clear c1
    try clear p2
    try clear c4
    try clear c4b0
    try clear hcz6_0
    try clear hcz6_1
    try clear hcz8_0
    try clear hcz8_1
    try clear hfz6_0
    try clear hfz6_1
    try clear hfz8_0
    try clear hfz8_1
    try clear p2
    obtain ⟨kq, x16_2, rfl, HA, HJ2, HO_3, BK119, HB⟩ := hcut
    cases kq with
    | zero => exact absurd HA.out (by simp [mapmakerref37_Neighbours.j1])
    | succ kj2 =>
     have H := HA.out; clear HA
     simp only [mapmakerref37_Neighbours.j1] at H
     by_cases c9 : x16_2 = true
     ·subst c9
      have H1 : (mapmakerref37_Neighbours.l1 kj2 x3_1 x4_1 ([] : List Int) 0 a0_0 l0_1) = some r := by rw [if_pos rfl] at H; exact H
      clear H; have H := H1; clear H1
      have H' := Aside0.mk H
      clear H
      go_wp2
      go_loopg [5, 6] kj2 (fun kq v5 v6 w' => ∃ (x5_3 : List Int) (x6_3 : Int), v6 = .int .i64 x6_3 ∧ Aside0 (mapmakerref37_Neighbours.l1 kq x3_1 x4_1 x5_3 x6_3 a0_0 l0_1 = some r) ∧ Aside0 (kq ≤ kj2) ∧ Aside0 (Kd.S (Kd.slice 3 (Kd.int .i64)) 25 w' w.heap.size (fun k_ => some k_ ≠ (v5 : Value).ownBlock) u3 x3_1) ∧ Aside0 (Kd.R (Kd.int .i64) 3 w' w.heap.size (fun _ => True) v5 x5_3) ∧ Aside0 (w'.heap[gb119]? = some (.cells #[.int .i64 a0_0, (.slice A0_1 l0_1.length c0_1)] 24 (0, 0))) ∧ Aside0 (Below w.heap.size w w'))
      case atStart => exact ⟨(([] : List Int)), (0), (by first | rfl | (simp; done) | (simp [*]; done)), H', ⟨Nat.le_refl _⟩, ⟨by (with_reducible repeat (first | apply Kd.S_alloc | apply Kd.S_drewN | apply Kd.S_drew)); exact Kd.S_mono HO_3.out (fun _ hk => (by simp [Value.ownBlock]))⟩, ⟨by first | exact Kd.R_nil _ _ _ _ _ | exact Kd.N_nil _ _ _ _ _ | exact Kd.V_nil _ _ _ _ _ | exact Kd.Q_nil _ _ _ _ _ | exact Kd.S_nil _ _ _ _ _⟩, ⟨by (with_reducible repeat (first | refine blk_drewN ?_ _ | refine blk_drew ?_ | refine blk_alloc ?_ _)); exact BK119.out⟩, ⟨by repeat (first | (with_reducible first | exact HB.out | apply below_alloc | apply pw_below_drewN | apply below_drew1 | refine below_set ?_ GE119.out) | exact HB.out)⟩⟩
      case round =>
       clear H'
       try clear c1
       try clear p2
       try clear c4
       try clear c4b0
       try clear c9
       try clear hcz6_0
       try clear hcz6_1
       try clear hcz8_0
       try clear hcz8_1
       try clear hfz6_0
       try clear hfz6_1
       try clear hfz8_0
       try clear hfz8_1
       try clear p2
       obtain ⟨x5_3, x6_3, rfl, HA, HK3, HO_3, HO_5, BK119, HB⟩ := hrel
       cases gk with
       | zero => exact absurd HA.out (by simp [mapmakerref37_Neighbours.l1])
       | succ k3 =>
        have H := HA.out; clear HA
        simp only [mapmakerref37_Neighbours.l1] at H
        by_cases c10 : x6_3 < (l0_1.length : Int)
        ·rw [if_pos c10] at H
         have c10b0 : decide (x6_3 < (l0_1.length : Int)) = true := decide_eq_true c10
         clear c10
         by_cases c11 : 0 ≤ x6_3
         ·rw [if_pos c11] at H
          have c11b0 : decide (0 ≤ x6_3) = true := decide_eq_true c11
          clear c11; have HC12 := Aside0.mk H; clear H
          have hcz13_0 : wr.cell? ⟨gb119, 0, none⟩ = some (.int .i64 a0_0) := (blk_cell BK119.out 0).trans rfl
          have hcz13_1 : wr.cell? ⟨gb119, 1, none⟩ = some (.slice A0_1 l0_1.length c0_1) := (blk_cell BK119.out 1).trans rfl
          have hfz13_0 := blk_frozen BK119.out 0; have hfz13_1 := blk_frozen BK119.out 1
          have p124 : 0 ≤ (x6_3 : Int) := of_decide_eq_true (by first | (with_reducible assumption) | assumption)
          have q124 : x6_3 < (l0_1.length : Int) := of_decide_eq_true (by first | (with_reducible assumption) | assumption)
          obtain ⟨ad124, e124, hx124_0, hx124_1⟩ := at_T38 HR0_1.out x6_3 p124 q124
          cases e124
          replace hx124_0 := (HB.out.cell (World.block_lt_of_cell? w _ hx124_0)).trans hx124_0
          replace hx124_1 := (HB.out.cell (World.block_lt_of_cell? w _ hx124_1)).trans hx124_1
          replace p124 := eq_true p124; replace q124 := eq_true q124
          go_upto_region 10 with (first | ((with_reducible refine gate_dst (N := 7) rfl ?_); refine box_event ?hg (N := 7) ?hd (cs := #[.int .i64 0, .int .i64 0]) (t := 38) ?hr ?_; (case hd => rfl); (case hg => rfl); (case hr => first | (go_simp; done) | (go_simp; rfl)); intro gb125 hg w14 hbox hb; have n0_ := Aside0.mk (Kd.S_below (byS HO_3.out) hb); have n1_ := Aside0.mk (Kd.R_below (byR HO_5.out) hb); have n2_ := Aside0.mk (blk_below (g := gb119) (o := .cells #[.int .i64 a0_0, .slice (some ad124) l0_1.length c0_1] 24 (0, 0)) (byK BK119.out) hb); have n3_ := Aside0.mk (below_step (byB1 HB.out GE119.out) hb); have n4_ := Aside0.mk (hbox); have n5_ := Aside0.mk ((by rw [hg]; exact (below_size (byB1 HB.out GE119.out)) : w.heap.size ≤ gb125)); have n6_ := Aside0.mk ((by rw [hg]; exact (below_size (byB1 HB.out GE119.out)) : w.heap.size ≤ gb125)); have n7_ := Aside0.mk ((by rw [hg]; exact Nat.ne_of_lt (blk_lt (g := gb119) (o := .cells #[.int .i64 a0_0, .slice (some ad124) l0_1.length c0_1] 24 (0, 0)) (byK BK119.out)) : gb119 ≠ gb125)); have n8_ := Aside0.mk ((by rw [hg]; exact Nat.ne_of_gt (blk_lt (g := gb119) (o := .cells #[.int .i64 a0_0, .slice (some ad124) l0_1.length c0_1] 24 (0, 0)) (byK BK119.out)) : gb125 ≠ gb119)); clear HO_3 HO_5 BK119 HB; have HO_3 := n0_; have HO_5 := n1_; have BK119 := n2_; have HB := n3_; have BK125 := n4_; have GW125 := n5_; have GE125 := n6_; have NB119_125 := n7_; have NB125_119 := n8_; clear n0_ n1_ n2_ n3_ n4_ n5_ n6_ n7_ n8_ hb hbox hg; have hnb15 := NB125_119.out; have hnc15 := NB119_125.out; have hcz16_0 : w14.cell? ⟨gb125, 0, none⟩ = some (.int .i64 0) := (blk_cell BK125.out 0).trans rfl; have hcz16_1 : w14.cell? ⟨gb125, 1, none⟩ = some (.int .i64 0) := (blk_cell BK125.out 1).trans rfl; have hfz16_0 := blk_frozen BK125.out 0; have hfz16_1 := blk_frozen BK125.out 1))
          (try simp only [Act.put, List.setIfInBounds_toArray, List.set_cons_zero, List.set_cons_succ])
          go_cut [40] (fun v40 wc => ∃ (kq : Nat) (x40_11 : Bool), v40 = .bool x40_11 ∧ Aside0 (mapmakerref37_Neighbours.j3 kq x3_1 x4_1 x5_3 x6_3 x40_11 a0_0 l0_1 ((rd_T38 l0_1 x6_3).f0) ((rd_T38 l0_1 x6_3).f1) = some r) ∧ Aside0 (kq ≤ k3) ∧ Aside0 (Kd.S (Kd.slice 3 (Kd.int .i64)) 25 wc w.heap.size (fun k_ => some k_ ≠ (u5 : Value).ownBlock) u3 x3_1) ∧ Aside0 (Kd.R (Kd.int .i64) 3 wc w.heap.size (fun _ => True) u5 x5_3) ∧ Aside0 (wc.heap[gb119]? = some (.cells #[.int .i64 a0_0, (.slice (some ad124) l0_1.length c0_1)] 24 (0, 0))) ∧ Aside0 (wc.heap[gb125]? = some (.cells #[.int .i64 ((rd_T38 l0_1 x6_3).f0), .int .i64 ((rd_T38 l0_1 x6_3).f1)] 38 (0, 0))) ∧ Aside0 (Below w.heap.size w wc))
          case first =>
           have H := HC12.out; clear HC12
           by_cases c17 : ((rd_T38 l0_1 x6_3).f0) = x4_1
           ·rw [if_pos c17] at H
            have c17b0 : (((rd_T38 l0_1 x6_3).f0) == x4_1) = true := beq_iff_eq.mpr c17
            have c17b1 : (((rd_T38 l0_1 x6_3).f0) != x4_1) = false := bne_eq_false_iff_eq.mpr c17
            clear c17
            (first | rw [c17b0] | (simp only [i64_w, i32_w]; rw [c17b0]) | skip)
            have H' := Aside0.mk H
            clear H; have hnb18 := NB125_119.out; have hnc18 := NB119_125.out
            have hcz19_0 : w14.cell? ⟨gb125, 0, none⟩ = some (.int .i64 0) := (blk_cell BK125.out 0).trans rfl
            have hcz19_1 : w14.cell? ⟨gb125, 1, none⟩ = some (.int .i64 0) := (blk_cell BK125.out 1).trans rfl
            have hfz19_0 := blk_frozen BK125.out 0; have hfz19_1 := blk_frozen BK125.out 1
            go_wp2
            go_meet
            case rel => exact ⟨_, ((((rd_T38 l0_1 x6_3).f1) != x4_1)), (by first | rfl | (simp; done) | (simp [*]; done)), H', ⟨by have := HK1.out; have := HJ2.out; have := HK3.out; first | omega | exact Nat.le_refl _⟩, ⟨by (with_reducible repeat (first | apply Kd.S_alloc | apply Kd.S_drewN | apply Kd.S_drew)); exact Kd.S_mono (Kd.S_far (p := ⟨gb125, 1, none⟩) (Kd.S_far (p := ⟨gb125, 0, none⟩) (Kd.S_types HO_3.out BK125.out (by decide)) (fun _ hk => hk.2) (.int .i64 ((rd_T38 l0_1 x6_3).f0))) (fun _ hk => hk.2) (.int .i64 ((rd_T38 l0_1 x6_3).f1))) (fun _ hk => hk.1)⟩, ⟨by (with_reducible repeat (first | apply Kd.R_alloc | apply Kd.R_drewN | apply Kd.R_drew)); exact Kd.R_mono (Kd.R_far (p := ⟨gb125, 1, none⟩) (Kd.R_far (p := ⟨gb125, 0, none⟩) (Kd.R_types HO_5.out BK125.out (by decide)) (fun _ hk => hk.2) (.int .i64 ((rd_T38 l0_1 x6_3).f0))) (fun _ hk => hk.2) (.int .i64 ((rd_T38 l0_1 x6_3).f1))) (fun _ hk => trivial)⟩, ⟨by (with_reducible repeat (first | refine blk_drewN ?_ _ | refine blk_drew ?_ | refine blk_alloc ?_ _)); refine blk_far ?_ NB119_125.out _; (with_reducible repeat (first | refine blk_drewN ?_ _ | refine blk_drew ?_ | refine blk_alloc ?_ _)); refine blk_far ?_ NB119_125.out _; (with_reducible repeat (first | refine blk_drewN ?_ _ | refine blk_drew ?_ | refine blk_alloc ?_ _)); exact BK119.out⟩, ⟨by (with_reducible repeat (first | refine blk_drewN ?_ _ | refine blk_drew ?_ | refine blk_alloc ?_ _)); refine blk_put (cs := #[.int .i64 ((rd_T38 l0_1 x6_3).f0), .int .i64 0]) ?_ 1 _ rfl; (with_reducible repeat (first | refine blk_drewN ?_ _ | refine blk_drew ?_ | refine blk_alloc ?_ _)); refine blk_put (cs := #[.int .i64 0, .int .i64 0]) ?_ 0 _ rfl; (with_reducible repeat (first | refine blk_drewN ?_ _ | refine blk_drew ?_ | refine blk_alloc ?_ _)); exact BK125.out⟩, ⟨by repeat (first | (with_reducible first | exact HB.out | apply below_alloc | apply pw_below_drewN | apply below_drew1 | refine below_set ?_ GE119.out | refine below_set ?_ GE125.out) | exact HB.out)⟩⟩
           ·rw [if_neg c17] at H
            have c17b0 : (((rd_T38 l0_1 x6_3).f0) == x4_1) = false := beq_eq_false_iff_ne.mpr c17
            have c17b1 : (((rd_T38 l0_1 x6_3).f0) != x4_1) = true := bne_iff_ne.mpr c17
            (first | rw [c17b0] | (simp only [i64_w, i32_w]; rw [c17b0]) | skip)
            have H' := Aside0.mk H
            clear H; have hnb20 := NB125_119.out; have hnc20 := NB119_125.out
            have hcz21_0 : w14.cell? ⟨gb125, 0, none⟩ = some (.int .i64 0) := (blk_cell BK125.out 0).trans rfl
            have hcz21_1 : w14.cell? ⟨gb125, 1, none⟩ = some (.int .i64 0) := (blk_cell BK125.out 1).trans rfl
            have hfz21_0 := blk_frozen BK125.out 0; have hfz21_1 := blk_frozen BK125.out 1
            go_wp2
            go_meet
            case rel => exact ⟨_, (false), (by first | rfl | (simp; done) | (simp [*]; done)), H', ⟨by have := HK1.out; have := HJ2.out; have := HK3.out; first | omega | exact Nat.le_refl _⟩, ⟨by (with_reducible repeat (first | apply Kd.S_alloc | apply Kd.S_drewN | apply Kd.S_drew)); exact Kd.S_mono (Kd.S_far (p := ⟨gb125, 1, none⟩) (Kd.S_far (p := ⟨gb125, 0, none⟩) (Kd.S_types HO_3.out BK125.out (by decide)) (fun _ hk => hk.2) (.int .i64 ((rd_T38 l0_1 x6_3).f0))) (fun _ hk => hk.2) (.int .i64 ((rd_T38 l0_1 x6_3).f1))) (fun _ hk => hk.1)⟩, ⟨by (with_reducible repeat (first | apply Kd.R_alloc | apply Kd.R_drewN | apply Kd.R_drew)); exact Kd.R_mono (Kd.R_far (p := ⟨gb125, 1, none⟩) (Kd.R_far (p := ⟨gb125, 0, none⟩) (Kd.R_types HO_5.out BK125.out (by decide)) (fun _ hk => hk.2) (.int .i64 ((rd_T38 l0_1 x6_3).f0))) (fun _ hk => hk.2) (.int .i64 ((rd_T38 l0_1 x6_3).f1))) (fun _ hk => trivial)⟩, ⟨by (with_reducible repeat (first | refine blk_drewN ?_ _ | refine blk_drew ?_ | refine blk_alloc ?_ _)); refine blk_far ?_ NB119_125.out _; (with_reducible repeat (first | refine blk_drewN ?_ _ | refine blk_drew ?_ | refine blk_alloc ?_ _)); refine blk_far ?_ NB119_125.out _; (with_reducible repeat (first | refine blk_drewN ?_ _ | refine blk_drew ?_ | refine blk_alloc ?_ _)); exact BK119.out⟩, ⟨by (with_reducible repeat (first | refine blk_drewN ?_ _ | refine blk_drew ?_ | refine blk_alloc ?_ _)); refine blk_put (cs := #[.int .i64 ((rd_T38 l0_1 x6_3).f0), .int .i64 0]) ?_ 1 _ rfl; (with_reducible repeat (first | refine blk_drewN ?_ _ | refine blk_drew ?_ | refine blk_alloc ?_ _)); refine blk_put (cs := #[.int .i64 0, .int .i64 0]) ?_ 0 _ rfl; (with_reducible repeat (first | refine blk_drewN ?_ _ | refine blk_drew ?_ | refine blk_alloc ?_ _)); exact BK125.out⟩, ⟨by repeat (first | (with_reducible first | exact HB.out | apply below_alloc | apply pw_below_drewN | apply below_drew1 | refine below_set ?_ GE119.out | refine below_set ?_ GE125.out) | exact HB.out)⟩⟩
          case rest =>
           clear HC12
           try clear c1
           try clear p1
           try clear q1
           try clear hx1
           try clear c2
           try clear p2
           try clear c4
           try clear c4b0
           try clear c9
           try clear c10
           try clear c10b0
           try clear c11
           try clear c11b0
           try clear p12
           try clear q12
           try clear hx12
           try clear c15
           try clear c17
           try clear c17b0
           try clear c17b1
           try clear c18
           try clear c20
           try clear hcz13_0
           try clear hcz13_1
           try clear hcz16_0
           try clear hcz16_1
           try clear hcz19_0
           try clear hcz19_1
           try clear hcz21_0
           try clear hcz21_1
           try clear hcz6_0
           try clear hcz6_1
           try clear hcz8_0
           try clear hcz8_1
           try clear hfz13_0
           try clear hfz13_1
           try clear hfz16_0
           try clear hfz16_1
           try clear hfz19_0
           try clear hfz19_1
           try clear hfz21_0
           try clear hfz21_1
           try clear hfz6_0
           try clear hfz6_1
           try clear hfz8_0
           try clear hfz8_1
           try clear hx124_0
           try clear hx124_1
           try clear p124
           try clear p2
           try clear q124
           obtain ⟨kq, x40_11, rfl, HA, HJ11, HO_3, HO_5, BK119, BK125, HB⟩ := hcut
           cases kq with
           | zero => exact absurd HA.out (by simp [mapmakerref37_Neighbours.j3])
           | succ kj11 =>
            have H := HA.out; clear HA
            simp only [mapmakerref37_Neighbours.j3] at H
            by_cases c22 : x40_11 = true
            ·subst c22
             have H1 : ((mapmakerref05_With.f kj11 x5_3 ((rd_T38 l0_1 x6_3).f1)).bind fun t126 => (if ((rd_T38 l0_1 x6_3).f1) = x4_1 then (if ((rd_T38 l0_1 x6_3).f0) = x4_1 then (mapmakerref37_Neighbours.l1 kj11 x3_1 x4_1 t126 (wrap64 (x6_3 + 1)) a0_0 l0_1) else ((mapmakerref05_With.f kj11 t126 ((rd_T38 l0_1 x6_3).f0)).bind fun t129 => (mapmakerref37_Neighbours.l1 kj11 x3_1 x4_1 t129 (wrap64 (x6_3 + 1)) a0_0 l0_1))) else (mapmakerref37_Neighbours.l1 kj11 x3_1 x4_1 t126 (wrap64 (x6_3 + 1)) a0_0 l0_1))) = some r := by rw [if_pos rfl] at H; exact H
             clear H; have H := H1; clear H1
             replace H := Option.bind_eq_some_iff.mp H
             obtain ⟨t126, A230, H⟩ := H
             replace H : (if ((rd_T38 l0_1 x6_3).f1) = x4_1 then (if ((rd_T38 l0_1 x6_3).f0) = x4_1 then (mapmakerref37_Neighbours.l1 kj11 x3_1 x4_1 t126 (wrap64 (x6_3 + 1)) a0_0 l0_1) else ((mapmakerref05_With.f kj11 t126 ((rd_T38 l0_1 x6_3).f0)).bind fun t129 => (mapmakerref37_Neighbours.l1 kj11 x3_1 x4_1 t129 (wrap64 (x6_3 + 1)) a0_0 l0_1))) else (mapmakerref37_Neighbours.l1 kj11 x3_1 x4_1 t126 (wrap64 (x6_3 + 1)) a0_0 l0_1)) = some r := H
             have A23 := Aside0.mk A230; clear A230
             by_cases c24 : ((rd_T38 l0_1 x6_3).f1) = x4_1
             ·rw [if_pos c24] at H
              have c24b0 : (((rd_T38 l0_1 x6_3).f1) == x4_1) = true := beq_iff_eq.mpr c24
              have c24b1 : (((rd_T38 l0_1 x6_3).f1) != x4_1) = false := bne_eq_false_iff_eq.mpr c24
              clear c24
              by_cases c25 : ((rd_T38 l0_1 x6_3).f0) = x4_1
              ·rw [if_pos c25] at H
               have c25b0 : (((rd_T38 l0_1 x6_3).f0) == x4_1) = true := beq_iff_eq.mpr c25
               have c25b1 : (((rd_T38 l0_1 x6_3).f0) != x4_1) = false := bne_eq_false_iff_eq.mpr c25
               clear c25
               have H' := Aside0.mk H
               clear H; have hnb26 := NB125_119.out; have hnc26 := NB119_125.out
               have hcz27_0 : wc.cell? ⟨gb125, 0, none⟩ = some (.int .i64 ((rd_T38 l0_1 x6_3).f0)) := (blk_cell BK125.out 0).trans rfl
               have hcz27_1 : wc.cell? ⟨gb125, 1, none⟩ = some (.int .i64 ((rd_T38 l0_1 x6_3).f1)) := (blk_cell BK125.out 1).trans rfl
               have hfz27_0 := blk_frozen BK125.out 0; have hfz27_1 := blk_frozen BK125.out 1
               obtain ⟨Ao28, co28, eo28⟩ := Kd.R_slice HO_5.out
               subst eo28
               go_wp2_with (first | ((with_reducible refine gate_callee (f := 57) rfl ?_); refine goesL_ (some 44) rfl rfl Try.func57 (by kernel_rfl) rfl #[.slice Ao28 x5_3.length co28, .int .i64 ((rd_T38 l0_1 x6_3).f1)] rfl byL ?_; (with_reducible refine (mapmakerref05_With.calls kj11 (fun k_ => some k_ = (.slice Ao28 x5_3.length co28 : Value).ownBlock) (.slice Ao28 x5_3.length co28) x5_3 ((rd_T38 l0_1 x6_3).f1) t126 w _ ?side1 ?side2 A23.out).mono ?_); (case side1 => repeat (first | (with_reducible first | exact HB.out | apply below_alloc | apply pw_below_drewN | apply below_drew1 | refine below_set ?_ GE119.out | refine below_set ?_ GE125.out) | exact HB.out)); (case side2 => exact Kd.R_tight rfl HO_5.out); rintro e w29 ⟨v127, rfl, ho0, hb, hkp⟩; refine ⟨_, rfl, ?_⟩; have n0_ := Aside0.mk (Kd.S_mono (ok' := fun k_ => some k_ ≠ (v127 : Value).ownBlock) (Kd.S_keptB (HO_3.out) hkp (fun k_ hk_ hs_ => (hk_) hs_)) (fun k_ hk_ => fun e_ => Or.elim (ho0.1 k_ e_.symm) (fun hs_ => hk_.2.1 hs_) (fun hn_ => Nat.not_le.2 hk_.2.2 hn_))); have n1_ := Aside0.mk (blk_kept (byK BK119.out) hkp (fun hs_ => (fun e_ => (Kd.R_ne HO_5.out BK119.out (by decide)) e_) hs_)); have n2_ := Aside0.mk (blk_kept (byK BK125.out) hkp (fun hs_ => (fun e_ => (Kd.R_ne HO_5.out BK125.out (by decide)) e_) hs_)); have n3_ := Aside0.mk (Kd.R_mono (ok' := fun k_ => True) ho0 (fun k_ hk_ => trivial)); have n4_ := Aside0.mk (hb); clear HO_3 BK119 BK125 HB HO_5; have HO_3 := n0_; have BK119 := n1_; have BK125 := n2_; have HO128 := n3_; have HB := n4_; clear n0_ n1_ n2_ n3_ n4_; (try clear hb); (try clear hkp); (try clear ho0); have hcz30_0 : w29.cell? ⟨gb125, 0, none⟩ = some (.int .i64 ((rd_T38 l0_1 x6_3).f0)) := (blk_cell BK125.out 0).trans rfl; have hcz30_1 : w29.cell? ⟨gb125, 1, none⟩ = some (.int .i64 ((rd_T38 l0_1 x6_3).f1)) := (blk_cell BK125.out 1).trans rfl; have hfz30_0 := blk_frozen BK125.out 0; have hfz30_1 := blk_frozen BK125.out 1))
               go_roundg kj11
               case measure => have := HK1.out; have := HJ2.out; have := HK3.out; have := HJ11.out; omega
               case rel => exact ⟨(t126), (wrap64 (x6_3 + 1)), (by first | rfl | (simp; done) | (simp [*]; done)), H', ⟨by have := HK1.out; have := HJ2.out; have := HK3.out; have := HJ11.out; omega⟩, ⟨by (with_reducible repeat (first | apply Kd.S_alloc | apply Kd.S_drewN | apply Kd.S_drew)); exact HO_3.out⟩, ⟨by (with_reducible repeat (first | apply Kd.R_alloc | apply Kd.R_drewN | apply Kd.R_drew)); exact HO128.out⟩, ⟨by (with_reducible repeat (first | refine blk_drewN ?_ _ | refine blk_drew ?_ | refine blk_alloc ?_ _)); exact BK119.out⟩, ⟨by repeat (first | (with_reducible first | exact HB.out | apply below_alloc | apply pw_below_drewN | apply below_drew1 | refine below_set ?_ GE119.out | refine below_set ?_ GE125.out) | exact HB.out)⟩⟩
              ·rw [if_neg c25] at H
               have c25b0 : (((rd_T38 l0_1 x6_3).f0) == x4_1) = false := beq_eq_false_iff_ne.mpr c25
               have c25b1 : (((rd_T38 l0_1 x6_3).f0) != x4_1) = true := bne_iff_ne.mpr c25
               replace H := Option.bind_eq_some_iff.mp H
               obtain ⟨t129, A310, H⟩ := H
               replace H : (mapmakerref37_Neighbours.l1 kj11 x3_1 x4_1 t129 (wrap64 (x6_3 + 1)) a0_0 l0_1) = some r := H
               have A31 := Aside0.mk A310; clear A310
               have H' := Aside0.mk H
               clear H; have hnb32 := NB125_119.out; have hnc32 := NB119_125.out
               have hcz33_0 : wc.cell? ⟨gb125, 0, none⟩ = some (.int .i64 ((rd_T38 l0_1 x6_3).f0)) := (blk_cell BK125.out 0).trans rfl
               have hcz33_1 : wc.cell? ⟨gb125, 1, none⟩ = some (.int .i64 ((rd_T38 l0_1 x6_3).f1)) := (blk_cell BK125.out 1).trans rfl
               have hfz33_0 := blk_frozen BK125.out 0; have hfz33_1 := blk_frozen BK125.out 1
               obtain ⟨Ao34, co34, eo34⟩ := Kd.R_slice HO_5.out
               subst eo34
               go_wp2_with (first | ((with_reducible refine gate_callee (f := 57) rfl ?_); refine goesL_ (some 44) rfl rfl Try.func57 (by kernel_rfl) rfl #[.slice Ao34 x5_3.length co34, .int .i64 ((rd_T38 l0_1 x6_3).f1)] rfl byL ?_; (with_reducible refine (mapmakerref05_With.calls kj11 (fun k_ => some k_ = (.slice Ao34 x5_3.length co34 : Value).ownBlock) (.slice Ao34 x5_3.length co34) x5_3 ((rd_T38 l0_1 x6_3).f1) t126 w _ ?side1 ?side2 A23.out).mono ?_); (case side1 => repeat (first | (with_reducible first | exact HB.out | apply below_alloc | apply pw_below_drewN | apply below_drew1 | refine below_set ?_ GE119.out | refine below_set ?_ GE125.out) | exact HB.out)); (case side2 => exact Kd.R_tight rfl HO_5.out); rintro e w35 ⟨v127, rfl, ho0, hb, hkp⟩; refine ⟨_, rfl, ?_⟩; have n0_ := Aside0.mk (Kd.S_mono (ok' := fun k_ => some k_ ≠ (v127 : Value).ownBlock) (Kd.S_keptB (HO_3.out) hkp (fun k_ hk_ hs_ => (hk_) hs_)) (fun k_ hk_ => fun e_ => Or.elim (ho0.1 k_ e_.symm) (fun hs_ => hk_.2.1 hs_) (fun hn_ => Nat.not_le.2 hk_.2.2 hn_))); have n1_ := Aside0.mk (blk_kept (byK BK119.out) hkp (fun hs_ => (fun e_ => (Kd.R_ne HO_5.out BK119.out (by decide)) e_) hs_)); have n2_ := Aside0.mk (blk_kept (byK BK125.out) hkp (fun hs_ => (fun e_ => (Kd.R_ne HO_5.out BK125.out (by decide)) e_) hs_)); have n3_ := Aside0.mk (Kd.R_mono (ok' := fun k_ => True) ho0 (fun k_ hk_ => trivial)); have n4_ := Aside0.mk (hb); clear HO_3 BK119 BK125 HB HO_5; have HO_3 := n0_; have BK119 := n1_; have BK125 := n2_; have HO128 := n3_; have HB := n4_; clear n0_ n1_ n2_ n3_ n4_; (try clear hb); (try clear hkp); (try clear ho0); have hcz36_0 : w35.cell? ⟨gb125, 0, none⟩ = some (.int .i64 ((rd_T38 l0_1 x6_3).f0)) := (blk_cell BK125.out 0).trans rfl; have hcz36_1 : w35.cell? ⟨gb125, 1, none⟩ = some (.int .i64 ((rd_T38 l0_1 x6_3).f1)) := (blk_cell BK125.out 1).trans rfl; have hfz36_0 := blk_frozen BK125.out 0; have hfz36_1 := blk_frozen BK125.out 1; obtain ⟨Ao37, co37, eo37⟩ := Kd.R_slice HO128.out; subst eo37) | ((with_reducible refine gate_callee (f := 57) rfl ?_); refine goesL_ (some 58) rfl rfl Try.func57 (by kernel_rfl) rfl #[.slice Ao37 t126.length co37, .int .i64 ((rd_T38 l0_1 x6_3).f0)] rfl byL ?_; (with_reducible refine (mapmakerref05_With.calls kj11 (fun k_ => some k_ = (.slice Ao37 t126.length co37 : Value).ownBlock) (.slice Ao37 t126.length co37) t126 ((rd_T38 l0_1 x6_3).f0) t129 w _ ?side1 ?side2 A31.out).mono ?_); (case side1 => repeat (first | (with_reducible first | exact HB.out | apply below_alloc | apply pw_below_drewN | apply below_drew1 | refine below_set ?_ GE119.out | refine below_set ?_ GE125.out) | exact HB.out)); (case side2 => exact Kd.R_tight rfl HO128.out); rintro e w38 ⟨v130, rfl, ho0, hb, hkp⟩; refine ⟨_, rfl, ?_⟩; have n0_ := Aside0.mk (Kd.S_mono (ok' := fun k_ => some k_ ≠ (v130 : Value).ownBlock) (Kd.S_keptB (HO_3.out) hkp (fun k_ hk_ hs_ => (hk_) hs_)) (fun k_ hk_ => fun e_ => Or.elim (ho0.1 k_ e_.symm) (fun hs_ => hk_.2.1 hs_) (fun hn_ => Nat.not_le.2 hk_.2.2 hn_))); have n1_ := Aside0.mk (blk_kept (byK BK119.out) hkp (fun hs_ => (fun e_ => (Kd.R_ne HO128.out BK119.out (by decide)) e_) hs_)); have n2_ := Aside0.mk (blk_kept (byK BK125.out) hkp (fun hs_ => (fun e_ => (Kd.R_ne HO128.out BK125.out (by decide)) e_) hs_)); have n3_ := Aside0.mk (Kd.R_mono (ok' := fun k_ => True) ho0 (fun k_ hk_ => trivial)); have n4_ := Aside0.mk (hb); clear HO_3 BK119 BK125 HB HO128; have HO_3 := n0_; have BK119 := n1_; have BK125 := n2_; have HO131 := n3_; have HB := n4_; clear n0_ n1_ n2_ n3_ n4_; (try clear hb); (try clear hkp); (try clear ho0)))
               go_roundg kj11
               case measure => have := HK1.out; have := HJ2.out; have := HK3.out; have := HJ11.out; omega
               case rel => exact ⟨(t129), (wrap64 (x6_3 + 1)), (by first | rfl | (simp; done) | (simp [*]; done)), H', ⟨by have := HK1.out; have := HJ2.out; have := HK3.out; have := HJ11.out; omega⟩, ⟨by (with_reducible repeat (first | apply Kd.S_alloc | apply Kd.S_drewN | apply Kd.S_drew)); exact HO_3.out⟩, ⟨by (with_reducible repeat (first | apply Kd.R_alloc | apply Kd.R_drewN | apply Kd.R_drew)); exact HO131.out⟩, ⟨by (with_reducible repeat (first | refine blk_drewN ?_ _ | refine blk_drew ?_ | refine blk_alloc ?_ _)); exact BK119.out⟩, ⟨by repeat (first | (with_reducible first | exact HB.out | apply below_alloc | apply pw_below_drewN | apply below_drew1 | refine below_set ?_ GE119.out | refine below_set ?_ GE125.out) | exact HB.out)⟩⟩
             ·rw [if_neg c24] at H
              have c24b0 : (((rd_T38 l0_1 x6_3).f1) == x4_1) = false := beq_eq_false_iff_ne.mpr c24
              have c24b1 : (((rd_T38 l0_1 x6_3).f1) != x4_1) = true := bne_iff_ne.mpr c24
              have H' := Aside0.mk H
              clear H; have hnb39 := NB125_119.out; have hnc39 := NB119_125.out
              have hcz40_0 : wc.cell? ⟨gb125, 0, none⟩ = some (.int .i64 ((rd_T38 l0_1 x6_3).f0)) := (blk_cell BK125.out 0).trans rfl
              have hcz40_1 : wc.cell? ⟨gb125, 1, none⟩ = some (.int .i64 ((rd_T38 l0_1 x6_3).f1)) := (blk_cell BK125.out 1).trans rfl
              have hfz40_0 := blk_frozen BK125.out 0; have hfz40_1 := blk_frozen BK125.out 1
              obtain ⟨Ao41, co41, eo41⟩ := Kd.R_slice HO_5.out
              subst eo41
              go_wp2_with (first | ((with_reducible refine gate_callee (f := 57) rfl ?_); refine goesL_ (some 44) rfl rfl Try.func57 (by kernel_rfl) rfl #[.slice Ao41 x5_3.length co41, .int .i64 ((rd_T38 l0_1 x6_3).f1)] rfl byL ?_; (with_reducible refine (mapmakerref05_With.calls kj11 (fun k_ => some k_ = (.slice Ao41 x5_3.length co41 : Value).ownBlock) (.slice Ao41 x5_3.length co41) x5_3 ((rd_T38 l0_1 x6_3).f1) t126 w _ ?side1 ?side2 A23.out).mono ?_); (case side1 => repeat (first | (with_reducible first | exact HB.out | apply below_alloc | apply pw_below_drewN | apply below_drew1 | refine below_set ?_ GE119.out | refine below_set ?_ GE125.out) | exact HB.out)); (case side2 => exact Kd.R_tight rfl HO_5.out); rintro e w42 ⟨v127, rfl, ho0, hb, hkp⟩; refine ⟨_, rfl, ?_⟩; have n0_ := Aside0.mk (Kd.S_mono (ok' := fun k_ => some k_ ≠ (v127 : Value).ownBlock) (Kd.S_keptB (HO_3.out) hkp (fun k_ hk_ hs_ => (hk_) hs_)) (fun k_ hk_ => fun e_ => Or.elim (ho0.1 k_ e_.symm) (fun hs_ => hk_.2.1 hs_) (fun hn_ => Nat.not_le.2 hk_.2.2 hn_))); have n1_ := Aside0.mk (blk_kept (byK BK119.out) hkp (fun hs_ => (fun e_ => (Kd.R_ne HO_5.out BK119.out (by decide)) e_) hs_)); have n2_ := Aside0.mk (blk_kept (byK BK125.out) hkp (fun hs_ => (fun e_ => (Kd.R_ne HO_5.out BK125.out (by decide)) e_) hs_)); have n3_ := Aside0.mk (Kd.R_mono (ok' := fun k_ => True) ho0 (fun k_ hk_ => trivial)); have n4_ := Aside0.mk (hb); clear HO_3 BK119 BK125 HB HO_5; have HO_3 := n0_; have BK119 := n1_; have BK125 := n2_; have HO128 := n3_; have HB := n4_; clear n0_ n1_ n2_ n3_ n4_; (try clear hb); (try clear hkp); (try clear ho0); have hcz43_0 : w42.cell? ⟨gb125, 0, none⟩ = some (.int .i64 ((rd_T38 l0_1 x6_3).f0)) := (blk_cell BK125.out 0).trans rfl; have hcz43_1 : w42.cell? ⟨gb125, 1, none⟩ = some (.int .i64 ((rd_T38 l0_1 x6_3).f1)) := (blk_cell BK125.out 1).trans rfl; have hfz43_0 := blk_frozen BK125.out 0; have hfz43_1 := blk_frozen BK125.out 1))
              go_roundg kj11
              case measure => have := HK1.out; have := HJ2.out; have := HK3.out; have := HJ11.out; omega
              case rel => exact ⟨(t126), (wrap64 (x6_3 + 1)), (by first | rfl | (simp; done) | (simp [*]; done)), H', ⟨by have := HK1.out; have := HJ2.out; have := HK3.out; have := HJ11.out; omega⟩, ⟨by (with_reducible repeat (first | apply Kd.S_alloc | apply Kd.S_drewN | apply Kd.S_drew)); exact HO_3.out⟩, ⟨by (with_reducible repeat (first | apply Kd.R_alloc | apply Kd.R_drewN | apply Kd.R_drew)); exact HO128.out⟩, ⟨by (with_reducible repeat (first | refine blk_drewN ?_ _ | refine blk_drew ?_ | refine blk_alloc ?_ _)); exact BK119.out⟩, ⟨by repeat (first | (with_reducible first | exact HB.out | apply below_alloc | apply pw_below_drewN | apply below_drew1 | refine below_set ?_ GE119.out | refine below_set ?_ GE125.out) | exact HB.out)⟩⟩
            ·replace c22 := Bool.eq_false_iff.mpr c22
             subst c22
             have H1 : (if ((rd_T38 l0_1 x6_3).f1) = x4_1 then (if ((rd_T38 l0_1 x6_3).f0) = x4_1 then (mapmakerref37_Neighbours.l1 kj11 x3_1 x4_1 x5_3 (wrap64 (x6_3 + 1)) a0_0 l0_1) else ((mapmakerref05_With.f kj11 x5_3 ((rd_T38 l0_1 x6_3).f0)).bind fun t132 => (mapmakerref37_Neighbours.l1 kj11 x3_1 x4_1 t132 (wrap64 (x6_3 + 1)) a0_0 l0_1))) else (mapmakerref37_Neighbours.l1 kj11 x3_1 x4_1 x5_3 (wrap64 (x6_3 + 1)) a0_0 l0_1)) = some r := by rw [if_neg (show ¬ (false = true) by decide)] at H; exact H
             clear H; have H := H1; clear H1
             by_cases c44 : ((rd_T38 l0_1 x6_3).f1) = x4_1
             ·rw [if_pos c44] at H
              have c44b0 : (((rd_T38 l0_1 x6_3).f1) == x4_1) = true := beq_iff_eq.mpr c44
              have c44b1 : (((rd_T38 l0_1 x6_3).f1) != x4_1) = false := bne_eq_false_iff_eq.mpr c44
              clear c44
              by_cases c45 : ((rd_T38 l0_1 x6_3).f0) = x4_1
              ·rw [if_pos c45] at H
               have c45b0 : (((rd_T38 l0_1 x6_3).f0) == x4_1) = true := beq_iff_eq.mpr c45
               have c45b1 : (((rd_T38 l0_1 x6_3).f0) != x4_1) = false := bne_eq_false_iff_eq.mpr c45
               clear c45
               have H' := Aside0.mk H
               clear H; have hnb46 := NB125_119.out; have hnc46 := NB119_125.out
               have hcz47_0 : wc.cell? ⟨gb125, 0, none⟩ = some (.int .i64 ((rd_T38 l0_1 x6_3).f0)) := (blk_cell BK125.out 0).trans rfl
               have hcz47_1 : wc.cell? ⟨gb125, 1, none⟩ = some (.int .i64 ((rd_T38 l0_1 x6_3).f1)) := (blk_cell BK125.out 1).trans rfl
               have hfz47_0 := blk_frozen BK125.out 0; have hfz47_1 := blk_frozen BK125.out 1
               go_wp2
               go_roundg kj11
               case measure => have := HK1.out; have := HJ2.out; have := HK3.out; have := HJ11.out; omega
               case rel => exact ⟨(x5_3), (wrap64 (x6_3 + 1)), (by first | rfl | (simp; done) | (simp [*]; done)), H', ⟨by have := HK1.out; have := HJ2.out; have := HK3.out; have := HJ11.out; omega⟩, ⟨by (with_reducible repeat (first | apply Kd.S_alloc | apply Kd.S_drewN | apply Kd.S_drew)); exact HO_3.out⟩, ⟨by (with_reducible repeat (first | apply Kd.R_alloc | apply Kd.R_drewN | apply Kd.R_drew)); exact HO_5.out⟩, ⟨by (with_reducible repeat (first | refine blk_drewN ?_ _ | refine blk_drew ?_ | refine blk_alloc ?_ _)); exact BK119.out⟩, ⟨by repeat (first | (with_reducible first | exact HB.out | apply below_alloc | apply pw_below_drewN | apply below_drew1 | refine below_set ?_ GE119.out | refine below_set ?_ GE125.out) | exact HB.out)⟩⟩
              ·rw [if_neg c45] at H
               have c45b0 : (((rd_T38 l0_1 x6_3).f0) == x4_1) = false := beq_eq_false_iff_ne.mpr c45
               have c45b1 : (((rd_T38 l0_1 x6_3).f0) != x4_1) = true := bne_iff_ne.mpr c45
               replace H := Option.bind_eq_some_iff.mp H
               obtain ⟨t132, A480, H⟩ := H
               replace H : (mapmakerref37_Neighbours.l1 kj11 x3_1 x4_1 t132 (wrap64 (x6_3 + 1)) a0_0 l0_1) = some r := H
               have A48 := Aside0.mk A480; clear A480
               have H' := Aside0.mk H
               clear H; have hnb49 := NB125_119.out; have hnc49 := NB119_125.out
               have hcz50_0 : wc.cell? ⟨gb125, 0, none⟩ = some (.int .i64 ((rd_T38 l0_1 x6_3).f0)) := (blk_cell BK125.out 0).trans rfl
               have hcz50_1 : wc.cell? ⟨gb125, 1, none⟩ = some (.int .i64 ((rd_T38 l0_1 x6_3).f1)) := (blk_cell BK125.out 1).trans rfl
               have hfz50_0 := blk_frozen BK125.out 0; have hfz50_1 := blk_frozen BK125.out 1
               obtain ⟨Ao51, co51, eo51⟩ := Kd.R_slice HO_5.out
               subst eo51
               go_wp2_with (first | ((with_reducible refine gate_callee (f := 57) rfl ?_); refine goesL_ (some 58) rfl rfl Try.func57 (by kernel_rfl) rfl #[.slice Ao51 x5_3.length co51, .int .i64 ((rd_T38 l0_1 x6_3).f0)] rfl byL ?_; (with_reducible refine (mapmakerref05_With.calls kj11 (fun k_ => some k_ = (.slice Ao51 x5_3.length co51 : Value).ownBlock) (.slice Ao51 x5_3.length co51) x5_3 ((rd_T38 l0_1 x6_3).f0) t132 w _ ?side1 ?side2 A48.out).mono ?_); (case side1 => repeat (first | (with_reducible first | exact HB.out | apply below_alloc | apply pw_below_drewN | apply below_drew1 | refine below_set ?_ GE119.out | refine below_set ?_ GE125.out) | exact HB.out)); (case side2 => exact Kd.R_tight rfl HO_5.out); rintro e w52 ⟨v133, rfl, ho0, hb, hkp⟩; refine ⟨_, rfl, ?_⟩; have n0_ := Aside0.mk (Kd.S_mono (ok' := fun k_ => some k_ ≠ (v133 : Value).ownBlock) (Kd.S_keptB (HO_3.out) hkp (fun k_ hk_ hs_ => (hk_) hs_)) (fun k_ hk_ => fun e_ => Or.elim (ho0.1 k_ e_.symm) (fun hs_ => hk_.2.1 hs_) (fun hn_ => Nat.not_le.2 hk_.2.2 hn_))); have n1_ := Aside0.mk (blk_kept (byK BK119.out) hkp (fun hs_ => (fun e_ => (Kd.R_ne HO_5.out BK119.out (by decide)) e_) hs_)); have n2_ := Aside0.mk (blk_kept (byK BK125.out) hkp (fun hs_ => (fun e_ => (Kd.R_ne HO_5.out BK125.out (by decide)) e_) hs_)); have n3_ := Aside0.mk (Kd.R_mono (ok' := fun k_ => True) ho0 (fun k_ hk_ => trivial)); have n4_ := Aside0.mk (hb); clear HO_3 BK119 BK125 HB HO_5; have HO_3 := n0_; have BK119 := n1_; have BK125 := n2_; have HO134 := n3_; have HB := n4_; clear n0_ n1_ n2_ n3_ n4_; (try clear hb); (try clear hkp); (try clear ho0)))
               go_roundg kj11
               case measure => have := HK1.out; have := HJ2.out; have := HK3.out; have := HJ11.out; omega
               case rel => exact ⟨(t132), (wrap64 (x6_3 + 1)), (by first | rfl | (simp; done) | (simp [*]; done)), H', ⟨by have := HK1.out; have := HJ2.out; have := HK3.out; have := HJ11.out; omega⟩, ⟨by (with_reducible repeat (first | apply Kd.S_alloc | apply Kd.S_drewN | apply Kd.S_drew)); exact HO_3.out⟩, ⟨by (with_reducible repeat (first | apply Kd.R_alloc | apply Kd.R_drewN | apply Kd.R_drew)); exact HO134.out⟩, ⟨by (with_reducible repeat (first | refine blk_drewN ?_ _ | refine blk_drew ?_ | refine blk_alloc ?_ _)); exact BK119.out⟩, ⟨by repeat (first | (with_reducible first | exact HB.out | apply below_alloc | apply pw_below_drewN | apply below_drew1 | refine below_set ?_ GE119.out | refine below_set ?_ GE125.out) | exact HB.out)⟩⟩
             ·rw [if_neg c44] at H
              have c44b0 : (((rd_T38 l0_1 x6_3).f1) == x4_1) = false := beq_eq_false_iff_ne.mpr c44
              have c44b1 : (((rd_T38 l0_1 x6_3).f1) != x4_1) = true := bne_iff_ne.mpr c44
              have H' := Aside0.mk H
              clear H; have hnb53 := NB125_119.out; have hnc53 := NB119_125.out
              have hcz54_0 : wc.cell? ⟨gb125, 0, none⟩ = some (.int .i64 ((rd_T38 l0_1 x6_3).f0)) := (blk_cell BK125.out 0).trans rfl
              have hcz54_1 : wc.cell? ⟨gb125, 1, none⟩ = some (.int .i64 ((rd_T38 l0_1 x6_3).f1)) := (blk_cell BK125.out 1).trans rfl
              have hfz54_0 := blk_frozen BK125.out 0; have hfz54_1 := blk_frozen BK125.out 1
              go_wp2
              go_roundg kj11
              case measure => have := HK1.out; have := HJ2.out; have := HK3.out; have := HJ11.out; omega
              case rel => exact ⟨(x5_3), (wrap64 (x6_3 + 1)), (by first | rfl | (simp; done) | (simp [*]; done)), H', ⟨by have := HK1.out; have := HJ2.out; have := HK3.out; have := HJ11.out; omega⟩, ⟨by (with_reducible repeat (first | apply Kd.S_alloc | apply Kd.S_drewN | apply Kd.S_drew)); exact HO_3.out⟩, ⟨by (with_reducible repeat (first | apply Kd.R_alloc | apply Kd.R_drewN | apply Kd.R_drew)); exact HO_5.out⟩, ⟨by (with_reducible repeat (first | refine blk_drewN ?_ _ | refine blk_drew ?_ | refine blk_alloc ?_ _)); exact BK119.out⟩, ⟨by repeat (first | (with_reducible first | exact HB.out | apply below_alloc | apply pw_below_drewN | apply below_drew1 | refine below_set ?_ GE119.out | refine below_set ?_ GE125.out) | exact HB.out)⟩⟩
         ·rw [if_neg c11] at H
          exact absurd H (by simp)
        ·rw [if_neg c10] at H
         have c10b0 : decide (x6_3 < (l0_1.length : Int)) = false := decide_eq_false c10
         clear c10
         by_cases c55 : x3_1.length < 5864062014805
         ·rw [if_pos c55] at H
          have LMc55 := Aside0.mk c55; clear c55
          obtain ⟨y121, hy121⟩ : ∃ y_ : List (List Int), y_ = (x3_1 ++ [x5_3]) := ⟨_, rfl⟩
          replace H : (mapmakerref37_Neighbours.l0 k3 y121 (wrap64 (x4_1 + 1)) a0_0 l0_1) = some r := by first | (rw [hy121]; with_reducible exact H) | (have H2_ := (Option.bind_some _ _).symm.trans H; rw [hy121]; with_reducible exact H2_) | (have H2_ := (Option.bind_some _ _).symm.trans H; with_reducible exact H2_) | with_reducible exact H | (rw [hy121]; exact H) | exact H
          have Ny121 := Aside0.mk hy121; clear hy121
          have H' := Aside0.mk H
          clear H
          have hcz56_0 : wr.cell? ⟨gb119, 0, none⟩ = some (.int .i64 a0_0) := (blk_cell BK119.out 0).trans rfl
          have hcz56_1 : wr.cell? ⟨gb119, 1, none⟩ = some (.slice A0_1 l0_1.length c0_1) := (blk_cell BK119.out 1).trans rfl
          have hfz56_0 := blk_frozen BK119.out 0; have hfz56_1 := blk_frozen BK119.out 1
          obtain ⟨Ao58, co58, eo58⟩ := Kd.R_slice HO_5.out
          subst eo58
          go_wp2_with (first | ((with_reducible refine gate_builtin (b := .append) (xs := #[.tmp 59, .tmp 61]) rfl ?_); at_builtin; refine Kd.S_append (Kd.slice 3 (Kd.int .i64)) (w0 := w) w.heap.size rfl (.tmp 59) (.tmp 61) 32 25 (.slice none 0 0) 24 rfl Try.underlying32 info25 rfl (by decide) (by omega) u3 x3_1 x5_3 [.slice Ao58 x5_3.length co58] (fun _ => True) (fun k_ => some k_ = (.slice Ao58 x5_3.length co58 : Value).ownBlock) rfl rfl ?aP (fun k_ hk_ => ((Kd.R_mono (ok' := fun k_ => ((fun _ => True)) k_ ∧ some k_ ≠ (u3 : Value).ownBlock) (Kd.R_apart' (HO_5.out) (Kd.S_typed HO_3.out) (by decide)) (fun k_ hk => ⟨trivial, hk.2⟩))).1 k_ hk_.symm) ?aF ?aO ?aB ?aS ?aL ?_; (case aP => exact Kd.M_row (Kd.R_mono (Kd.R_tight rfl (Kd.R_mono (ok' := fun k_ => ((fun _ => True)) k_ ∧ some k_ ≠ (u3 : Value).ownBlock) (Kd.R_apart' (HO_5.out) (Kd.S_typed HO_3.out) (by decide)) (fun k_ hk => ⟨trivial, hk.2⟩))) (fun _ h_ => h_))); (case aB => exact (byB1 HB.out GE119.out)); (case aF => exact (fun _ _ => trivial)); (case aO => exact (by (with_reducible repeat (first | apply Kd.S_alloc | apply Kd.S_drewN | apply Kd.S_drew)); exact Kd.S_mono HO_3.out (fun k_ hk => ⟨trivial, fun e_ => hk e_⟩))); (case aS => exact (below_size (byB1 HB.out GE119.out))); (case aL => have := LMc55.out; omega); intro v122 w57 ho hb hg hat; rw [← Ny121.out] at ho; have n0_ := Aside0.mk (blk_grown (g := gb119) (o := .cells #[.int .i64 a0_0, .slice A0_1 l0_1.length c0_1] 24 (0, 0)) (byK BK119.out) hg (Kd.S_ne HO_3.out BK119.out (by decide))); have n1_ := Aside0.mk (hb); have n2_ := Aside0.mk (ho); clear BK119 HB HO_3 HO_5; have BK119 := n0_; have HB := n1_; have HO123 := n2_; clear n0_ n1_ n2_ ho hb hg hat))
          go_roundg k3
          case measure => have := HK1.out; have := HJ2.out; have := HK3.out; omega
          case rel => exact ⟨(y121), (wrap64 (x4_1 + 1)), (by first | rfl | (simp; done) | (simp [*]; done)), H', ⟨by have := HK1.out; have := HJ2.out; have := HK3.out; omega⟩, ⟨by (with_reducible repeat (first | apply Kd.S_alloc | apply Kd.S_drewN | apply Kd.S_drew)); exact HO123.out⟩, ⟨by (with_reducible repeat (first | refine blk_drewN ?_ _ | refine blk_drew ?_ | refine blk_alloc ?_ _)); exact BK119.out⟩, ⟨by repeat (first | (with_reducible first | exact HB.out | apply below_alloc | apply pw_below_drewN | apply below_drew1 | refine below_set ?_ GE119.out) | exact HB.out)⟩⟩
         ·rw [if_neg c55] at H
          exact absurd H (by simp)
     ·replace c9 := Bool.eq_false_iff.mpr c9
      subst c9
      have H1 : (some x3_1) = some r := by rw [if_neg (show ¬ (false = true) by decide)] at H; exact H
      clear H; have H := H1; clear H1
      obtain rfl := Option.some.inj H
      go_wp2
      go_ret
      exact ⟨_, by first | rfl | (simp [errW_none, errW_some] <;> rfl) | (simp [*, errW_none, errW_some] <;> rfl), by (with_reducible repeat (first | apply Kd.S_alloc | apply Kd.S_drewN | apply Kd.S_drew)); exact HO_3.out, by repeat (first | (with_reducible first | exact HB.out | apply below_alloc | apply pw_below_drewN | apply below_drew1 | refine below_set ?_ GE119.out) | exact HB.out)⟩

end Go.Proofs.Ytcfeehaoeaoegaa.Print
