/- Written by a program of this claim's author (xprint.py, over the kit's print.py): the call of mapmaker/graph.Neighbours comes to what the Lean function of its name says. -/
import Derived.Test.YtfnophaiamkmpaaPrint0
import Derived.Test.YtfnophaiamkmpaaF54
import Derived.Test.YtfnophaiamkmpaaM0
import Derived.Test.YtfnophaiamkmpaaM1
namespace Go.Proofs.Ytfnophaiamkmpaa.Print
open Go.RowKit Go.Proofs.YtfnophaiamkmpaaW.PrintWords Go.Proofs.YtfnophaiamkmpaaW.PrintLast Go.Proofs.YtfnophaiamkmpaaW.PrintMore
attribute [local go_sem] max2_int min2_int max_two min_two max_three min_three max_four min_four   -- for this text's walks alone
set_option linter.unusedVariables false
set_option linter.unusedSimpArgs false
/-! ### graph_Neighbours: function 84 -/
mutual
def graph_Neighbours.l0 : Nat → List (List Int) → List (S58) → Int → Int → Int → List (S58) → Option ((List (List Int)))
 | 0, _, _, _, _, _, _ => none
 | k + 1, x12, x14, x15, x16, x255000, x255001 => if x16 < x15 then (if 0 ≤ x16 then (if x16 < (x14.length : Int) then (if ((rd_T58 x14 x16).f0) = ((rd_T58 x14 x16).f1) then (graph_Neighbours.l0 k x12 x14 x15 (wrap64 (x16 + 1)) x255000 x255001) else (if 0 ≤ ((rd_T58 x14 x16).f0) then (if ((rd_T58 x14 x16).f0) < (x12.length : Int) then (if (rd_L3 x12 ((rd_T58 x14 x16).f0)).length < 17592186044416 then ((some (x12.set (((rd_T58 x14 x16).f0) : Int).toNat ((rd_L3 x12 ((rd_T58 x14 x16).f0)) ++ [(rd_T58 x14 x16).f1]) : List (List Int))).bind fun y265 => (if 0 ≤ ((rd_T58 x14 x16).f1) then (if ((rd_T58 x14 x16).f1) < (x12.length : Int) then (if (rd_L3 y265 ((rd_T58 x14 x16).f1)).length < 17592186044416 then (graph_Neighbours.l0 k (y265.set (((rd_T58 x14 x16).f1) : Int).toNat ((rd_L3 y265 ((rd_T58 x14 x16).f1)) ++ [(rd_T58 x14 x16).f0])) x14 x15 (wrap64 (x16 + 1)) x255000 x255001) else (none)) else (none)) else (none))) else (none)) else (none)) else (none))) else (none)) else (none)) else (graph_Neighbours.l1 k x12 x255000 0)
def graph_Neighbours.l1 : Nat → List (List Int) → Int → Int → Option ((List (List Int)))
 | 0, _, _, _ => none
 | k + 1, x12, x53, x54 => if x54 < x53 then (if 0 ≤ x54 then (if x54 < (x12.length : Int) then ((sets_Of.f (rd_L3 x12 x54)).bind fun t272 => (graph_Neighbours.l1 k (x12.set (x54 : Int).toNat t272) x53 (wrap64 (x54 + 1)))) else (none)) else (none)) else (some x12)
end
def graph_Neighbours.f (k : Nat) (a0_0 : Int) (l0_1 : List (S58)) : Option ((List (List Int))) := (graph_Check.f k a0_0 l0_1).bind fun t255 => (if t255 = 0 then (if 0 ≤ a0_0 then (if (a0_0 : Int).toNat ≤ 11728124029610 then (graph_Neighbours.l0 k (List.replicate (a0_0 : Int).toNat []) l0_1 (l0_1.length : Int) 0 a0_0 l0_1) else (none)) else (none)) else (some ([] : List (List Int))))
def graph_Neighbours.T8 : Bool × List (List Nat × List Nat) := (true, [([], []), ([], []), ([1], [1]), ([], []), ([], []), ([4], [4]), ([3, 5], [3, 5]), ([6], [6]), ([], []), ([8], [8]), ([9], [9]), ([7, 10], [7, 10]), ([0, 2, 0, 1, 2, 3, 4, 5, 6, 7, 8, 9, 10, 11], [0, 2]), ([12, 11, 11, 0, 1, 2, 3, 4, 5, 6, 7, 8, 9, 10, 11], [11, 12])])
def graph_Neighbours.B8 : List Nat := [0, 0, 2, 0, 0, 16, 56, 120, 0, 256, 768, 2040, 4095, 8191]
theorem graph_Neighbours.tab8 : rtab .any (opsOf Try.f84 8) = graph_Neighbours.T8 := by kernel_rfl
theorem graph_Neighbours.bits8 : waitsOk graph_Neighbours.T8.2 graph_Neighbours.B8 = true := by kernel_rfl
def graph_Neighbours.T9 : Bool × List (List Nat × List Nat) := (true, [([], []), ([], []), ([1], [1]), ([], []), ([], []), ([4], [4]), ([3, 5], [3, 5]), ([6], [6]), ([], []), ([8], [8]), ([9], [9]), ([7, 10], [7, 10]), ([0, 2, 0, 1, 2, 3, 4, 5, 6, 7, 8, 9, 10, 11], [0, 2]), ([12, 11, 11, 0, 1, 2, 3, 4, 5, 6, 7, 8, 9, 10, 11], [11, 12])])
def graph_Neighbours.B9 : List Nat := [0, 0, 2, 0, 0, 16, 56, 120, 0, 256, 768, 2040, 4095, 8191]
theorem graph_Neighbours.tab9 : rtab .any (opsOf Try.f84 9) = graph_Neighbours.T9 := by kernel_rfl
theorem graph_Neighbours.bits9 : waitsOk graph_Neighbours.T9.2 graph_Neighbours.B9 = true := by kernel_rfl
set_option maxHeartbeats 8000000 in
set_option maxRecDepth 100000 in
theorem graph_Neighbours.calls (k : Nat) (a0_0 : Int) (A0_1 : Option Addr) (c0_1 : Nat) (l0_1 : List (S58)) (r : List (List Int)) (w : World) (hr0_1 : Kd.C k58 w A0_1 l0_1.length l0_1) (hc0_1 : l0_1.length ≤ c0_1) (h : graph_Neighbours.f k a0_0 l0_1 = some r) :
  Calls Try.prog 84 #[.agg #[.int .i64 a0_0, .slice A0_1 l0_1.length c0_1]] w fun e w' => ∃ v0_ : Value, e = .returned (v0_) ∧ Kd.S (Kd.slice 3 (Kd.int .i64)) 25 w' w.heap.size (fun _ => True) v0_ r ∧ Below w.heap.size w w' := by
 have hu24 := Try.underlying24; have hu58 := Try.underlying58; have HR0_1 := Aside0.mk hr0_1; have HC0_1 := Aside0.mk hc0_1; clear hr0_1 hc0_1; have HB := Aside0.mk (Below.refl w.heap.size w)
 have H : ((graph_Check.f k a0_0 l0_1).bind fun t255 => (if t255 = 0 then (if 0 ≤ a0_0 then (if (a0_0 : Int).toNat ≤ 11728124029610 then (graph_Neighbours.l0 k (List.replicate (a0_0 : Int).toNat []) l0_1 (l0_1.length : Int) 0 a0_0 l0_1) else (none)) else (none)) else (some ([] : List (List Int))))) = some r := h
 clear h
 replace H := Option.bind_eq_some_iff.mp H
 obtain ⟨t255, A20, H⟩ := H
 replace H : (if t255 = 0 then (if 0 ≤ a0_0 then (if (a0_0 : Int).toNat ≤ 11728124029610 then (graph_Neighbours.l0 k (List.replicate (a0_0 : Int).toNat []) l0_1 (l0_1.length : Int) 0 a0_0 l0_1) else (none)) else (none)) else (some ([] : List (List Int)))) = some r := H
 have A2 := Aside0.mk A20; clear A20
 by_cases c3 : t255 = 0
 ·rw [if_pos c3] at H
  have c3b0 : (t255 == 0) = true := beq_iff_eq.mpr c3
  have c3b1 : (t255 != 0) = false := bne_eq_false_iff_eq.mpr c3
  clear c3
  by_cases c4 : 0 ≤ a0_0
  ·rw [if_pos c4] at H
   have c4b0 := eq_true c4
   have c4b1 : decide (0 ≤ a0_0) = true := decide_eq_true c4
   clear c4
   by_cases c5 : (a0_0 : Int).toNat ≤ 11728124029610
   ·rw [if_pos c5] at H
    have c5b0 := eq_true c5
    have c5b1 : decide ((a0_0 : Int).toNat ≤ 11728124029610) = true := decide_eq_true c5
    clear c5
    obtain ⟨y256, hy256⟩ : ∃ y_ : List (List Int), y_ = (List.replicate (a0_0 : Int).toNat []) := ⟨_, rfl⟩
    replace H : (graph_Neighbours.l0 k y256 l0_1 (l0_1.length : Int) 0 a0_0 l0_1) = some r := by first | (rw [hy256]; with_reducible exact H) | (have H2_ := (Option.bind_some _ _).symm.trans H; rw [hy256]; with_reducible exact H2_) | (have H2_ := (Option.bind_some _ _).symm.trans H; with_reducible exact H2_) | with_reducible exact H | (rw [hy256]; exact H) | exact H
    have Ny256 := Aside0.mk hy256; clear hy256
    have H' := Aside0.mk H
    clear H
    go_enter Try.func84, Try.ntmps84
    go_wp2_with (first | ((with_reducible refine gate_dst (N := 1) rfl ?_); refine box_event ?hg (N := 1) ?hd (cs := #[.int .i64 a0_0, .slice A0_1 l0_1.length c0_1]) (t := 24) ?hr ?_; (case hd => rfl); (case hg => rfl); (case hr => first | (go_simp; done) | (go_simp; rfl)); intro gb254 hg w6 hbox hb; have n0_ := Aside0.mk (below_step (byB HB.out) hb); have n1_ := Aside0.mk (hbox); have n2_ := Aside0.mk ((by rw [hg]; exact (below_size (byB HB.out)) : w.heap.size ≤ gb254)); have n3_ := Aside0.mk ((by rw [hg]; exact (below_size (byB HB.out)) : w.heap.size ≤ gb254)); clear HB; have HB := n0_; have BK254 := n1_; have GW254 := n2_; have GE254 := n3_; clear n0_ n1_ n2_ n3_ hb hbox hg; have hcz7_0 : w6.cell? ⟨gb254, 0, none⟩ = some (.int .i64 a0_0) := (blk_cell BK254.out 0).trans rfl; have hcz7_1 : w6.cell? ⟨gb254, 1, none⟩ = some (.slice A0_1 l0_1.length c0_1) := (blk_cell BK254.out 1).trans rfl; have hfz7_0 := blk_frozen BK254.out 0; have hfz7_1 := blk_frozen BK254.out 1) | ((with_reducible refine gate_callee (f := 54) rfl ?_); refine goesL_ (some 8) rfl rfl Try.func54 (by kernel_rfl) rfl #[.agg #[.int .i64 a0_0, .slice A0_1 l0_1.length c0_1]] rfl byL ?_; (with_reducible refine (graph_Check.calls k a0_0 _ _ l0_1 t255 _ ?side1 ?side2 A2.out).mono ?_); (case side1 => exact byC (Kd.C_below HR0_1.out HB.out)); (case side2 => exact HC0_1.out); rintro e w8 ⟨rfl, hb⟩; refine ⟨_, rfl, ?_⟩; have n0_ := Aside0.mk (blk_below (g := gb254) (o := .cells #[.int .i64 a0_0, .slice A0_1 l0_1.length c0_1] 24 (0, 0)) (byK BK254.out) hb); have n1_ := Aside0.mk (below_step (byB1 HB.out GE254.out) hb); clear BK254 HB; have BK254 := n0_; have HB := n1_; clear n0_ n1_; (try clear hb); (try clear hb2); (try clear hk); (try clear hi); have hcz9_0 : w8.cell? ⟨gb254, 0, none⟩ = some (.int .i64 a0_0) := (blk_cell BK254.out 0).trans rfl; have hcz9_1 : w8.cell? ⟨gb254, 1, none⟩ = some (.slice A0_1 l0_1.length c0_1) := (blk_cell BK254.out 1).trans rfl; have hfz9_0 := blk_frozen BK254.out 0; have hfz9_1 := blk_frozen BK254.out 1) | ((with_reducible refine gate_dst (N := 12) rfl ?_); refine Kd.S_make (Kd.slice 3 (Kd.int .i64)) _ 25 rfl (N := 12) rfl 59 _ _ rfl a0_0 rfl rfl Try.underlying59 (.slice none 0 0) 24 info25 rfl (by decide) (by omega) [] (ok := fun _ => True) (okp := fun _ => True) ⟨_, rfl, Kd.R_nil _ _ _ _ _⟩ (fun _ hk => hk) trivial (odt) (Nat.le_trans (Nat.mul_le_mul_right _ (odt : a0_0.toNat ≤ 11728124029610)) (by omega)) (Below.refl _ _) (Nat.le_refl _) ?_; intro v257 w10 ho11 hb hg_ hnew_; clear hg_ hnew_; (first | rw [← Ny256.out] at ho11 | (simp only [Int.reduceToNat] at ho11; rw [← Ny256.out] at ho11)); have n0_ := Aside0.mk (Kd.S_lower ho11 (below_size (byB1 HB.out GE254.out))); have n1_ := Aside0.mk (blk_below (g := gb254) (o := .cells #[.int .i64 a0_0, .slice A0_1 l0_1.length c0_1] 24 (0, 0)) (byK BK254.out) hb); have n2_ := Aside0.mk (below_step (byB1 HB.out GE254.out) hb); clear BK254 HB; have HO258 := n0_; have BK254 := n1_; have HB := n2_; clear n0_ n1_ n2_ hb ho11; have hcz12_0 : w10.cell? ⟨gb254, 0, none⟩ = some (.int .i64 a0_0) := (blk_cell BK254.out 0).trans rfl; have hcz12_1 : w10.cell? ⟨gb254, 1, none⟩ = some (.slice A0_1 l0_1.length c0_1) := (blk_cell BK254.out 1).trans rfl; have hfz12_0 := blk_frozen BK254.out 0; have hfz12_1 := blk_frozen BK254.out 1))
    go_loopg [16] k (fun kq v16 w' => ∃ (x12_1 : List (List Int)) (x16_1 : Int), v16 = .int .i64 x16_1 ∧ Aside0 (graph_Neighbours.l0 kq x12_1 l0_1 (l0_1.length : Int) x16_1 a0_0 l0_1 = some r) ∧ Aside0 (kq ≤ k) ∧ Aside0 (Kd.S (Kd.slice 3 (Kd.int .i64)) 25 w' w.heap.size (fun _ => True) v257 x12_1) ∧ Aside0 (w'.heap[gb254]? = some (.cells #[.int .i64 a0_0, (.slice A0_1 l0_1.length c0_1)] 24 (0, 0))) ∧ Aside0 (Below w.heap.size w w'))
    case atStart => exact ⟨(y256), (0), byF, H', ⟨Nat.le_refl _⟩, ⟨by (with_reducible repeat (first | apply Kd.S_alloc | apply Kd.S_drewN | apply Kd.S_drew)); exact HO258.out⟩, ⟨by (with_reducible repeat (first | refine blk_drewN ?_ _ | refine blk_drew ?_ | refine blk_alloc ?_ _)); exact BK254.out⟩, ⟨byB1 HB.out GE254.out⟩⟩
    case round =>
     clear H'
     try clear p2
     try clear c3
     try clear c3b0
     try clear c3b1
     try clear c4
     try clear c4b0
     try clear c4b1
     try clear c5
     try clear c5b0
     try clear c5b1
     try clear c8
     try clear hcz12_0
     try clear hcz12_1
     try clear hcz7_0
     try clear hcz7_1
     try clear hcz9_0
     try clear hcz9_1
     try clear hfz12_0
     try clear hfz12_1
     try clear hfz7_0
     try clear hfz7_1
     try clear hfz9_0
     try clear hfz9_1
     obtain ⟨x12_1, x16_1, rfl, HA, HK1, HO_12, BK254, HB⟩ := hrel
     cases gk with
     | zero => exact absurd HA.out (by simp [graph_Neighbours.l0])
     | succ k1 =>
      have H := HA.out; clear HA
      simp only [graph_Neighbours.l0] at H
      by_cases c13 : x16_1 < (l0_1.length : Int)
      ·rw [if_pos c13] at H
       have c13b0 : decide (x16_1 < (l0_1.length : Int)) = true := decide_eq_true c13
       clear c13
       by_cases c14 : 0 ≤ x16_1
       ·rw [if_pos c14] at H
        have c14b0 : decide (0 ≤ x16_1) = true := decide_eq_true c14
        clear c14
        by_cases c15 : x16_1 < (l0_1.length : Int)
        ·rw [if_pos c15] at H
         have c15b0 : decide (x16_1 < (l0_1.length : Int)) = true := decide_eq_true c15
         clear c15
         by_cases c16 : ((rd_T58 l0_1 x16_1).f0) = ((rd_T58 l0_1 x16_1).f1)
         ·rw [if_pos c16] at H
          have c16b0 : (((rd_T58 l0_1 x16_1).f0) == ((rd_T58 l0_1 x16_1).f1)) = true := beq_iff_eq.mpr c16
          have c16b1 : (((rd_T58 l0_1 x16_1).f0) != ((rd_T58 l0_1 x16_1).f1)) = false := bne_eq_false_iff_eq.mpr c16
          clear c16
          have H' := Aside0.mk H
          clear H
          have p259 : 0 ≤ (x16_1 : Int) := odt
          have q259 : x16_1 < (l0_1.length : Int) := odt
          obtain ⟨ad259, e259, hx259_0, hx259_1⟩ := at_T58 HR0_1.out x16_1 p259 q259
          cases e259
          replace hx259_0 := (HB.out.cell (World.block_lt_of_cell? w _ hx259_0)).trans hx259_0
          replace hx259_1 := (HB.out.cell (World.block_lt_of_cell? w _ hx259_1)).trans hx259_1
          replace p259 := eq_true p259; replace q259 := eq_true q259
          go_wp2_with (first | ((with_reducible refine gate_dst (N := 5) rfl ?_); refine box_event ?hg (N := 5) ?hd (cs := #[.int .i64 0, .int .i64 0]) (t := 58) ?hr ?_; (case hd => rfl); (case hg => rfl); (case hr => first | (go_simp; done) | (go_simp; rfl)); intro gb260 hg w17 hbox hb; have n0_ := Aside0.mk (Kd.S_below (byS HO_12.out) hb); have n1_ := Aside0.mk (blk_below (g := gb254) (o := .cells #[.int .i64 a0_0, .slice (some ad259) l0_1.length c0_1] 24 (0, 0)) (byK BK254.out) hb); have n2_ := Aside0.mk (below_step (byB1 HB.out GE254.out) hb); have n3_ := Aside0.mk (hbox); have n4_ := Aside0.mk ((by rw [hg]; exact (below_size (byB1 HB.out GE254.out)) : w.heap.size ≤ gb260)); have n5_ := Aside0.mk ((by rw [hg]; exact (below_size (byB1 HB.out GE254.out)) : w.heap.size ≤ gb260)); have n6_ := Aside0.mk ((by rw [hg]; exact Nat.ne_of_lt (blk_lt (g := gb254) (o := .cells #[.int .i64 a0_0, .slice (some ad259) l0_1.length c0_1] 24 (0, 0)) (byK BK254.out)) : gb254 ≠ gb260)); have n7_ := Aside0.mk ((by rw [hg]; exact Nat.ne_of_gt (blk_lt (g := gb254) (o := .cells #[.int .i64 a0_0, .slice (some ad259) l0_1.length c0_1] 24 (0, 0)) (byK BK254.out)) : gb260 ≠ gb254)); clear HO_12 BK254 HB; have HO_12 := n0_; have BK254 := n1_; have HB := n2_; have BK260 := n3_; have GW260 := n4_; have GE260 := n5_; have NB254_260 := n6_; have NB260_254 := n7_; clear n0_ n1_ n2_ n3_ n4_ n5_ n6_ n7_ hb hbox hg; have hnb18 := NB260_254.out; have hnc18 := NB254_260.out; have hcz19_0 : w17.cell? ⟨gb260, 0, none⟩ = some (.int .i64 0) := (blk_cell BK260.out 0).trans rfl; have hcz19_1 : w17.cell? ⟨gb260, 1, none⟩ = some (.int .i64 0) := (blk_cell BK260.out 1).trans rfl; have hfz19_0 := blk_frozen BK260.out 0; have hfz19_1 := blk_frozen BK260.out 1))
          go_roundg k1
          case measure => have := HK1.out; omega
          case rel => exact ⟨(x12_1), (wrap64 (x16_1 + 1)), byF, H', ⟨by have := HK1.out; omega⟩, ⟨by (with_reducible repeat (first | apply Kd.S_alloc | apply Kd.S_drewN | apply Kd.S_drew)); exact Kd.S_mono (Kd.S_far (p := ⟨gb260, 1, none⟩) (Kd.S_far (p := ⟨gb260, 0, none⟩) (Kd.S_types HO_12.out BK260.out (by decide)) (fun _ hk => hk.2) (.int .i64 ((rd_T58 l0_1 x16_1).f0))) (fun _ hk => hk.2) (.int .i64 ((rd_T58 l0_1 x16_1).f1))) (fun _ hk => trivial)⟩, ⟨by (with_reducible repeat (first | refine blk_drewN ?_ _ | refine blk_drew ?_ | refine blk_alloc ?_ _)); refine blk_far ?_ NB254_260.out _; (with_reducible repeat (first | refine blk_drewN ?_ _ | refine blk_drew ?_ | refine blk_alloc ?_ _)); refine blk_far ?_ NB254_260.out _; (with_reducible repeat (first | refine blk_drewN ?_ _ | refine blk_drew ?_ | refine blk_alloc ?_ _)); exact BK254.out⟩, ⟨byB2 HB.out GE254.out GE260.out⟩⟩
         ·rw [if_neg c16] at H
          have c16b0 : (((rd_T58 l0_1 x16_1).f0) == ((rd_T58 l0_1 x16_1).f1)) = false := beq_eq_false_iff_ne.mpr c16
          have c16b1 : (((rd_T58 l0_1 x16_1).f0) != ((rd_T58 l0_1 x16_1).f1)) = true := bne_iff_ne.mpr c16
          by_cases c20 : 0 ≤ ((rd_T58 l0_1 x16_1).f0)
          ·rw [if_pos c20] at H
           have c20b0 : decide (0 ≤ ((rd_T58 l0_1 x16_1).f0)) = true := decide_eq_true c20
           clear c20
           by_cases c21 : ((rd_T58 l0_1 x16_1).f0) < (x12_1.length : Int)
           ·rw [if_pos c21] at H
            have c21b0 : decide (((rd_T58 l0_1 x16_1).f0) < (x12_1.length : Int)) = true := decide_eq_true c21
            clear c21
            by_cases c22 : (rd_L3 x12_1 ((rd_T58 l0_1 x16_1).f0)).length < 17592186044416
            ·rw [if_pos c22] at H
             have LMc22 := Aside0.mk c22; clear c22
             obtain ⟨y262, hy262⟩ : ∃ y_ : List Int, y_ = ((rd_L3 x12_1 ((rd_T58 l0_1 x16_1).f0)) ++ [(rd_T58 l0_1 x16_1).f1]) := ⟨_, rfl⟩
             replace H : ((some (x12_1.set (((rd_T58 l0_1 x16_1).f0) : Int).toNat y262 : List (List Int))).bind fun y265 => (if 0 ≤ ((rd_T58 l0_1 x16_1).f1) then (if ((rd_T58 l0_1 x16_1).f1) < (x12_1.length : Int) then (if (rd_L3 y265 ((rd_T58 l0_1 x16_1).f1)).length < 17592186044416 then (graph_Neighbours.l0 k1 (y265.set (((rd_T58 l0_1 x16_1).f1) : Int).toNat ((rd_L3 y265 ((rd_T58 l0_1 x16_1).f1)) ++ [(rd_T58 l0_1 x16_1).f0])) l0_1 (l0_1.length : Int) (wrap64 (x16_1 + 1)) a0_0 l0_1) else (none)) else (none)) else (none))) = some r := by first | (rw [hy262]; with_reducible exact H) | (have H2_ := (Option.bind_some _ _).symm.trans H; rw [hy262]; with_reducible exact H2_) | (have H2_ := (Option.bind_some _ _).symm.trans H; with_reducible exact H2_) | with_reducible exact H | (rw [hy262]; exact H) | exact H
             have Ny262 := Aside0.mk hy262; clear hy262
             obtain ⟨y265, hy265⟩ : ∃ y_ : List (List Int), y_ = (x12_1.set (((rd_T58 l0_1 x16_1).f0) : Int).toNat y262) := ⟨_, rfl⟩
             replace H : (if 0 ≤ ((rd_T58 l0_1 x16_1).f1) then (if ((rd_T58 l0_1 x16_1).f1) < (x12_1.length : Int) then (if (rd_L3 y265 ((rd_T58 l0_1 x16_1).f1)).length < 17592186044416 then (graph_Neighbours.l0 k1 (y265.set (((rd_T58 l0_1 x16_1).f1) : Int).toNat ((rd_L3 y265 ((rd_T58 l0_1 x16_1).f1)) ++ [(rd_T58 l0_1 x16_1).f0])) l0_1 (l0_1.length : Int) (wrap64 (x16_1 + 1)) a0_0 l0_1) else (none)) else (none)) else (none)) = some r := by first | (rw [hy265]; with_reducible exact H) | (have H2_ := (Option.bind_some _ _).symm.trans H; rw [hy265]; with_reducible exact H2_) | (have H2_ := (Option.bind_some _ _).symm.trans H; with_reducible exact H2_) | with_reducible exact H | (rw [hy265]; exact H) | exact H
             have Ny265 := Aside0.mk hy265; clear hy265
             by_cases c24 : 0 ≤ ((rd_T58 l0_1 x16_1).f1)
             ·rw [if_pos c24] at H
              have c24b0 : decide (0 ≤ ((rd_T58 l0_1 x16_1).f1)) = true := decide_eq_true c24
              clear c24
              by_cases c25 : ((rd_T58 l0_1 x16_1).f1) < (x12_1.length : Int)
              ·rw [if_pos c25] at H
               have c25b0 : decide (((rd_T58 l0_1 x16_1).f1) < (x12_1.length : Int)) = true := decide_eq_true c25
               clear c25
               by_cases c26 : (rd_L3 y265 ((rd_T58 l0_1 x16_1).f1)).length < 17592186044416
               ·rw [if_pos c26] at H
                have LMc26 := Aside0.mk c26; clear c26
                obtain ⟨y267, hy267⟩ : ∃ y_ : List Int, y_ = ((rd_L3 y265 ((rd_T58 l0_1 x16_1).f1)) ++ [(rd_T58 l0_1 x16_1).f0]) := ⟨_, rfl⟩
                replace H : (graph_Neighbours.l0 k1 (y265.set (((rd_T58 l0_1 x16_1).f1) : Int).toNat y267) l0_1 (l0_1.length : Int) (wrap64 (x16_1 + 1)) a0_0 l0_1) = some r := by first | (rw [hy267]; with_reducible exact H) | (have H2_ := (Option.bind_some _ _).symm.trans H; rw [hy267]; with_reducible exact H2_) | (have H2_ := (Option.bind_some _ _).symm.trans H; with_reducible exact H2_) | with_reducible exact H | (rw [hy267]; exact H) | exact H
                have Ny267 := Aside0.mk hy267; clear hy267
                obtain ⟨y270, hy270⟩ : ∃ y_ : List (List Int), y_ = (y265.set (((rd_T58 l0_1 x16_1).f1) : Int).toNat y267) := ⟨_, rfl⟩
                replace H : (graph_Neighbours.l0 k1 y270 l0_1 (l0_1.length : Int) (wrap64 (x16_1 + 1)) a0_0 l0_1) = some r := by first | (rw [hy270]; with_reducible exact H) | (have H2_ := (Option.bind_some _ _).symm.trans H; rw [hy270]; with_reducible exact H2_) | (have H2_ := (Option.bind_some _ _).symm.trans H; with_reducible exact H2_) | with_reducible exact H | (rw [hy270]; exact H) | exact H
                have Ny270 := Aside0.mk hy270; clear hy270
                have H' := Aside0.mk H
                clear H
                have p259 : 0 ≤ (x16_1 : Int) := odt
                have q259 : x16_1 < (l0_1.length : Int) := odt
                obtain ⟨ad259, e259, hx259_0, hx259_1⟩ := at_T58 HR0_1.out x16_1 p259 q259
                cases e259
                replace hx259_0 := (HB.out.cell (World.block_lt_of_cell? w _ hx259_0)).trans hx259_0
                replace hx259_1 := (HB.out.cell (World.block_lt_of_cell? w _ hx259_1)).trans hx259_1
                replace p259 := eq_true p259; replace q259 := eq_true q259
                try go_wp2_with (first | ((with_reducible refine gate_dst (N := 5) rfl ?_); refine box_event ?hg (N := 5) ?hd (cs := #[.int .i64 0, .int .i64 0]) (t := 58) ?hr ?_; (case hd => rfl); (case hg => rfl); (case hr => first | (go_simp; done) | (go_simp; rfl)); intro gb260 hg w28 hbox hb; have n0_ := Aside0.mk (Kd.S_below (byS HO_12.out) hb); have n1_ := Aside0.mk (blk_below (g := gb254) (o := .cells #[.int .i64 a0_0, .slice (some ad259) l0_1.length c0_1] 24 (0, 0)) (byK BK254.out) hb); have n2_ := Aside0.mk (below_step (byB1 HB.out GE254.out) hb); have n3_ := Aside0.mk (hbox); have n4_ := Aside0.mk ((by rw [hg]; exact (below_size (byB1 HB.out GE254.out)) : w.heap.size ≤ gb260)); have n5_ := Aside0.mk ((by rw [hg]; exact (below_size (byB1 HB.out GE254.out)) : w.heap.size ≤ gb260)); have n6_ := Aside0.mk ((by rw [hg]; exact Nat.ne_of_lt (blk_lt (g := gb254) (o := .cells #[.int .i64 a0_0, .slice (some ad259) l0_1.length c0_1] 24 (0, 0)) (byK BK254.out)) : gb254 ≠ gb260)); have n7_ := Aside0.mk ((by rw [hg]; exact Nat.ne_of_gt (blk_lt (g := gb254) (o := .cells #[.int .i64 a0_0, .slice (some ad259) l0_1.length c0_1] 24 (0, 0)) (byK BK254.out)) : gb260 ≠ gb254)); clear HO_12 BK254 HB; have HO_12 := n0_; have BK254 := n1_; have HB := n2_; have BK260 := n3_; have GW260 := n4_; have GE260 := n5_; have NB254_260 := n6_; have NB260_254 := n7_; clear n0_ n1_ n2_ n3_ n4_ n5_ n6_ n7_ hb hbox hg; have hnb29 := NB260_254.out; have hnc29 := NB254_260.out; have hcz30_0 : w28.cell? ⟨gb260, 0, none⟩ = some (.int .i64 0) := (blk_cell BK260.out 0).trans rfl; have hcz30_1 : w28.cell? ⟨gb260, 1, none⟩ = some (.int .i64 0) := (blk_cell BK260.out 1).trans rfl; have hfz30_0 := blk_frozen BK260.out 0; have hfz30_1 := blk_frozen BK260.out 1))
                have n0_ : Aside0 (Kd.S (Kd.slice 3 (Kd.int .i64)) 25 ((w28.setCell ⟨gb260, 0, none⟩ (.int .i64 ((rd_T58 l0_1 x16_1).f0))).setCell ⟨gb260, 1, none⟩ (.int .i64 ((rd_T58 l0_1 x16_1).f1))) w.heap.size (fun _ => True) v257 x12_1) := ⟨by (with_reducible repeat (first | apply Kd.S_alloc | apply Kd.S_drewN | apply Kd.S_drew)); exact Kd.S_mono (Kd.S_far (p := ⟨gb260, 1, none⟩) (Kd.S_far (p := ⟨gb260, 0, none⟩) (Kd.S_types HO_12.out BK260.out (by decide)) (fun _ hk => hk.2) (.int .i64 ((rd_T58 l0_1 x16_1).f0))) (fun _ hk => hk.2) (.int .i64 ((rd_T58 l0_1 x16_1).f1))) (fun _ hk => trivial)⟩
                have n1_ : Aside0 (((w28.setCell ⟨gb260, 0, none⟩ (.int .i64 ((rd_T58 l0_1 x16_1).f0))).setCell ⟨gb260, 1, none⟩ (.int .i64 ((rd_T58 l0_1 x16_1).f1))).heap[gb254]? = some (.cells #[.int .i64 a0_0, .slice (some ad259) l0_1.length c0_1] 24 (0, 0))) := ⟨by (with_reducible repeat (first | refine blk_drewN ?_ _ | refine blk_drew ?_ | refine blk_alloc ?_ _)); refine blk_far ?_ NB254_260.out _; (with_reducible repeat (first | refine blk_drewN ?_ _ | refine blk_drew ?_ | refine blk_alloc ?_ _)); refine blk_far ?_ NB254_260.out _; (with_reducible repeat (first | refine blk_drewN ?_ _ | refine blk_drew ?_ | refine blk_alloc ?_ _)); exact BK254.out⟩
                have n2_ : Aside0 (((w28.setCell ⟨gb260, 0, none⟩ (.int .i64 ((rd_T58 l0_1 x16_1).f0))).setCell ⟨gb260, 1, none⟩ (.int .i64 ((rd_T58 l0_1 x16_1).f1))).heap[gb260]? = some (.cells #[.int .i64 ((rd_T58 l0_1 x16_1).f0), .int .i64 ((rd_T58 l0_1 x16_1).f1)] 58 (0, 0))) := ⟨by (with_reducible repeat (first | refine blk_drewN ?_ _ | refine blk_drew ?_ | refine blk_alloc ?_ _)); refine blk_put (cs := #[.int .i64 ((rd_T58 l0_1 x16_1).f0), .int .i64 0]) ?_ 1 _ rfl; (with_reducible repeat (first | refine blk_drewN ?_ _ | refine blk_drew ?_ | refine blk_alloc ?_ _)); refine blk_put (cs := #[.int .i64 0, .int .i64 0]) ?_ 0 _ rfl; (with_reducible repeat (first | refine blk_drewN ?_ _ | refine blk_drew ?_ | refine blk_alloc ?_ _)); exact BK260.out⟩
                have n3_ : Aside0 (Below w.heap.size w ((w28.setCell ⟨gb260, 0, none⟩ (.int .i64 ((rd_T58 l0_1 x16_1).f0))).setCell ⟨gb260, 1, none⟩ (.int .i64 ((rd_T58 l0_1 x16_1).f1)))) := ⟨byB2 HB.out GE254.out GE260.out⟩
                (try clear HO_12)
                (try clear BK254)
                (try clear BK260)
                (try clear HB)
                generalize ((w28.setCell ⟨gb260, 0, none⟩ (.int .i64 ((rd_T58 l0_1 x16_1).f0))).setCell ⟨gb260, 1, none⟩ (.int .i64 ((rd_T58 l0_1 x16_1).f1))) = w31 at n0_ n1_ n2_ n3_ ⊢
                have HO_12 := n0_; have BK254 := n1_; have BK260 := n2_; have HB := n3_; clear n0_ n1_ n2_ n3_; have n0_ := Aside0.mk (Kd.S_drew HO_12.out); have n1_ := Aside0.mk (blk_drew BK254.out); have n2_ := Aside0.mk (blk_drew BK260.out); have n3_ := Aside0.mk (below_drew1 HB.out); clear HO_12 BK254 BK260 HB; have HO_12 := n0_; have BK254 := n1_; have BK260 := n2_; have HB := n3_; clear n0_ n1_ n2_ n3_
                obtain ⟨Ao33, co33, eo33⟩ := Kd.S_slice HO_12.out
                (first | subst eo33 | (injection eo33 with f1_ f2_ f3_; have f4_ := f1_.symm; have f5_ := f3_.symm; clear f1_ f2_ f3_; subst f4_; subst f5_))
                have p261 : 0 ≤ (((rd_T58 l0_1 x16_1).f0) : Int) := odt
                have q261 : ((rd_T58 l0_1 x16_1).f0) < (x12_1.length : Int) := odt
                obtain ⟨ad261, A261_0, c261_0, e261, hx261_0, hl261_0, hi261_0⟩ := at_L3 (Kd.S_reads' HO_12.out).2.2 ((rd_T58 l0_1 x16_1).f0) p261 q261
                cases e261
                obtain ⟨ce261, hce261, hMe261, hcc261⟩ := Kd.S_get HO_12.out [] ((rd_T58 l0_1 x16_1).f0) p261 (by first | exact q261 | exact odt | (have e_ := (Kd.S_reads' HO_12.out).1; omega))
                obtain ⟨ve261_0, rfl, ge261_0⟩ := hMe261
                have hv261_0 := hcc261 0 _ rfl
                rw [Nat.add_zero, show ((Kd.slice 3 (Kd.int .i64))).sz = 1 from rfl, Nat.mul_one] at hv261_0
                replace hv261_0 := Option.some.inj (hv261_0.symm.trans hx261_0)
                rw [hv261_0] at ge261_0
                have HL261_0 := Aside0.mk (show Kd.R (Kd.int .i64) 3 _ _ _ _ (rd_L3 x12_1 ((rd_T58 l0_1 x16_1).f0)) from ge261_0); clear hv261_0 ge261_0; have HX261_0 := Aside0.mk hx261_0; clear hcc261 hce261; have HR261_0 := Aside0.mk hi261_0; have HC261_0 := Aside0.mk hl261_0; clear hi261_0 hl261_0; replace p261 := eq_true p261; replace q261 := eq_true q261
                obtain ⟨go34, co34, eo34, gb34, gl34, cl34, HG34⟩ := Kd.S_form HO_12.out (by have h_ : (((rd_T58 l0_1 x16_1).f0) : Int) < ((x12_1.length : Int) : Int) := odt; have h2_ : 0 ≤ (((rd_T58 l0_1 x16_1).f0) : Int) := (odt); omega)
                (first | cases eo34 | (injection eo34 with ea_ en_ ec_; (first | subst ea_ | (injection ea_ with ea_; subst ea_)); subst ec_; clear en_))
                have GB34 := Aside0.mk gb34; have GG34 := Aside0.mk HG34; clear gb34 gl34 HG34
                (first | simp only [add_plain] at hx261_0 | skip)
                obtain ⟨oki34, ce34, hcl34, hM34, hcc34, _, _, hH34⟩ := Kd.S_elem HO_12.out [] (((rd_T58 l0_1 x16_1).f0) : Int) (odt) (by have h_ : (((rd_T58 l0_1 x16_1).f0) : Int) < ((x12_1.length : Int) : Int) := odt; first | exact h_ | (have e_ := (Kd.S_reads' HO_12.out).1; omega) | simpa using h_)
                obtain ⟨ve34_0, rfl, ge34_0⟩ := hM34
                have hv34 := hcc34 0 _ rfl; have hX34 := HX261_0.out
                (try simp only [add_plain] at hX34)
                (try simp only [Nat.add_zero] at hv34)
                (try rw [show ((Kd.slice 3 (Kd.int .i64))).sz = 1 from rfl, Nat.mul_one] at hv34)
                replace hv34 := Option.some.inj (hv34.symm.trans hX34)
                subst hv34; clear hX34 hcc34 hcl34; have UU34 := Aside0.mk (show Kd.R (Kd.int .i64) 3 _ w.heap.size oki34 (.slice A261_0 (rd_L3 x12_1 ((rd_T58 l0_1 x16_1).f0)).length c261_0) (rd_L3 x12_1 ((rd_T58 l0_1 x16_1).f0)) from ge34_0); have HH34 := Aside0.mk hH34
                have HN34 := Aside0.mk (Kd.S_reads' HO_12.out).1
                clear hH34 ge34_0
                refine start_ (n := 14) (S := fun w' => w'.cell? ⟨gb260, 0, none⟩ = some (.int .i64 ((rd_T58 l0_1 x16_1).f0)) ∧ w'.cell? ⟨gb260, 1, none⟩ = some (.int .i64 ((rd_T58 l0_1 x16_1).f1)) ∧ w'.cell? ⟨go34, (((rd_T58 l0_1 x16_1).f0)).toNat, none⟩ = some (.slice A261_0 (rd_L3 x12_1 ((rd_T58 l0_1 x16_1).f0)).length c261_0)) (ds := [13]) (bits 14 0) (by kernel_rfl) rfl rfl ⟨(blk_cell BK260.out 0).trans rfl, (blk_cell BK260.out 1).trans rfl, hx261_0⟩ (fun hHeld => ?_); refine with_tabW graph_Neighbours.tab8 graph_Neighbours.bits8 (fun HT_ HW_ => ?_)
                generalize w31.drew = w32 at HO_12 BK254 BK260 HB GG34 HH34 HL261_0 HR261_0 HX261_0 UU34 hx261_0 hHeld ⊢
                refine q_ 0 25 HT_ ?_; refine q_ 1 26 HT_ ?_; refine q_ 3 28 HT_ ?_; refine q_ 4 29 HT_ ?_; refine q_ 8 33 HT_ ?_; refine r3_ 2 27 HT_ HW_ hHeld ?_; refine r3_ 5 30 HT_ HW_ hHeld ?_; refine q_ 6 31 HT_ ?_; refine r3_ 7 32 HT_ HW_ hHeld ?_; refine r3_ 9 34 HT_ HW_ hHeld ?_; refine one_ (i := 10) (N := some 35) (bits 14 2047) rfl rfl (one_of HT_.out (by kernel_rfl)) (by decide) (fun K hK => ?_)
                refine value_ (w1 := ?_) (v := ?_) (by rfl) rfl ?_ ?_
                rotate_left 2
                ·go_simp
                 constructor
                 (·rfl); (·rfl)
                refine hK.out _ _ ⟨(blk_cell (blk_alloc BK260.out _) 0).trans rfl, (blk_cell (blk_alloc BK260.out _) 1).trans rfl, (World.cell?_alloc_lt _ _ _ (World.block_lt_of_cell? _ _ (hHeld.2.2))).trans (hHeld.2.2)⟩ (fun hHeld => ?_)
                clear hK K
                refine norm_ (a' := ?_) ?_ ?_
                rotate_left
                ·show Act.put _ (some 35) _ = _
                 simp only [putW]; rfl
                refine one_ (i := 11) (N := some 36) (bits 14 4095) rfl rfl (one_of HT_.out (by kernel_rfl)) (by decide) (fun K hK => ?_)
                refine Kd.R_append_step (Kd.int .i64) (w0 := w) w.heap.size (by rfl) (.tmp 32) (.tmp 35) 25 3 (.int .i64 0) 8 rfl Try.underlying25 info3 rfl (by decide) (by omega) (.slice A261_0 (rd_L3 x12_1 ((rd_T58 l0_1 x16_1).f0)).length c261_0) (rd_L3 x12_1 ((rd_T58 l0_1 x16_1).f0)) ((rd_T58 l0_1 x16_1).f1) [.int .i64 ((rd_T58 l0_1 x16_1).f1)] (fun k_ => oki34 k_ ∨ ((fun _ => True)) k_ ∧ w32.heap.size ≤ k_) (fun _ => False) rfl rfl ?aP (fun _ hk => hk.elim) ?aF ?aO ?aB ?aS ?aL ?_
                (case aP => exact rfl)
                (case aB => exact (byB2 HB.out GE254.out GE260.out))
                (case aF => exact (fun k_ hk => .inr ⟨trivial, hk⟩))
                (case aO => exact (by (with_reducible repeat (first | apply Kd.R_alloc | apply Kd.R_drewN | apply Kd.R_drew)); exact Kd.R_mono UU34.out (fun _ hk => .inl hk)))
                (case aS => exact (below_size (byB2 HB.out GE254.out GE260.out)))
                (case aL => have := LMc22.out; omega)
                intro v263 w35 ho hb hg hat
                (first | have HS2_ := cell_grown hg (hHeld.2.2) (by first | (rw [add_block]; exact (fun e_ => ((HL261_0.out.1 _ e_.symm).2) rfl)) | (show some (Addr.add _ _).block ≠ _; rw [add_block]; exact (fun e_ => ((HL261_0.out.1 _ e_.symm).2) rfl)) | exact (fun e_ => ((HL261_0.out.1 _ e_.symm).2) rfl)) | have HS2_ := cell_grown hg (cell_unalloc (hHeld.2.2) (by first | (rw [add_block]; exact Kd.S_lt HO_12.out _ rfl) | (show (Addr.add _ _).block < _; rw [add_block]; exact Kd.S_lt HO_12.out _ rfl) | exact Kd.S_lt HO_12.out _ rfl)) (by first | (rw [add_block]; exact (fun e_ => ((HL261_0.out.1 _ e_.symm).2) rfl)) | (show some (Addr.add _ _).block ≠ _; rw [add_block]; exact (fun e_ => ((HL261_0.out.1 _ e_.symm).2) rfl)) | exact (fun e_ => ((HL261_0.out.1 _ e_.symm).2) rfl)))
                rw [← Ny262.out] at ho
                have n0_ := Aside0.mk (blk_grown (g := gb254) (o := .cells #[.int .i64 a0_0, .slice (some ad259) l0_1.length c0_1] 24 (0, 0)) (byK BK254.out) hg (Kd.R_ne HL261_0.out BK254.out (by decide))); have n1_ := Aside0.mk (blk_grown (g := gb260) (o := .cells #[.int .i64 ((rd_T58 l0_1 x16_1).f0), .int .i64 ((rd_T58 l0_1 x16_1).f1)] 58 (0, 0)) (byK BK260.out) hg (Kd.R_ne HL261_0.out BK260.out (by decide))); have n2_ := Aside0.mk (hb); have n3_ := Aside0.mk (Kd.H_grown (Kd.H_widen (by repeat (first | exact HH34.out | refine Kd.H_alloc ?_ _ | refine Kd.H_drewN ?_ _ | refine Kd.H_drew ?_))) hg (fun k_ e_ => .inl (UU34.out.1 k_ e_))); have n4_ := Aside0.mk (ho); clear BK254 BK260 HB HH34 HO_12 UU34 HL261_0; have BK254 := n0_; have BK260 := n1_; have HB := n2_; have HH34 := n3_; have HO264 := n4_; clear n0_ n1_ n2_ n3_ n4_ ho hb hg hat
                have p23 : 0 ≤ (((rd_T58 l0_1 x16_1).f0) : Int) := odt
                have q23 : (((rd_T58 l0_1 x16_1).f0) : Int) < ((x12_1.length : Int) : Int) := odt
                replace p23 := eq_true p23; replace q23 := eq_true q23
                obtain ⟨Ao38, co38, eo38⟩ := Kd.R_slice HO264.out
                (first | subst eo38 | (injection eo38 with f1_ f2_ f3_; have f4_ := f1_.symm; have f5_ := f3_.symm; clear f1_ f2_ f3_; subst f4_; subst f5_))
                obtain ⟨_, _, hraw36, _, _, hcc36, _⟩ := Kd.H_raw HH34.out (odt) (by have h_ : (((rd_T58 l0_1 x16_1).f0) : Int) < ((x12_1.length : Int) : Int) := odt; first | exact h_ | (have e_ := (HN34.out); omega) | simpa using h_)
                obtain ⟨_, hfr36⟩ := Kd.H_at HH34.out (odt) (by have h_ : (((rd_T58 l0_1 x16_1).f0) : Int) < ((x12_1.length : Int) : Int) := odt; first | exact h_ | (have e_ := (HN34.out); omega) | simpa using h_)
                have hx36_0 := hcc36 0 _ rfl; have hf36_0 := hfr36 0
                (try simp only [Nat.add_zero] at hx36_0 hf36_0)
                (try rw [show ((Kd.slice 3 (Kd.int .i64))).sz = 1 from rfl, Nat.mul_one] at hx36_0)
                (try rw [show ((Kd.slice 3 (Kd.int .i64))).sz = 1 from rfl, Nat.mul_one] at hf36_0)
                have HP36 := Kd.S_seg0 HH34.out (odt) (by have h_ : (((rd_T58 l0_1 x16_1).f0) : Int) < ((x12_1.length : Int) : Int) := odt; first | exact h_ | (have e_ := (HN34.out); omega) | simpa using h_) (seg := [.slice Ao38 y262.length co38]) (j := 0) (show 1 ≤ 1 from by decide) (x' := y262) (Kd.M_row HO264.out) (fun _ hk => hk)
                (try simp only [show ((Kd.slice 3 (Kd.int .i64))).sz = 1 from rfl, Nat.mul_one, Nat.add_zero] at HP36)
                clear hcc36 hfr36; have HNB254_go34 := Aside0.mk (show gb254 ≠ go34 from by have h_ := Kd.R_ne hraw36 BK254.out (by decide); intro e_; exact h_ (by rw [e_]; rfl)); have HNB260_go34 := Aside0.mk (show gb260 ≠ go34 from by have h_ := Kd.R_ne hraw36 BK260.out (by decide); intro e_; exact h_ (by rw [e_]; rfl)); have HS36 := HP36.1
                rw [← Ny265.out] at HS36
                have HQ36 := Aside0.mk HS36
                obtain ⟨_, hgg36⟩ := Kd.R_typed hraw36 go34 rfl
                have GG36_ := Aside0.mk hgg36; clear HP36 HS36 hgg36
                refine hK.out _ _ ⟨(blk_cell BK260.out 0).trans rfl, (blk_cell BK260.out 1).trans rfl, HS2_⟩ (fun hHeld => ?_)
                clear hK K
                refine norm_ (a' := ?_) ?_ ?_
                rotate_left
                ·show Act.put _ (some 36) _ = _
                 simp only [putW]; rfl
                refine q_ 12 37 HT_ ?_
                refine last_ (i := 13) (N := none) (bits 14 16383) rfl rfl (one_of HT_.out (by kernel_rfl)) (by decide) (fun K hK => ?_)
                refine skip_ (w1 := ?_) (by rfl) rfl ?_ ?_
                rotate_left; (·go_simp; rfl)
                refine hK.out _ _ ?_
                clear hK K
                refine done_ (done_of HT_.out (by kernel_rfl)) ?_
                try go_wp2
                have n0_ : Aside0 (Kd.S (Kd.slice 3 (Kd.int .i64)) 25 (w35.setCell ⟨go34, (((rd_T58 l0_1 x16_1).f0) : Int).toNat, none⟩ (.slice Ao38 y262.length co38)) w.heap.size (fun _ => True) (.slice (some ⟨go34, 0, none⟩) x12_1.length co33) y265) := ⟨by (with_reducible repeat (first | apply Kd.S_alloc | apply Kd.S_drewN | apply Kd.S_drew)); exact HQ36.out⟩
                have n1_ : Aside0 ((w35.setCell ⟨go34, (((rd_T58 l0_1 x16_1).f0) : Int).toNat, none⟩ (.slice Ao38 y262.length co38)).heap[gb254]? = some (.cells #[.int .i64 a0_0, .slice (some ad259) l0_1.length c0_1] 24 (0, 0))) := ⟨by (with_reducible repeat (first | refine blk_drewN ?_ _ | refine blk_drew ?_ | refine blk_alloc ?_ _)); refine blk_far ?_ HNB254_go34.out _; (with_reducible repeat (first | refine blk_drewN ?_ _ | refine blk_drew ?_ | refine blk_alloc ?_ _)); exact BK254.out⟩
                have n2_ : Aside0 ((w35.setCell ⟨go34, (((rd_T58 l0_1 x16_1).f0) : Int).toNat, none⟩ (.slice Ao38 y262.length co38)).heap[gb260]? = some (.cells #[.int .i64 ((rd_T58 l0_1 x16_1).f0), .int .i64 ((rd_T58 l0_1 x16_1).f1)] 58 (0, 0))) := ⟨by (with_reducible repeat (first | refine blk_drewN ?_ _ | refine blk_drew ?_ | refine blk_alloc ?_ _)); refine blk_far ?_ HNB260_go34.out _; (with_reducible repeat (first | refine blk_drewN ?_ _ | refine blk_drew ?_ | refine blk_alloc ?_ _)); exact BK260.out⟩
                have n3_ : Aside0 (Below w.heap.size w (w35.setCell ⟨go34, (((rd_T58 l0_1 x16_1).f0) : Int).toNat, none⟩ (.slice Ao38 y262.length co38))) := ⟨byB3 HB.out GB34.out GE254.out GE260.out⟩
                (try clear HO_12)
                (try clear BK254)
                (try clear BK260)
                (try clear HB)
                generalize (w35.setCell ⟨go34, (((rd_T58 l0_1 x16_1).f0) : Int).toNat, none⟩ (.slice Ao38 y262.length co38)) = w39 at n0_ n1_ n2_ n3_ ⊢
                have HO_12 := n0_; have BK254 := n1_; have BK260 := n2_; have HB := n3_; clear n0_ n1_ n2_ n3_; have n0_ := Aside0.mk (Kd.S_drew HO_12.out); have n1_ := Aside0.mk (blk_drew BK254.out); have n2_ := Aside0.mk (blk_drew BK260.out); have n3_ := Aside0.mk (below_drew1 HB.out); clear HO_12 BK254 BK260 HB; have HO_12 := n0_; have BK254 := n1_; have BK260 := n2_; have HB := n3_; clear n0_ n1_ n2_ n3_
                have p266 : 0 ≤ (((rd_T58 l0_1 x16_1).f1) : Int) := odt
                have q266 : ((rd_T58 l0_1 x16_1).f1) < (y265.length : Int) := (by have h_ : (((rd_T58 l0_1 x16_1).f1) : Int) < ((x12_1.length : Int) : Int) := odt; first | (have e_ := (Kd.S_reads' HO_12.out).1; omega) | simpa only [Ny265.out, List.length_set] using h_)
                have ql266 : ((((rd_T58 l0_1 x16_1).f1) : Int) < ((x12_1.length : Int) : Int)) = True := eq_true (odt)
                obtain ⟨ad266, A266_0, c266_0, e266, hx266_0, hl266_0, hi266_0⟩ := at_L3 (Kd.S_reads' HO_12.out).2.2 ((rd_T58 l0_1 x16_1).f1) p266 q266
                obtain rfl : (⟨go34, 0, none⟩ : Addr) = ad266 := (by injection e266)
                obtain ⟨ce266, hce266, hMe266, hcc266⟩ := Kd.S_get HO_12.out [] ((rd_T58 l0_1 x16_1).f1) p266 (by first | exact q266 | exact odt | (have e_ := (Kd.S_reads' HO_12.out).1; omega))
                obtain ⟨ve266_0, rfl, ge266_0⟩ := hMe266
                have hv266_0 := hcc266 0 _ rfl
                rw [Nat.add_zero, show ((Kd.slice 3 (Kd.int .i64))).sz = 1 from rfl, Nat.mul_one] at hv266_0
                replace hv266_0 := Option.some.inj (hv266_0.symm.trans hx266_0)
                rw [hv266_0] at ge266_0
                have HL266_0 := Aside0.mk (show Kd.R (Kd.int .i64) 3 _ _ _ _ (rd_L3 y265 ((rd_T58 l0_1 x16_1).f1)) from ge266_0); clear hv266_0 ge266_0; have HX266_0 := Aside0.mk hx266_0; clear hcc266 hce266
                (first | simp only [add_plain] at hx266_0 | simp only [add_at] at hx266_0 | simp only [Addr.add, Nat.zero_add] at hx266_0 | skip)
                have HR266_0 := Aside0.mk hi266_0; have HC266_0 := Aside0.mk hl266_0; clear hi266_0 hl266_0; replace p266 := eq_true p266; replace q266 := eq_true q266
                obtain ⟨oki41, ce41, hcl41, hM41, hcc41, _, _, hH41⟩ := Kd.S_elem HO_12.out [] (((rd_T58 l0_1 x16_1).f1) : Int) (odt) (by have h_ : (((rd_T58 l0_1 x16_1).f1) : Int) < ((x12_1.length : Int) : Int) := odt; first | exact h_ | (have e_ := (Kd.S_reads' HO_12.out).1; omega) | simpa using h_)
                obtain ⟨ve41_0, rfl, ge41_0⟩ := hM41
                have hv41 := hcc41 0 _ rfl; have hX41 := HX266_0.out
                (try simp only [add_plain] at hX41)
                (try simp only [Nat.add_zero] at hv41)
                (try rw [show ((Kd.slice 3 (Kd.int .i64))).sz = 1 from rfl, Nat.mul_one] at hv41)
                replace hv41 := Option.some.inj (hv41.symm.trans hX41)
                subst hv41; clear hX41 hcc41 hcl41; have UU41 := Aside0.mk (show Kd.R (Kd.int .i64) 3 _ w.heap.size oki41 (.slice A266_0 (rd_L3 y265 ((rd_T58 l0_1 x16_1).f1)).length c266_0) (rd_L3 y265 ((rd_T58 l0_1 x16_1).f1)) from ge41_0); have HH41 := Aside0.mk hH41
                have HN41 := Aside0.mk (Kd.S_reads' HO_12.out).1
                clear hH41 ge41_0
                refine start_ (n := 14) (S := fun w' => w'.cell? ⟨gb260, 0, none⟩ = some (.int .i64 ((rd_T58 l0_1 x16_1).f0)) ∧ w'.cell? ⟨gb260, 1, none⟩ = some (.int .i64 ((rd_T58 l0_1 x16_1).f1)) ∧ w'.cell? ⟨go34, (((rd_T58 l0_1 x16_1).f1)).toNat, none⟩ = some (.slice A266_0 (rd_L3 y265 ((rd_T58 l0_1 x16_1).f1)).length c266_0)) (ds := [13]) (bits 14 0) (by kernel_rfl) rfl rfl ⟨(blk_cell BK260.out 0).trans rfl, (blk_cell BK260.out 1).trans rfl, hx266_0⟩ (fun hHeld => ?_); refine with_tabW graph_Neighbours.tab9 graph_Neighbours.bits9 (fun HT_ HW_ => ?_)
                generalize w39.drew = w40 at HO_12 BK254 BK260 HB HH41 HL266_0 HQ36 HR266_0 HX266_0 UU41 hx266_0 hHeld ⊢
                refine q_ 0 38 HT_ ?_; refine q_ 1 39 HT_ ?_; refine q_ 3 41 HT_ ?_; refine q_ 4 42 HT_ ?_; refine q_ 8 46 HT_ ?_; refine r3_ 2 40 HT_ HW_ hHeld ?_; refine r3_ 5 43 HT_ HW_ hHeld ?_; refine q_ 6 44 HT_ ?_; refine r3_ 7 45 HT_ HW_ hHeld ?_; refine r3_ 9 47 HT_ HW_ hHeld ?_; refine one_ (i := 10) (N := some 48) (bits 14 2047) rfl rfl (one_of HT_.out (by kernel_rfl)) (by decide) (fun K hK => ?_)
                refine value_ (w1 := ?_) (v := ?_) (by rfl) rfl ?_ ?_
                rotate_left 2
                ·go_simp
                 constructor
                 (·rfl); (·rfl)
                refine hK.out _ _ ⟨(blk_cell (blk_alloc BK260.out _) 0).trans rfl, (blk_cell (blk_alloc BK260.out _) 1).trans rfl, (World.cell?_alloc_lt _ _ _ (World.block_lt_of_cell? _ _ (hHeld.2.2))).trans (hHeld.2.2)⟩ (fun hHeld => ?_)
                clear hK K
                refine norm_ (a' := ?_) ?_ ?_
                rotate_left
                ·show Act.put _ (some 48) _ = _
                 simp only [putW]; rfl
                refine one_ (i := 11) (N := some 49) (bits 14 4095) rfl rfl (one_of HT_.out (by kernel_rfl)) (by decide) (fun K hK => ?_)
                refine Kd.R_append_step (Kd.int .i64) (w0 := w) w.heap.size (by rfl) (.tmp 45) (.tmp 48) 25 3 (.int .i64 0) 8 rfl Try.underlying25 info3 rfl (by decide) (by omega) (.slice A266_0 (rd_L3 y265 ((rd_T58 l0_1 x16_1).f1)).length c266_0) (rd_L3 y265 ((rd_T58 l0_1 x16_1).f1)) ((rd_T58 l0_1 x16_1).f0) [.int .i64 ((rd_T58 l0_1 x16_1).f0)] (fun k_ => oki41 k_ ∨ ((fun _ => True)) k_ ∧ w40.heap.size ≤ k_) (fun _ => False) rfl rfl ?aP (fun _ hk => hk.elim) ?aF ?aO ?aB ?aS ?aL ?_
                (case aP => exact rfl)
                (case aB => exact (byB2 HB.out GE254.out GE260.out))
                (case aF => exact (fun k_ hk => .inr ⟨trivial, hk⟩))
                (case aO => exact (by (with_reducible repeat (first | apply Kd.R_alloc | apply Kd.R_drewN | apply Kd.R_drew)); exact Kd.R_mono UU41.out (fun _ hk => .inl hk)))
                (case aS => exact (below_size (byB2 HB.out GE254.out GE260.out)))
                (case aL => have := LMc26.out; omega)
                intro v268 w42 ho hb hg hat
                (first | have HS2_ := cell_grown hg (hHeld.2.2) (by first | (rw [add_block]; exact (fun e_ => ((HL266_0.out.1 _ e_.symm).2) rfl)) | (show some (Addr.add _ _).block ≠ _; rw [add_block]; exact (fun e_ => ((HL266_0.out.1 _ e_.symm).2) rfl)) | exact (fun e_ => ((HL266_0.out.1 _ e_.symm).2) rfl)) | have HS2_ := cell_grown hg (cell_unalloc (hHeld.2.2) (by first | (rw [add_block]; exact Kd.S_lt HO_12.out _ rfl) | (show (Addr.add _ _).block < _; rw [add_block]; exact Kd.S_lt HO_12.out _ rfl) | exact Kd.S_lt HO_12.out _ rfl)) (by first | (rw [add_block]; exact (fun e_ => ((HL266_0.out.1 _ e_.symm).2) rfl)) | (show some (Addr.add _ _).block ≠ _; rw [add_block]; exact (fun e_ => ((HL266_0.out.1 _ e_.symm).2) rfl)) | exact (fun e_ => ((HL266_0.out.1 _ e_.symm).2) rfl)))
                rw [← Ny267.out] at ho
                have n0_ := Aside0.mk (blk_grown (g := gb254) (o := .cells #[.int .i64 a0_0, .slice (some ad259) l0_1.length c0_1] 24 (0, 0)) (byK BK254.out) hg (Kd.R_ne HL266_0.out BK254.out (by decide))); have n1_ := Aside0.mk (blk_grown (g := gb260) (o := .cells #[.int .i64 ((rd_T58 l0_1 x16_1).f0), .int .i64 ((rd_T58 l0_1 x16_1).f1)] 58 (0, 0)) (byK BK260.out) hg (Kd.R_ne HL266_0.out BK260.out (by decide))); have n2_ := Aside0.mk (hb); have n3_ := Aside0.mk (Kd.H_grown (Kd.H_widen (by repeat (first | exact HH41.out | refine Kd.H_alloc ?_ _ | refine Kd.H_drewN ?_ _ | refine Kd.H_drew ?_))) hg (fun k_ e_ => .inl (UU41.out.1 k_ e_))); have n4_ := Aside0.mk (ho); clear BK254 BK260 HB HH41 HO_12 UU41 HL266_0; have BK254 := n0_; have BK260 := n1_; have HB := n2_; have HH41 := n3_; have HO269 := n4_; clear n0_ n1_ n2_ n3_ n4_ ho hb hg hat
                have p27 : 0 ≤ (((rd_T58 l0_1 x16_1).f1) : Int) := odt
                have q27 : (((rd_T58 l0_1 x16_1).f1) : Int) < ((x12_1.length : Int) : Int) := odt
                replace p27 := eq_true p27; replace q27 := eq_true q27
                obtain ⟨Ao45, co45, eo45⟩ := Kd.R_slice HO269.out
                (first | subst eo45 | (injection eo45 with f1_ f2_ f3_; have f4_ := f1_.symm; have f5_ := f3_.symm; clear f1_ f2_ f3_; subst f4_; subst f5_))
                obtain ⟨_, _, hraw43, _, _, hcc43, _⟩ := Kd.H_raw HH41.out (odt) (by have h_ : (((rd_T58 l0_1 x16_1).f1) : Int) < ((x12_1.length : Int) : Int) := odt; first | exact h_ | (have e_ := (HN41.out); omega) | simpa using h_)
                obtain ⟨_, hfr43⟩ := Kd.H_at HH41.out (odt) (by have h_ : (((rd_T58 l0_1 x16_1).f1) : Int) < ((x12_1.length : Int) : Int) := odt; first | exact h_ | (have e_ := (HN41.out); omega) | simpa using h_)
                have hx43_0 := hcc43 0 _ rfl; have hf43_0 := hfr43 0
                (try simp only [Nat.add_zero] at hx43_0 hf43_0)
                (try rw [show ((Kd.slice 3 (Kd.int .i64))).sz = 1 from rfl, Nat.mul_one] at hx43_0)
                (try rw [show ((Kd.slice 3 (Kd.int .i64))).sz = 1 from rfl, Nat.mul_one] at hf43_0)
                have HP43 := Kd.S_seg0 HH41.out (odt) (by have h_ : (((rd_T58 l0_1 x16_1).f1) : Int) < ((x12_1.length : Int) : Int) := odt; first | exact h_ | (have e_ := (HN41.out); omega) | simpa using h_) (seg := [.slice Ao45 y267.length co45]) (j := 0) (show 1 ≤ 1 from by decide) (x' := y267) (Kd.M_row HO269.out) (fun _ hk => hk)
                (try simp only [show ((Kd.slice 3 (Kd.int .i64))).sz = 1 from rfl, Nat.mul_one, Nat.add_zero] at HP43)
                clear hcc43 hfr43; have HNB254_go34 := Aside0.mk (show gb254 ≠ go34 from by have h_ := Kd.R_ne hraw43 BK254.out (by decide); intro e_; exact h_ (by rw [e_]; rfl)); have HNB260_go34 := Aside0.mk (show gb260 ≠ go34 from by have h_ := Kd.R_ne hraw43 BK260.out (by decide); intro e_; exact h_ (by rw [e_]; rfl)); have HS43 := HP43.1
                rw [← Ny270.out] at HS43
                have HQ43 := Aside0.mk HS43
                obtain ⟨_, hgg43⟩ := Kd.R_typed hraw43 go34 rfl
                have GG43_ := Aside0.mk hgg43; clear HP43 HS43 hgg43
                refine hK.out _ _ ⟨(blk_cell BK260.out 0).trans rfl, (blk_cell BK260.out 1).trans rfl, HS2_⟩ (fun hHeld => ?_)
                clear hK K
                refine norm_ (a' := ?_) ?_ ?_
                rotate_left
                ·show Act.put _ (some 49) _ = _
                 simp only [putW]; rfl
                refine q_ 12 50 HT_ ?_
                refine last_ (i := 13) (N := none) (bits 14 16383) rfl rfl (one_of HT_.out (by kernel_rfl)) (by decide) (fun K hK => ?_)
                refine skip_ (w1 := ?_) (by rfl) rfl ?_ ?_
                rotate_left; (·go_simp; rfl)
                refine hK.out _ _ ?_
                clear hK K
                refine done_ (done_of HT_.out (by kernel_rfl)) ?_
                try go_wp2
                go_roundg k1
                case measure => have := HK1.out; omega
                case rel => exact ⟨(y270), (wrap64 (x16_1 + 1)), byF, H', ⟨by have := HK1.out; omega⟩, ⟨by (with_reducible repeat (first | apply Kd.S_alloc | apply Kd.S_drewN | apply Kd.S_drew)); exact HQ43.out⟩, ⟨by (with_reducible repeat (first | refine blk_drewN ?_ _ | refine blk_drew ?_ | refine blk_alloc ?_ _)); refine blk_far ?_ HNB254_go34.out _; (with_reducible repeat (first | refine blk_drewN ?_ _ | refine blk_drew ?_ | refine blk_alloc ?_ _)); exact BK254.out⟩, ⟨byB3 HB.out GB34.out GE254.out GE260.out⟩⟩
               ·rw [if_neg c26] at H
                exact absurd H (by simp)
              ·rw [if_neg c25] at H
               exact absurd H (by simp)
             ·rw [if_neg c24] at H
              exact absurd H (by simp)
            ·rw [if_neg c22] at H
             exact absurd H (by simp)
           ·rw [if_neg c21] at H
            exact absurd H (by simp)
          ·rw [if_neg c20] at H
           exact absurd H (by simp)
        ·rw [if_neg c15] at H
         exact absurd H (by simp)
       ·rw [if_neg c14] at H
        exact absurd H (by simp)
      ·rw [if_neg c13] at H
       have c13b0 : decide (x16_1 < (l0_1.length : Int)) = false := decide_eq_false c13
       clear c13
       have H' := Aside0.mk H
       clear H
       have hcz46_0 : wr.cell? ⟨gb254, 0, none⟩ = some (.int .i64 a0_0) := (blk_cell BK254.out 0).trans rfl
       have hcz46_1 : wr.cell? ⟨gb254, 1, none⟩ = some (.slice A0_1 l0_1.length c0_1) := (blk_cell BK254.out 1).trans rfl
       have hfz46_0 := blk_frozen BK254.out 0; have hfz46_1 := blk_frozen BK254.out 1
       go_wp2
       go_loopg [54] k1 (fun kq v54 w' => ∃ (x12_2 : List (List Int)) (x54_2 : Int), v54 = .int .i64 x54_2 ∧ Aside0 (graph_Neighbours.l1 kq x12_2 a0_0 x54_2 = some r) ∧ Aside0 (kq ≤ k1) ∧ Aside0 (Kd.S (Kd.slice 3 (Kd.int .i64)) 25 w' w.heap.size (fun _ => True) v257 x12_2) ∧ Aside0 (w'.heap[gb254]? = some (.cells #[.int .i64 a0_0, (.slice A0_1 l0_1.length c0_1)] 24 (0, 0))) ∧ Aside0 (Below w.heap.size w w'))
       case atStart => exact ⟨(x12_1), (0), byF, H', ⟨Nat.le_refl _⟩, ⟨by (with_reducible repeat (first | apply Kd.S_alloc | apply Kd.S_drewN | apply Kd.S_drew)); exact HO_12.out⟩, ⟨by (with_reducible repeat (first | refine blk_drewN ?_ _ | refine blk_drew ?_ | refine blk_alloc ?_ _)); exact BK254.out⟩, ⟨byB1 HB.out GE254.out⟩⟩
       case round =>
        clear H'
        try clear c1
        try clear c2
        try clear p2
        try clear q2
        try clear hx2
        try clear c3
        try clear hx3
        try clear hf3
        try clear c4
        try clear hx4
        try clear hf4
        try clear p6
        try clear c13
        try clear c13b0
        try clear c14
        try clear c14b0
        try clear c15
        try clear c15b0
        try clear c16
        try clear c16b0
        try clear c16b1
        try clear c18
        try clear c20
        try clear c20b0
        try clear c21
        try clear c21b0
        try clear c22
        try clear p23
        try clear q23
        try clear c24
        try clear c24b0
        try clear c25
        try clear c25b0
        try clear p25
        try clear q25
        try clear hx25
        try clear c26
        try clear p26
        try clear q26
        try clear hx26
        try clear p27
        try clear q27
        try clear c29
        try clear c34
        try clear c36
        try clear hx36
        try clear hf36
        try clear c41
        try clear c43
        try clear hx43
        try clear hf43
        try clear hcz19_0
        try clear hcz19_1
        try clear hcz30_0
        try clear hcz30_1
        try clear hcz46_0
        try clear hcz46_1
        try clear hfz19_0
        try clear hfz19_1
        try clear hfz30_0
        try clear hfz30_1
        try clear hfz46_0
        try clear hfz46_1
        try clear hx259_0
        try clear hx259_1
        try clear hx261_0
        try clear hx266_0
        try clear hx36_0
        try clear hx43_0
        try clear p23
        try clear p259
        try clear p261
        try clear p266
        try clear p27
        try clear q23
        try clear q259
        try clear q261
        try clear q266
        try clear q27
        obtain ⟨x12_2, x54_2, rfl, HA, HK2, HO_12, BK254, HB⟩ := hrel
        cases gk with
        | zero => exact absurd HA.out (by simp [graph_Neighbours.l1])
        | succ k2 =>
         have H := HA.out; clear HA
         simp only [graph_Neighbours.l1] at H
         by_cases c47 : x54_2 < a0_0
         ·rw [if_pos c47] at H
          have c47b0 : decide (x54_2 < a0_0) = true := decide_eq_true c47
          clear c47
          by_cases c48 : 0 ≤ x54_2
          ·rw [if_pos c48] at H
           have c48b0 : decide (0 ≤ x54_2) = true := decide_eq_true c48
           clear c48
           by_cases c49 : x54_2 < (x12_2.length : Int)
           ·rw [if_pos c49] at H
            have c49b0 : decide (x54_2 < (x12_2.length : Int)) = true := decide_eq_true c49
            clear c49
            replace H := Option.bind_eq_some_iff.mp H
            obtain ⟨t272, A500, H⟩ := H
            replace H : (graph_Neighbours.l1 k2 (x12_2.set (x54_2 : Int).toNat t272) a0_0 (wrap64 (x54_2 + 1))) = some r := H
            have A50 := Aside0.mk A500; clear A500
            obtain ⟨y275, hy275⟩ : ∃ y_ : List (List Int), y_ = (x12_2.set (x54_2 : Int).toNat t272) := ⟨_, rfl⟩
            replace H : (graph_Neighbours.l1 k2 y275 a0_0 (wrap64 (x54_2 + 1))) = some r := by first | (rw [hy275]; with_reducible exact H) | (have H2_ := (Option.bind_some _ _).symm.trans H; rw [hy275]; with_reducible exact H2_) | (have H2_ := (Option.bind_some _ _).symm.trans H; with_reducible exact H2_) | with_reducible exact H | (rw [hy275]; exact H) | exact H
            have Ny275 := Aside0.mk hy275; clear hy275
            have H' := Aside0.mk H
            clear H
            obtain ⟨Ao52, co52, eo52⟩ := Kd.S_slice HO_12.out
            subst eo52
            have p271 : 0 ≤ (x54_2 : Int) := odt
            have q271 : x54_2 < (x12_2.length : Int) := odt
            obtain ⟨ad271, A271_0, c271_0, e271, hx271_0, hl271_0, hi271_0⟩ := at_L3 (Kd.S_reads' HO_12.out).2.2 x54_2 p271 q271
            cases e271
            obtain ⟨ce271, hce271, hMe271, hcc271⟩ := Kd.S_get HO_12.out [] x54_2 p271 (by first | exact q271 | exact odt | (have e_ := (Kd.S_reads' HO_12.out).1; omega))
            obtain ⟨ve271_0, rfl, ge271_0⟩ := hMe271
            have hv271_0 := hcc271 0 _ rfl
            rw [Nat.add_zero, show ((Kd.slice 3 (Kd.int .i64))).sz = 1 from rfl, Nat.mul_one] at hv271_0
            replace hv271_0 := Option.some.inj (hv271_0.symm.trans hx271_0)
            rw [hv271_0] at ge271_0
            have HL271_0 := Aside0.mk (show Kd.R (Kd.int .i64) 3 _ _ _ _ (rd_L3 x12_2 x54_2) from ge271_0); clear hv271_0 ge271_0; have HX271_0 := Aside0.mk hx271_0; clear hcc271 hce271; have HR271_0 := Aside0.mk hi271_0; have HC271_0 := Aside0.mk hl271_0; clear hi271_0 hl271_0; replace p271 := eq_true p271; replace q271 := eq_true q271
            go_wp2_with (first | ((with_reducible refine gate_callee (f := 85) rfl ?_); refine goesL_ (some 63) rfl rfl Try.func85 (by kernel_rfl) rfl #[.slice A271_0 (rd_L3 x12_2 x54_2).length c271_0] rfl byL ?_; (with_reducible refine (sets_Of.calls _ _ (rd_L3 x12_2 x54_2) t272 _ ?side1 ?side2 A50.out).mono ?_); (case side1 => exact byC (by repeat (first | (with_reducible exact HR271_0.out) | (with_reducible refine Kd.C_alloc ?_ _) | (with_reducible refine Kd.C_drewN ?_ _) | (with_reducible refine Kd.C_drew ?_) | exact HR271_0.out))); (case side2 => exact HC271_0.out); rintro e w53 ⟨v273, rfl, ho0, hb⟩; refine ⟨_, rfl, ?_⟩; have n0_ := Aside0.mk (Kd.S_elder' (byS HO_12.out) (Kd.R_base ho0) hb); have n1_ := Aside0.mk (Kd.R_elder' (byR HL271_0.out) (Kd.R_base ho0) hb); have n2_ := Aside0.mk (Kd.R_lower (Kd.R_new' ho0 (Kd.R_lt (byR HL271_0.out))) (below_size (byB1 HB.out GE254.out))); have n3_ := Aside0.mk (blk_below (g := gb254) (o := .cells #[.int .i64 a0_0, .slice A0_1 l0_1.length c0_1] 24 (0, 0)) (byK BK254.out) hb); have n4_ := Aside0.mk (Kd.C_below (by repeat (first | (with_reducible exact HR271_0.out) | (with_reducible refine Kd.C_alloc ?_ _) | (with_reducible refine Kd.C_drewN ?_ _) | (with_reducible refine Kd.C_drew ?_) | exact HR271_0.out)) hb); have n5_ := Aside0.mk (pw_cell_below hb HX271_0.out); have n6_ := Aside0.mk (below_step (byB1 HB.out GE254.out) hb); clear HO_12 HL271_0 BK254 HR271_0 HX271_0 HB; have HO_12 := n0_; have HL271_0 := n1_; have HO274 := n2_; have BK254 := n3_; have HR271_0 := n4_; have HX271_0 := n5_; have HB := n6_; clear n0_ n1_ n2_ n3_ n4_ n5_ n6_; (try clear hb); (try clear hb2); (try clear hk); (try clear hi); (try clear ho0); have p51 : 0 ≤ (x54_2 : Int) := odt; have q51 : (x54_2 : Int) < ((x12_2.length : Int) : Int) := odt; obtain ⟨go51, co51, eo51, gb51, gl51, cl51, HG51⟩ := Kd.S_form HO_12.out (by omega); (first | cases eo51 | (injection eo51 with ea_ en_ ec_; (first | subst ea_ | (injection ea_ with ea_; subst ea_)); subst ec_; clear en_)); have GB51 := Aside0.mk gb51; have GG51 := Aside0.mk HG51; clear gb51 gl51 HG51; (first | simp only [add_plain] at hx271_0 | skip); obtain ⟨_, ce51, hcl51, hM51, hcc51, hfr51, _, _⟩ := Kd.S_elem HO_12.out [] (x54_2 : Int) p51 q51; obtain ⟨ve51_0, rfl, ge51_0⟩ := hM51; have hx51_0 := hcc51 0 _ rfl; have hf51_0 := hfr51 0; (try simp only [show ((Kd.slice 3 (Kd.int .i64))).sz = 1 from rfl, Nat.mul_one, Nat.add_zero] at hx51_0); (try simp only [show ((Kd.slice 3 (Kd.int .i64))).sz = 1 from rfl, Nat.mul_one, Nat.add_zero] at hf51_0); ((try clear hM51); clear hcl51 hcc51 hfr51); replace p51 := eq_true p51; replace q51 := eq_true q51; obtain ⟨Ao54, co54, eo54⟩ := Kd.R_slice HO274.out; subst eo54; have n_ := Aside0.mk (Kd.S_mono (ok' := (fun k_ => some k_ ≠ (.slice Ao54 t272.length co54 : Value).ownBlock)) HO_12.out (fun k_ hk => hk.2)); clear HO_12; have HO_12 := n_; clear n_; have HX55 := Aside0.mk (show Kd.S (Kd.slice 3 (Kd.int .i64)) 25 w53 w.heap.size (fun k_ => ((fun _ => True)) k_ ∧ ¬ ((fun k_ => some k_ = (.slice Ao54 t272.length co54 : Value).ownBlock)) k_) (.slice (some ⟨go51, 0, none⟩) x12_2.length co52) x12_2 from (by (with_reducible repeat (first | apply Kd.S_alloc | apply Kd.S_drewN | apply Kd.S_drew)); exact Kd.S_mono HO_12.out (fun k_ hk => ⟨trivial, fun e_ => hk e_⟩))); obtain ⟨oki55, ce55, hcl55, hM55, hcc55, hfr55, hoki55, hH55⟩ := Kd.S_elem HX55.out [] (x54_2 : Int) (odt) (by have h_ : (x54_2 : Int) < ((x12_2.length : Int) : Int) := odt; first | exact h_ | (have e_ := (Kd.S_reads' HO_12.out).1; omega) | simpa using h_); obtain ⟨ve55_0, rfl, ge55_0⟩ := hM55; have HP55 := Kd.S_seg hH55 (odt) (by have h_ : (x54_2 : Int) < ((x12_2.length : Int) : Int) := odt; first | exact h_ | (have e_ := (Kd.S_reads' HO_12.out).1; omega) | simpa using h_) (seg := [.slice Ao54 t272.length co54]) (j := 0) (show 1 ≤ 1 from by decide) (x' := t272) (Kd.M_row (Kd.R_mono (Kd.R_tight rfl (Kd.R_mono (ok' := fun k_ => ((fun _ => True)) k_ ∧ k_ ≠ go51) (Kd.R_apart' (HO274.out) (Kd.S_typed HO_12.out) (by decide)) (fun k_ hk => ⟨trivial, fun e_ => (hk.2) (by rw [e_]; rfl)⟩))) (fun _ h_ => Or.inr (h_)))) (fun _ hk => hk) (fun k_ hk_ => ((Kd.R_mono (ok' := fun k_ => ((fun _ => True)) k_ ∧ k_ ≠ go51) (Kd.R_apart' (HO274.out) (Kd.S_typed HO_12.out) (by decide)) (fun k_ hk => ⟨trivial, fun e_ => (hk.2) (by rw [e_]; rfl)⟩))).1 k_ hk_.symm); have hx55_0 := hcc55 0 _ rfl; (try simp only [show ((Kd.slice 3 (Kd.int .i64))).sz = 1 from rfl, Nat.mul_one, Nat.add_zero] at hx55_0); have hf55_0 := hfr55 0; (try simp only [show ((Kd.slice 3 (Kd.int .i64))).sz = 1 from rfl, Nat.mul_one, Nat.add_zero] at hf55_0); ((try clear hM55); clear hcl55 hcc55 hfr55 hoki55 hH55); (try simp only [show ((Kd.slice 3 (Kd.int .i64))).sz = 1 from rfl, Nat.mul_one, Nat.add_zero] at HP55)) | ((with_reducible refine gate_store (t := 25) (p := 64) rfl ?_); refine store_event (t := 25) (p := 64) (v := ?vo_w56) (w1 := (w53.setCell ⟨go51, (x54_2 : Int).toNat, none⟩ (.slice Ao54 t272.length co54))) ?hg ?ho ?hn ?hr ?_; (case ho => rfl); (case hg => rfl); (case hn => rfl); (case hr => first | (go_simp; done) | (go_simp; rfl)); intro w56 hw; have hg : w53.grownBy w56 (some go51) := (by rw [hw]; exact HP55.2); have hp_ : Kd.S (Kd.slice 3 (Kd.int .i64)) 25 w56 w.heap.size (fun _ => True) (.slice (some ⟨go51, 0, none⟩) x12_2.length co52) y275 := (by rw [hw, Ny275.out]; exact HP55.1); clear HP55; have n0_ := Aside0.mk (hp_); have n1_ := Aside0.mk (blk_grown (g := gb254) (o := .cells #[.int .i64 a0_0, .slice A0_1 l0_1.length c0_1] 24 (0, 0)) (byK BK254.out) hg (Kd.S_ne HO_12.out BK254.out (by decide))); have n2_ := Aside0.mk (Kd.R_after (v := (.slice (some ⟨go51, 0, none⟩) x12_2.length co52)) (v1 := (.slice (some ⟨go51, 0, none⟩) x12_2.length co52)) (ok := (fun k_ => some k_ ≠ (.slice Ao54 t272.length co54 : Value).ownBlock)) (by (with_reducible repeat (first | apply Kd.R_alloc | apply Kd.R_drewN | apply Kd.R_drew)); exact Kd.R_mono HL271_0.out (fun _ hk => ⟨hk.2, hk.1.2⟩)) hg (.inl rfl)); have n3_ := Aside0.mk ((by rw [hw]; exact below_set (HB.out) GB51.out : Below w.heap.size w w56)); clear HO_12 BK254 HL271_0 HB HO274; have HO_12 := n0_; have BK254 := n1_; have HL271_0 := n2_; have HB := n3_; clear n0_ n1_ n2_ n3_ hg hw hp_))
            go_roundg k2
            case measure => have := HK1.out; have := HK2.out; omega
            case rel => exact ⟨(y275), (wrap64 (x54_2 + 1)), byF, H', ⟨by have := HK1.out; have := HK2.out; omega⟩, ⟨by (with_reducible repeat (first | apply Kd.S_alloc | apply Kd.S_drewN | apply Kd.S_drew)); exact HO_12.out⟩, ⟨by (with_reducible repeat (first | refine blk_drewN ?_ _ | refine blk_drew ?_ | refine blk_alloc ?_ _)); exact BK254.out⟩, ⟨byB1 HB.out GE254.out⟩⟩
           ·rw [if_neg c49] at H
            exact absurd H (by simp)
          ·rw [if_neg c48] at H
           exact absurd H (by simp)
         ·rw [if_neg c47] at H
          have c47b0 : decide (x54_2 < a0_0) = false := decide_eq_false c47
          clear c47
          obtain rfl := Option.some.inj H
          go_wp2
          go_ret
          exact ⟨_, byE, by (with_reducible repeat (first | apply Kd.S_alloc | apply Kd.S_drewN | apply Kd.S_drew)); exact HO_12.out, byB1 HB.out GE254.out⟩
   ·rw [if_neg c5] at H
    exact absurd H (by simp)
  ·rw [if_neg c4] at H
   exact absurd H (by simp)
 ·rw [if_neg c3] at H
  have c3b0 : (t255 == 0) = false := beq_eq_false_iff_ne.mpr c3
  have c3b1 : (t255 != 0) = true := bne_iff_ne.mpr c3
  obtain rfl := Option.some.inj H
  go_enter Try.func84, Try.ntmps84
  go_wp2_with (first | ((with_reducible refine gate_dst (N := 1) rfl ?_); refine box_event ?hg (N := 1) ?hd (cs := #[.int .i64 a0_0, .slice A0_1 l0_1.length c0_1]) (t := 24) ?hr ?_; (case hd => rfl); (case hg => rfl); (case hr => first | (go_simp; done) | (go_simp; rfl)); intro gb254 hg w57 hbox hb; have n0_ := Aside0.mk (below_step (byB HB.out) hb); have n1_ := Aside0.mk (hbox); have n2_ := Aside0.mk ((by rw [hg]; exact (below_size (byB HB.out)) : w.heap.size ≤ gb254)); have n3_ := Aside0.mk ((by rw [hg]; exact (below_size (byB HB.out)) : w.heap.size ≤ gb254)); clear HB; have HB := n0_; have BK254 := n1_; have GW254 := n2_; have GE254 := n3_; clear n0_ n1_ n2_ n3_ hb hbox hg; have hcz58_0 : w57.cell? ⟨gb254, 0, none⟩ = some (.int .i64 a0_0) := (blk_cell BK254.out 0).trans rfl; have hcz58_1 : w57.cell? ⟨gb254, 1, none⟩ = some (.slice A0_1 l0_1.length c0_1) := (blk_cell BK254.out 1).trans rfl; have hfz58_0 := blk_frozen BK254.out 0; have hfz58_1 := blk_frozen BK254.out 1) | ((with_reducible refine gate_callee (f := 54) rfl ?_); refine goesL_ (some 8) rfl rfl Try.func54 (by kernel_rfl) rfl #[.agg #[.int .i64 a0_0, .slice A0_1 l0_1.length c0_1]] rfl byL ?_; (with_reducible refine (graph_Check.calls k a0_0 _ _ l0_1 t255 _ ?side1 ?side2 A2.out).mono ?_); (case side1 => exact byC (Kd.C_below HR0_1.out HB.out)); (case side2 => exact HC0_1.out); rintro e w59 ⟨rfl, hb⟩; refine ⟨_, rfl, ?_⟩; have n0_ := Aside0.mk (blk_below (g := gb254) (o := .cells #[.int .i64 a0_0, .slice A0_1 l0_1.length c0_1] 24 (0, 0)) (byK BK254.out) hb); have n1_ := Aside0.mk (below_step (byB1 HB.out GE254.out) hb); clear BK254 HB; have BK254 := n0_; have HB := n1_; clear n0_ n1_; (try clear hb); (try clear hb2); (try clear hk); (try clear hi)))
  go_ret
  exact ⟨_, byE, by first | exact Kd.S_nil _ _ _ _ _ | exact Kd.N_nil _ _ _ _ _ | exact Kd.V_nil _ _ _ _ _ | exact Kd.Q_nil _ _ _ _ _ | exact Kd.R_nil _ _ _ _ _, byB1 HB.out GE254.out⟩
end Go.Proofs.Ytfnophaiamkmpaa.Print
