/- Written by a program of this claim's author (xprint.py, over the kit's print.py): the call of mapmaker/graph.Parts comes to what the Lean function of its name says. -/
import Derived.Test.YtnnknbghfbjcnaaPrint0
import Derived.Test.YtnnknbghfbjcnaaF17
import Derived.Test.YtnnknbghfbjcnaaHXShort
namespace Go.Proofs.Ytnnknbghfbjcnaa.Print
open Go.RowKit Go.Proofs.YtnnknbghfbjcnaaW.PrintWords Go.Proofs.YtnnknbghfbjcnaaW.PrintLast Go.Proofs.YtnnknbghfbjcnaaW.PrintMore
attribute [local go_sem] max2_int min2_int max_two min_two max_three min_three max_four min_four   -- for this text's walks alone
set_option linter.unusedVariables false
set_option linter.unusedSimpArgs false

/-! ### graph_Parts: function 20 -/
mutual
def graph_Parts.l0 : Nat → List (List Int) → List Int → Int → Int → Option (List Int)
 | 0, _, _, _, _ => none
 | k + 1, x12, x15, x17, x18 => if x18 < x17 then (if 0 ≤ x18 then (if x18 < (x15.length : Int) then (graph_Parts.l0 k x12 (x15.set (x18 : Int).toNat (-1)) x17 (wrap64 (x18 + 1))) else (none)) else (none)) else (graph_Parts.l1 k x12 x15 (x15.length : Int) 0)
def graph_Parts.l1 : Nat → List (List Int) → List Int → Int → Int → Option (List Int)
 | 0, _, _, _, _ => none
 | k + 1, x12, x15, x26, x27 => if x27 < x26 then (if 0 ≤ x27 then (if x27 < (x15.length : Int) then (if (rd x15 x27) ≥ 0 then (graph_Parts.l1 k x12 x15 x26 (wrap64 (x27 + 1))) else (graph_Parts.l2 k x27 (([x27] : List Int)) x12 (x15.set (x27 : Int).toNat x27) x26 x27)) else (none)) else (none)) else (some x15)
def graph_Parts.l2 : Nat → Int → List Int → List (List Int) → List Int → Int → Int → Option (List Int)
 | 0, _, _, _, _, _, _ => none
 | k + 1, x6, x7, x12, x15, x26, x27 => if (x7.length : Int) > 0 then (if 0 ≤ (wrap64 ((x7.length : Int) - 1)) then (if (wrap64 ((x7.length : Int) - 1)) < (x7.length : Int) then (if (wrap64 ((x7.length : Int) - 1)) ≤ (x7.length : Int) then (if 0 ≤ (rd x7 (wrap64 ((x7.length : Int) - 1))) then (if (rd x7 (wrap64 ((x7.length : Int) - 1))) < (x12.length : Int) then (graph_Parts.l3 k x6 (x7.take ((wrap64 ((x7.length : Int) - 1)) : Int).toNat) x12 x15 x26 x27 (rd_L2 x12 (rd x7 (wrap64 ((x7.length : Int) - 1)))) ((rd_L2 x12 (rd x7 (wrap64 ((x7.length : Int) - 1)))).length : Int) 0) else (none)) else (none)) else (none)) else (none)) else (none)) else (graph_Parts.l1 k x12 x15 x26 (wrap64 (x27 + 1)))
def graph_Parts.l3 : Nat → Int → List Int → List (List Int) → List Int → Int → Int → List Int → Int → Int → Option (List Int)
 | 0, _, _, _, _, _, _, _, _, _ => none
 | k + 1, x6, x7, x12, x15, x26, x27, x58, x59, x60 => if x60 < x59 then (if 0 ≤ x60 then (if x60 < (x58.length : Int) then (if 0 ≤ (rd x58 x60) then (if (rd x58 x60) < (x15.length : Int) then (if (rd x15 (rd x58 x60)) < 0 then (if x7.length < 17592186044416 then (graph_Parts.l3 k x6 (x7 ++ [rd x58 x60]) x12 (x15.set ((rd x58 x60) : Int).toNat x6) x26 x27 x58 x59 (wrap64 (x60 + 1))) else (none)) else (graph_Parts.l3 k x6 x7 x12 x15 x26 x27 x58 x59 (wrap64 (x60 + 1)))) else (none)) else (none)) else (none)) else (none)) else (graph_Parts.l2 k x6 x7 x12 x15 x26 x27)
end
def graph_Parts.f (k : Nat) (a0_0 : Int) (l0_1 : List (S40)) : Option (List Int) := (graph_Neighbours.f k a0_0 l0_1).bind fun t133 => (if 0 ≤ (t133.length : Int) then (if ((t133.length : Int) : Int).toNat ≤ 35184372088832 then ((some (List.replicate ((t133.length : Int) : Int).toNat 0 : List Int)).bind fun y136 => (graph_Parts.l0 k t133 y136 (y136.length : Int) 0)) else (none)) else (none))
theorem graph_Parts.mono_l : ∀ k, (∀ y0 y1 y2 y3, LeO (graph_Parts.l0 k y0 y1 y2 y3) (graph_Parts.l0 (k + 1) y0 y1 y2 y3)) ∧ (∀ y0 y1 y2 y3, LeO (graph_Parts.l1 k y0 y1 y2 y3) (graph_Parts.l1 (k + 1) y0 y1 y2 y3)) ∧ (∀ y0 y1 y2 y3 y4 y5, LeO (graph_Parts.l2 k y0 y1 y2 y3 y4 y5) (graph_Parts.l2 (k + 1) y0 y1 y2 y3 y4 y5)) ∧ (∀ y0 y1 y2 y3 y4 y5 y6 y7 y8, LeO (graph_Parts.l3 k y0 y1 y2 y3 y4 y5 y6 y7 y8) (graph_Parts.l3 (k + 1) y0 y1 y2 y3 y4 y5 y6 y7 y8))
 | 0 => ⟨fun _ _ _ _ r h => by simp [graph_Parts.l0] at h, fun _ _ _ _ r h => by simp [graph_Parts.l1] at h, fun _ _ _ _ _ _ r h => by simp [graph_Parts.l2] at h, fun _ _ _ _ _ _ _ _ _ r h => by simp [graph_Parts.l3] at h⟩
 | k + 1 => by
  obtain ⟨ih0, ih1, ih2, ih3⟩ := graph_Parts.mono_l k
  refine ⟨?_, ?_, ?_, ?_⟩
  ·intro y0 y1 y2 y3
   unfold graph_Parts.l0
   repeat' first
   | (with_reducible exact ih0 _ _ _ _)
   | (with_reducible exact ih1 _ _ _ _)
   | (with_reducible exact ih2 _ _ _ _ _ _)
   | (with_reducible exact ih3 _ _ _ _ _ _ _ _ _)
   | (with_reducible exact graph_Neighbours.mono _ _ _)
   | (with_reducible exact LeO.refl _)
   | (with_reducible exact LeO.none _)
   | (with_reducible refine LeO.ite ?_ ?_)
   | (with_reducible refine LeO.bind ?_ (fun _ => ?_))
   | exact ih0 _ _ _ _
   | exact ih1 _ _ _ _
   | exact ih2 _ _ _ _ _ _
   | exact ih3 _ _ _ _ _ _ _ _ _
   | exact graph_Neighbours.mono _ _ _
   | exact LeO.none _
   | refine LeO.ite ?_ ?_
   | refine LeO.bind ?_ (fun _ => ?_)
  ·intro y0 y1 y2 y3
   unfold graph_Parts.l1
   repeat' first
   | (with_reducible exact ih0 _ _ _ _)
   | (with_reducible exact ih1 _ _ _ _)
   | (with_reducible exact ih2 _ _ _ _ _ _)
   | (with_reducible exact ih3 _ _ _ _ _ _ _ _ _)
   | (with_reducible exact graph_Neighbours.mono _ _ _)
   | (with_reducible exact LeO.refl _)
   | (with_reducible exact LeO.none _)
   | (with_reducible refine LeO.ite ?_ ?_)
   | (with_reducible refine LeO.bind ?_ (fun _ => ?_))
   | exact ih0 _ _ _ _
   | exact ih1 _ _ _ _
   | exact ih2 _ _ _ _ _ _
   | exact ih3 _ _ _ _ _ _ _ _ _
   | exact graph_Neighbours.mono _ _ _
   | exact LeO.none _
   | refine LeO.ite ?_ ?_
   | refine LeO.bind ?_ (fun _ => ?_)
  ·intro y0 y1 y2 y3 y4 y5
   unfold graph_Parts.l2
   repeat' first
   | (with_reducible exact ih0 _ _ _ _)
   | (with_reducible exact ih1 _ _ _ _)
   | (with_reducible exact ih2 _ _ _ _ _ _)
   | (with_reducible exact ih3 _ _ _ _ _ _ _ _ _)
   | (with_reducible exact graph_Neighbours.mono _ _ _)
   | (with_reducible exact LeO.refl _)
   | (with_reducible exact LeO.none _)
   | (with_reducible refine LeO.ite ?_ ?_)
   | (with_reducible refine LeO.bind ?_ (fun _ => ?_))
   | exact ih0 _ _ _ _
   | exact ih1 _ _ _ _
   | exact ih2 _ _ _ _ _ _
   | exact ih3 _ _ _ _ _ _ _ _ _
   | exact graph_Neighbours.mono _ _ _
   | exact LeO.none _
   | refine LeO.ite ?_ ?_
   | refine LeO.bind ?_ (fun _ => ?_)
  ·intro y0 y1 y2 y3 y4 y5 y6 y7 y8
   unfold graph_Parts.l3
   repeat' first
   | (with_reducible exact ih0 _ _ _ _)
   | (with_reducible exact ih1 _ _ _ _)
   | (with_reducible exact ih2 _ _ _ _ _ _)
   | (with_reducible exact ih3 _ _ _ _ _ _ _ _ _)
   | (with_reducible exact graph_Neighbours.mono _ _ _)
   | (with_reducible exact LeO.refl _)
   | (with_reducible exact LeO.none _)
   | (with_reducible refine LeO.ite ?_ ?_)
   | (with_reducible refine LeO.bind ?_ (fun _ => ?_))
   | exact ih0 _ _ _ _
   | exact ih1 _ _ _ _
   | exact ih2 _ _ _ _ _ _
   | exact ih3 _ _ _ _ _ _ _ _ _
   | exact graph_Neighbours.mono _ _ _
   | exact LeO.none _
   | refine LeO.ite ?_ ?_
   | refine LeO.bind ?_ (fun _ => ?_)
theorem graph_Parts.mono : ∀ a0 a1 k, LeO (graph_Parts.f k a0 a1) (graph_Parts.f (k + 1) a0 a1) := by
 intro a0 a1 k
 obtain ⟨ih0, ih1, ih2, ih3⟩ := graph_Parts.mono_l k
 unfold graph_Parts.f
 repeat' first
   | (with_reducible exact ih0 _ _ _ _)
   | (with_reducible exact ih1 _ _ _ _)
   | (with_reducible exact ih2 _ _ _ _ _ _)
   | (with_reducible exact ih3 _ _ _ _ _ _ _ _ _)
   | (with_reducible exact graph_Neighbours.mono _ _ _)
   | (with_reducible exact LeO.refl _)
   | (with_reducible exact LeO.none _)
   | (with_reducible refine LeO.ite ?_ ?_)
   | (with_reducible refine LeO.bind ?_ (fun _ => ?_))
   | exact ih0 _ _ _ _
   | exact ih1 _ _ _ _
   | exact ih2 _ _ _ _ _ _
   | exact ih3 _ _ _ _ _ _ _ _ _
   | exact graph_Neighbours.mono _ _ _
   | exact LeO.none _
   | refine LeO.ite ?_ ?_
   | refine LeO.bind ?_ (fun _ => ?_)
set_option maxHeartbeats 8000000 in
set_option maxRecDepth 100000 in
theorem graph_Parts.calls (k : Nat) (a0_0 : Int) (A0_1 : Option Addr) (c0_1 : Nat) (l0_1 : List (S40)) (r : List Int) (w : World) (hr0_1 : Kd.C k40 w A0_1 l0_1.length l0_1) (hc0_1 : l0_1.length ≤ c0_1) (h : graph_Parts.f k a0_0 l0_1 = some r) :
  Calls Try.prog 20 #[.agg #[.int .i64 a0_0, .slice A0_1 l0_1.length c0_1]] w fun e w' => ∃ v0_ : Value, e = .returned (v0_) ∧ Kd.R (Kd.int .i64) 3 w' w.heap.size (fun _ => True) v0_ r ∧ Below w.heap.size w w' := by
 have hu24 := Try.underlying24; have HR0_1 := Aside0.mk hr0_1; have HC0_1 := Aside0.mk hc0_1; clear hr0_1 hc0_1; have HB := Aside0.mk (Below.refl w.heap.size w)
 have H : ((graph_Neighbours.f k a0_0 l0_1).bind fun t133 => (if 0 ≤ (t133.length : Int) then (if ((t133.length : Int) : Int).toNat ≤ 35184372088832 then ((some (List.replicate ((t133.length : Int) : Int).toNat 0 : List Int)).bind fun y136 => (graph_Parts.l0 k t133 y136 (y136.length : Int) 0)) else (none)) else (none))) = some r := h
 clear h
 replace H := Option.bind_eq_some_iff.mp H
 obtain ⟨t133, A20, H⟩ := H
 replace H : (if 0 ≤ (t133.length : Int) then (if ((t133.length : Int) : Int).toNat ≤ 35184372088832 then ((some (List.replicate ((t133.length : Int) : Int).toNat 0 : List Int)).bind fun y136 => (graph_Parts.l0 k t133 y136 (y136.length : Int) 0)) else (none)) else (none)) = some r := H
 have A2 := Aside0.mk A20; clear A20
 by_cases c3 : 0 ≤ (t133.length : Int)
 ·rw [if_pos c3] at H
  have c3b0 := eq_true c3
  have c3b1 : decide (0 ≤ (t133.length : Int)) = true := decide_eq_true c3
  clear c3
  by_cases c4 : ((t133.length : Int) : Int).toNat ≤ 35184372088832
  ·rw [if_pos c4] at H
   have c4b0 := eq_true c4
   have c4b1 : decide (((t133.length : Int) : Int).toNat ≤ 35184372088832) = true := decide_eq_true c4
   clear c4
   obtain ⟨y136, hy136⟩ : ∃ y_ : List Int, y_ = (List.replicate ((t133.length : Int) : Int).toNat 0) := ⟨_, rfl⟩
   replace H : (graph_Parts.l0 k t133 y136 (y136.length : Int) 0) = some r := by first | (rw [hy136]; with_reducible exact H) | (have H2_ := (Option.bind_some _ _).symm.trans H; rw [hy136]; with_reducible exact H2_) | (have H2_ := (Option.bind_some _ _).symm.trans H; with_reducible exact H2_) | with_reducible exact H | (rw [hy136]; exact H) | exact H
   have Ny136 := Aside0.mk hy136; clear hy136
   have H' := Aside0.mk H
   clear H
   go_enter Try.func20, Try.ntmps20
   go_wp2_with (first | ((with_reducible refine gate_dst (N := 1) rfl ?_); refine box_event ?hg (N := 1) ?hd (cs := #[.int .i64 a0_0, .slice A0_1 l0_1.length c0_1]) (t := 24) ?hr ?_; (case hd => rfl); (case hg => rfl); (case hr => first | (go_simp; done) | (go_simp; rfl)); intro gb132 hg w5 hbox hb; have n0_ := Aside0.mk (below_step (byB HB.out) hb); have n1_ := Aside0.mk (hbox); have n2_ := Aside0.mk ((by rw [hg]; exact (below_size (byB HB.out)) : w.heap.size ≤ gb132)); have n3_ := Aside0.mk ((by rw [hg]; exact (below_size (byB HB.out)) : w.heap.size ≤ gb132)); clear HB; have HB := n0_; have BK132 := n1_; have GW132 := n2_; have GE132 := n3_; clear n0_ n1_ n2_ n3_ hb hbox hg; have hcz6_0 : w5.cell? ⟨gb132, 0, none⟩ = some (.int .i64 a0_0) := (blk_cell BK132.out 0).trans rfl; have hcz6_1 : w5.cell? ⟨gb132, 1, none⟩ = some (.slice A0_1 l0_1.length c0_1) := (blk_cell BK132.out 1).trans rfl; have hfz6_0 := blk_frozen BK132.out 0; have hfz6_1 := blk_frozen BK132.out 1) | ((with_reducible refine gate_callee (f := 17) rfl ?_); refine goesL_ (some 12) rfl rfl Try.func17 (by kernel_rfl) rfl #[.agg #[.int .i64 a0_0, .slice A0_1 l0_1.length c0_1]] rfl byL ?_; (with_reducible refine (graph_Neighbours.calls k a0_0 _ _ l0_1 t133 _ ?side1 ?side2 A2.out).mono ?_); (case side1 => exact byC (Kd.C_below HR0_1.out HB.out)); (case side2 => exact HC0_1.out); rintro e w7 ⟨v134, rfl, ho0, hb⟩; refine ⟨_, rfl, ?_⟩; have n0_ := Aside0.mk (Kd.S_lower ho0 (below_size (byB1 HB.out GE132.out))); have n1_ := Aside0.mk (blk_below (g := gb132) (o := .cells #[.int .i64 a0_0, .slice A0_1 l0_1.length c0_1] 24 (0, 0)) (byK BK132.out) hb); have n2_ := Aside0.mk (below_step (byB1 HB.out GE132.out) hb); clear BK132 HB; have HO135 := n0_; have BK132 := n1_; have HB := n2_; clear n0_ n1_ n2_; (try clear hb); (try clear hb2); (try clear hk); (try clear hi); (try clear ho0); obtain ⟨Ao8, co8, eo8⟩ := Kd.S_slice HO135.out; subst eo8) | ((with_reducible refine gate_dst (N := 15) rfl ?_); refine Kd.R_make (Kd.int .i64) _ 3 rfl (N := 15) rfl 31 _ _ rfl (t133.length : Int) rfl rfl Try.underlying31 (.int .i64 0) 8 info3 rfl (by decide) (by omega) 0 (ok := fun _ => True) (okp := fun _ => True) rfl (fun _ hk => hk) trivial (of_decide_eq_true (by first | (with_reducible assumption) | assumption)) (Nat.le_trans (Nat.mul_le_mul_right _ (of_decide_eq_true (by first | (with_reducible assumption) | assumption) : (t133.length : Int).toNat ≤ 35184372088832)) (by omega)) (Below.refl _ _) (Nat.le_refl _) ?_; intro v137 w9 ho10 hb hg_ hnew_; clear hg_ hnew_; (first | rw [← Ny136.out] at ho10 | (simp only [Int.reduceToNat] at ho10; rw [← Ny136.out] at ho10)); have n0_ := Aside0.mk (Kd.S_elder' (byS HO135.out) (Kd.R_base ho10) hb); have n1_ := Aside0.mk (Kd.R_lower ho10 (below_size (byB1 HB.out GE132.out))); have n2_ := Aside0.mk (blk_below (g := gb132) (o := .cells #[.int .i64 a0_0, .slice A0_1 l0_1.length c0_1] 24 (0, 0)) (byK BK132.out) hb); have n3_ := Aside0.mk (below_step (byB1 HB.out GE132.out) hb); clear HO135 BK132 HB; have HO135 := n0_; have HO138 := n1_; have BK132 := n2_; have HB := n3_; clear n0_ n1_ n2_ n3_ hb ho10; obtain ⟨Ao11, co11, eo11⟩ := Kd.R_slice HO138.out; subst eo11))
   go_loopg [18] k (fun kq v18 w' => ∃ (x15_1 : List Int) (x18_1 : Int), v18 = .int .i64 x18_1 ∧ Aside0 (graph_Parts.l0 kq t133 x15_1 (y136.length : Int) x18_1 = some r) ∧ Aside0 (kq ≤ k) ∧ Aside0 (Kd.S (Kd.slice 3 (Kd.int .i64)) 31 w' w.heap.size (fun k_ => some k_ ≠ ((.slice Ao11 y136.length co11) : Value).ownBlock) (.slice Ao8 t133.length co8) t133) ∧ Aside0 (Kd.R (Kd.int .i64) 3 w' w.heap.size (fun _ => True) (.slice Ao11 y136.length co11) x15_1) ∧ Aside0 (w'.heap[gb132]? = some (.cells #[.int .i64 a0_0, (.slice A0_1 l0_1.length c0_1)] 24 (0, 0))) ∧ Aside0 (Below w.heap.size w w'))
   case atStart => exact ⟨(y136), (0), (by first | rfl | (simp; done) | (simp [*]; done)), H', ⟨Nat.le_refl _⟩, ⟨by (with_reducible repeat (first | apply Kd.S_alloc | apply Kd.S_drewN | apply Kd.S_drew)); exact Kd.S_mono HO135.out (fun _ hk => hk.2)⟩, ⟨by (with_reducible repeat (first | apply Kd.R_alloc | apply Kd.R_drewN | apply Kd.R_drew)); exact HO138.out⟩, ⟨by (with_reducible repeat (first | refine blk_drewN ?_ _ | refine blk_drew ?_ | refine blk_alloc ?_ _)); exact BK132.out⟩, ⟨by repeat (first | (with_reducible first | exact HB.out | apply below_alloc | apply pw_below_drewN | apply below_drew1 | refine below_set ?_ GE132.out) | exact HB.out)⟩⟩
   case round =>
    clear H'
    try clear c1
    try clear c2
    try clear p2
    try clear c3
    try clear c3b0
    try clear c3b1
    try clear c4
    try clear c4b0
    try clear c4b1
    try clear hcz6_0
    try clear hcz6_1
    try clear hfz6_0
    try clear hfz6_1
    obtain ⟨x15_1, x18_1, rfl, HA, HK1, HO_12, HO_15, BK132, HB⟩ := hrel
    have hl15_1 := (Kd.R_reads' HO_15.out).1
    rw [hl15_1] at HO_15
    (try simp only [hl15_1])
    (try simp only [hl15_1] at BK132)
    (try simp only [hl15_1] at HO_12)
    cases gk with
    | zero => exact absurd HA.out (by simp [graph_Parts.l0])
    | succ k1 =>
     have H := HA.out; clear HA
     simp only [graph_Parts.l0] at H
     by_cases c12 : x18_1 < (y136.length : Int)
     ·rw [if_pos c12] at H
      have c12b0 : decide (x18_1 < (y136.length : Int)) = true := decide_eq_true c12
      (try simp only [hl15_1] at c12b0)
      clear c12
      by_cases c13 : 0 ≤ x18_1
      ·rw [if_pos c13] at H
       have c13b0 : decide (0 ≤ x18_1) = true := decide_eq_true c13
       (try simp only [hl15_1] at c13b0)
       clear c13
       by_cases c14 : x18_1 < (x15_1.length : Int)
       ·rw [if_pos c14] at H
        have c14b0 : decide (x18_1 < (x15_1.length : Int)) = true := decide_eq_true c14
        (try simp only [hl15_1] at c14b0)
        clear c14
        obtain ⟨y139, hy139⟩ : ∃ y_ : List Int, y_ = (x15_1.set (x18_1 : Int).toNat (-1)) := ⟨_, rfl⟩
        replace H : (graph_Parts.l0 k1 t133 y139 (y136.length : Int) (wrap64 (x18_1 + 1))) = some r := by first | (rw [hy139]; with_reducible exact H) | (have H2_ := (Option.bind_some _ _).symm.trans H; rw [hy139]; with_reducible exact H2_) | (have H2_ := (Option.bind_some _ _).symm.trans H; with_reducible exact H2_) | with_reducible exact H | (rw [hy139]; exact H) | exact H
        have Ny139 := Aside0.mk hy139; clear hy139
        have H' := Aside0.mk H
        clear H
        have p15 : 0 ≤ (x18_1 : Int) := of_decide_eq_true (by first | (with_reducible assumption) | assumption)
        have q15 : (x18_1 : Int) < ((x15_1.length : Int) : Int) := of_decide_eq_true (by first | (with_reducible assumption) | assumption)
        obtain ⟨go15, co15, eo15, gb15, gl15, cl15, HG15⟩ := Kd.R_form HO_15.out (by omega)
        (first | cases eo15 | (injection eo15 with ea_ en_ ec_; (first | subst ea_ | (injection ea_ with ea_; subst ea_)); subst ec_; clear en_))
        have GB15 := Aside0.mk gb15; have GG15 := Aside0.mk HG15; clear gb15 gl15 HG15
        obtain ⟨hx15_0, hf15_0⟩ := Kd.R_celln 0 HO_15.out (x18_1 : Int) p15 q15
        replace p15 := eq_true p15; replace q15 := eq_true q15
        have HP16 := Kd.R_putg HO_15.out (x18_1 : Int) (-1)
        go_wp2_with (first | ((with_reducible refine gate_store (t := 3) (p := 23) rfl ?_); refine store_event (t := 3) (p := 23) (v := ?vo_w17) (w1 := (wr.setCell ⟨go15, (x18_1 : Int).toNat, none⟩ (.int .i64 (-1)))) ?hg ?ho ?hn ?hr ?_; (case ho => rfl); (case hg => rfl); (case hn => rfl); (case hr => first | (go_simp; done) | (go_simp; rfl)); intro w17 hw; have hg : wr.grownBy w17 (some go15) := (by rw [hw]; exact HP16.2); have hp_ : Kd.R (Kd.int .i64) 3 w17 w.heap.size (fun _ => True) (.slice (some ⟨go15, 0, none⟩) x15_1.length co11) y139 := (by rw [hw, Ny139.out]; exact HP16.1); clear HP16; have n0_ := Aside0.mk (Kd.S_after (v := (.slice (some ⟨go15, 0, none⟩) x15_1.length co11)) (v1 := (.slice (some ⟨go15, 0, none⟩) x15_1.length co11)) (ok := (fun _ => True)) (by (with_reducible repeat (first | apply Kd.S_alloc | apply Kd.S_drewN | apply Kd.S_drew)); exact Kd.S_mono HO_12.out (fun _ hk => ⟨trivial, hk⟩)) hg (.inl rfl)); have n1_ := Aside0.mk (hp_); have n2_ := Aside0.mk (blk_grown (g := gb132) (o := .cells #[.int .i64 a0_0, .slice A0_1 l0_1.length c0_1] 24 (0, 0)) (byK BK132.out) hg (Kd.R_ne HO_15.out BK132.out (by decide))); have n3_ := Aside0.mk ((by rw [hw]; exact below_set (HB.out) GB15.out : Below w.heap.size w w17)); clear HO_12 HO_15 BK132 HB; have HO_12 := n0_; have HO_15 := n1_; have BK132 := n2_; have HB := n3_; clear n0_ n1_ n2_ n3_ hg hw hp_))
        (try simp only [← hl15_1])
        go_roundg k1
        case measure => have := HK1.out; omega
        case rel => exact ⟨(y139), (wrap64 (x18_1 + 1)), (by first | rfl | (simp; done) | (simp [*]; done)), H', ⟨by have := HK1.out; omega⟩, ⟨by (try simp only [hl15_1]); (with_reducible repeat (first | apply Kd.S_alloc | apply Kd.S_drewN | apply Kd.S_drew)); exact Kd.S_mono HO_12.out (fun _ hk => hk.2)⟩, ⟨by (try simp only [hl15_1]); (with_reducible repeat (first | apply Kd.R_alloc | apply Kd.R_drewN | apply Kd.R_drew)); exact HO_15.out⟩, ⟨by (try simp only [hl15_1]); (with_reducible repeat (first | refine blk_drewN ?_ _ | refine blk_drew ?_ | refine blk_alloc ?_ _)); exact BK132.out⟩, ⟨by repeat (first | (with_reducible first | exact HB.out | apply below_alloc | apply pw_below_drewN | apply below_drew1 | refine below_set ?_ GE132.out) | exact HB.out)⟩⟩
       ·rw [if_neg c14] at H
        exact absurd H (by simp)
      ·rw [if_neg c13] at H
       exact absurd H (by simp)
     ·rw [if_neg c12] at H
      have c12b0 : decide (x18_1 < (y136.length : Int)) = false := decide_eq_false c12
      (try simp only [hl15_1] at c12b0)
      clear c12
      have H' := Aside0.mk H
      clear H
      go_wp2
      go_loopg [27] k1 (fun kq v27 w' => ∃ (x15_2 : List Int) (x27_2 : Int), v27 = .int .i64 x27_2 ∧ Aside0 (graph_Parts.l1 kq t133 x15_2 (x15_1.length : Int) x27_2 = some r) ∧ Aside0 (kq ≤ k1) ∧ Aside0 (Kd.S (Kd.slice 3 (Kd.int .i64)) 31 w' w.heap.size (fun k_ => some k_ ≠ ((.slice Ao11 x15_1.length co11) : Value).ownBlock) (.slice Ao8 t133.length co8) t133) ∧ Aside0 (Kd.R (Kd.int .i64) 3 w' w.heap.size (fun _ => True) (.slice Ao11 x15_1.length co11) x15_2) ∧ Aside0 (w'.heap[gb132]? = some (.cells #[.int .i64 a0_0, (.slice A0_1 l0_1.length c0_1)] 24 (0, 0))) ∧ Aside0 (Below w.heap.size w w'))
      case atStart => exact ⟨(x15_1), (0), (by first | rfl | (simp; done) | (simp [*]; done)), H', ⟨Nat.le_refl _⟩, ⟨by (try simp only [hl15_1]); (with_reducible repeat (first | apply Kd.S_alloc | apply Kd.S_drewN | apply Kd.S_drew)); exact HO_12.out⟩, ⟨by (try simp only [hl15_1]); (with_reducible repeat (first | apply Kd.R_alloc | apply Kd.R_drewN | apply Kd.R_drew)); exact HO_15.out⟩, ⟨by (try simp only [hl15_1]); (with_reducible repeat (first | refine blk_drewN ?_ _ | refine blk_drew ?_ | refine blk_alloc ?_ _)); exact BK132.out⟩, ⟨by repeat (first | (with_reducible first | exact HB.out | apply below_alloc | apply pw_below_drewN | apply below_drew1 | refine below_set ?_ GE132.out) | exact HB.out)⟩⟩
      case round =>
       clear H'
       try clear c1
       try clear p1
       try clear q1
       try clear hx1
       try clear hf1
       try clear c2
       try clear p2
       try clear c3
       try clear c3b0
       try clear c3b1
       try clear c4
       try clear c4b0
       try clear c4b1
       try clear p6
       try clear c12
       try clear c12b0
       try clear c13
       try clear c13b0
       try clear c14
       try clear c14b0
       try clear p15
       try clear q15
       try clear hx15
       try clear hf15
       try clear c17
       try clear hcz6_0
       try clear hcz6_1
       try clear hfz6_0
       try clear hfz6_1
       try clear hx15_0
       try clear p15
       try clear p2
       try clear q15
       obtain ⟨x15_2, x27_2, rfl, HA, HK2, HO_12, HO_15, BK132, HB⟩ := hrel
       have hl15_2 := (Kd.R_reads' HO_15.out).1
       rw [hl15_2] at HO_15
       (try simp only [hl15_2])
       (try simp only [hl15_2] at BK132)
       (try simp only [hl15_2] at HO_12)
       cases gk with
       | zero => exact absurd HA.out (by simp [graph_Parts.l1])
       | succ k2 =>
        have H := HA.out; clear HA
        simp only [graph_Parts.l1] at H
        by_cases c18 : x27_2 < (x15_1.length : Int)
        ·rw [if_pos c18] at H
         have c18b0 : decide (x27_2 < (x15_1.length : Int)) = true := decide_eq_true c18
         (try simp only [hl15_1] at c18b0)
         (try simp only [hl15_2] at c18b0)
         clear c18
         by_cases c19 : 0 ≤ x27_2
         ·rw [if_pos c19] at H
          have c19b0 : decide (0 ≤ x27_2) = true := decide_eq_true c19
          (try simp only [hl15_1] at c19b0)
          (try simp only [hl15_2] at c19b0)
          clear c19
          by_cases c20 : x27_2 < (x15_2.length : Int)
          ·rw [if_pos c20] at H
           have c20b0 : decide (x27_2 < (x15_2.length : Int)) = true := decide_eq_true c20
           (try simp only [hl15_1] at c20b0)
           (try simp only [hl15_2] at c20b0)
           clear c20
           by_cases c21 : (rd x15_2 x27_2) ≥ 0
           ·rw [if_pos c21] at H
            have c21b0 : decide (0 ≤ (rd x15_2 x27_2)) = true := decide_eq_true c21
            (try simp only [hl15_1] at c21b0)
            (try simp only [hl15_2] at c21b0)
            clear c21
            have H' := Aside0.mk H
            clear H
            have p140 : 0 ≤ (x27_2 : Int) := of_decide_eq_true (by first | (with_reducible assumption) | assumption)
            have q140 : x27_2 < (x15_2.length : Int) := of_decide_eq_true (by first | (with_reducible assumption) | assumption)
            obtain ⟨ad140, e140, hx140_0⟩ := Kd.at_int (Kd.R_reads' HO_15.out).2.2 x27_2 p140 q140
            cases e140
            replace p140 := eq_true p140; replace q140 := eq_true q140
            go_wp2
            (try simp only [← hl15_2])
            go_roundg k2
            case measure => have := HK1.out; have := HK2.out; omega
            case rel => exact ⟨(x15_2), (wrap64 (x27_2 + 1)), (by first | rfl | (simp; done) | (simp [*]; done)), H', ⟨by have := HK1.out; have := HK2.out; omega⟩, ⟨by (try simp only [hl15_1]); (try simp only [hl15_2]); (with_reducible repeat (first | apply Kd.S_alloc | apply Kd.S_drewN | apply Kd.S_drew)); exact HO_12.out⟩, ⟨by (try simp only [hl15_1]); (try simp only [hl15_2]); (with_reducible repeat (first | apply Kd.R_alloc | apply Kd.R_drewN | apply Kd.R_drew)); exact HO_15.out⟩, ⟨by (try simp only [hl15_1]); (try simp only [hl15_2]); (with_reducible repeat (first | refine blk_drewN ?_ _ | refine blk_drew ?_ | refine blk_alloc ?_ _)); exact BK132.out⟩, ⟨by repeat (first | (with_reducible first | exact HB.out | apply below_alloc | apply pw_below_drewN | apply below_drew1 | refine below_set ?_ GE132.out) | exact HB.out)⟩⟩
           ·rw [if_neg c21] at H
            have c21b0 : decide (0 ≤ (rd x15_2 x27_2)) = false := decide_eq_false c21
            (try simp only [hl15_1] at c21b0)
            (try simp only [hl15_2] at c21b0)
            clear c21
            obtain ⟨y141, hy141⟩ : ∃ y_ : List Int, y_ = (x15_2.set (x27_2 : Int).toNat x27_2) := ⟨_, rfl⟩
            replace H : (graph_Parts.l2 k2 x27_2 (([x27_2] : List Int)) t133 y141 (x15_1.length : Int) x27_2) = some r := by first | (rw [hy141]; with_reducible exact H) | (have H2_ := (Option.bind_some _ _).symm.trans H; rw [hy141]; with_reducible exact H2_) | (have H2_ := (Option.bind_some _ _).symm.trans H; with_reducible exact H2_) | with_reducible exact H | (rw [hy141]; exact H) | exact H
            have Ny141 := Aside0.mk hy141; clear hy141
            obtain ⟨y142, hy142⟩ : ∃ y_ : List Int, y_ = (([x27_2] : List Int)) := ⟨_, rfl⟩
            replace H : (graph_Parts.l2 k2 x27_2 y142 t133 y141 (x15_1.length : Int) x27_2) = some r := by first | (rw [hy142]; with_reducible exact H) | (have H2_ := (Option.bind_some _ _).symm.trans H; rw [hy142]; with_reducible exact H2_) | (have H2_ := (Option.bind_some _ _).symm.trans H; with_reducible exact H2_) | with_reducible exact H | (rw [hy142]; exact H) | exact H
            have Ny142 := Aside0.mk hy142; clear hy142
            have H' := Aside0.mk H
            clear H
            have p140 : 0 ≤ (x27_2 : Int) := of_decide_eq_true (by first | (with_reducible assumption) | assumption)
            have q140 : x27_2 < (x15_2.length : Int) := of_decide_eq_true (by first | (with_reducible assumption) | assumption)
            obtain ⟨ad140, e140, hx140_0⟩ := Kd.at_int (Kd.R_reads' HO_15.out).2.2 x27_2 p140 q140
            cases e140
            replace p140 := eq_true p140; replace q140 := eq_true q140
            have p22 : 0 ≤ (x27_2 : Int) := of_decide_eq_true (by first | (with_reducible assumption) | assumption)
            have q22 : (x27_2 : Int) < ((x15_2.length : Int) : Int) := of_decide_eq_true (by first | (with_reducible assumption) | assumption)
            obtain ⟨go22, co22, eo22, gb22, gl22, cl22, HG22⟩ := Kd.R_form HO_15.out (by omega)
            (first | cases eo22 | (injection eo22 with ea_ en_ ec_; (first | subst ea_ | (injection ea_ with ea_; subst ea_)); subst ec_; clear en_))
            have GB22 := Aside0.mk gb22; have GG22 := Aside0.mk HG22; clear gb22 gl22 HG22
            (first | simp only [add_plain] at hx140_0 | skip)
            obtain ⟨hx22_0, hf22_0⟩ := Kd.R_celln 0 HO_15.out (x27_2 : Int) p22 q22
            replace p22 := eq_true p22; replace q22 := eq_true q22
            have HP23 := Kd.R_putg HO_15.out (x27_2 : Int) x27_2
            go_wp2_with (first | ((with_reducible refine gate_store (t := 3) (p := 38) rfl ?_); refine store_event (t := 3) (p := 38) (v := ?vo_w24) (w1 := (wr.setCell ⟨go22, (x27_2 : Int).toNat, none⟩ (.int .i64 x27_2))) ?hg ?ho ?hn ?hr ?_; (case ho => rfl); (case hg => rfl); (case hn => rfl); (case hr => first | (go_simp; done) | (go_simp; rfl)); intro w24 hw; have hg : wr.grownBy w24 (some go22) := (by rw [hw]; exact HP23.2); have hp_ : Kd.R (Kd.int .i64) 3 w24 w.heap.size (fun _ => True) (.slice (some ⟨go22, 0, none⟩) x15_2.length co11) y141 := (by rw [hw, Ny141.out]; exact HP23.1); clear HP23; have n0_ := Aside0.mk (Kd.S_after (v := (.slice (some ⟨go22, 0, none⟩) x15_2.length co11)) (v1 := (.slice (some ⟨go22, 0, none⟩) x15_2.length co11)) (ok := (fun _ => True)) (by (with_reducible repeat (first | apply Kd.S_alloc | apply Kd.S_drewN | apply Kd.S_drew)); exact Kd.S_mono HO_12.out (fun _ hk => ⟨trivial, hk⟩)) hg (.inl rfl)); have n1_ := Aside0.mk (hp_); have n2_ := Aside0.mk (blk_grown (g := gb132) (o := .cells #[.int .i64 a0_0, .slice A0_1 l0_1.length c0_1] 24 (0, 0)) (byK BK132.out) hg (Kd.R_ne HO_15.out BK132.out (by decide))); have n3_ := Aside0.mk ((by rw [hw]; exact below_set (HB.out) GB22.out : Below w.heap.size w w24)); clear HO_12 HO_15 BK132 HB; have HO_12 := n0_; have HO_15 := n1_; have BK132 := n2_; have HB := n3_; clear n0_ n1_ n2_ n3_ hg hw hp_) | ((with_reducible refine gate_dst (N := 40) rfl ?_); refine Kd.R_lit (Kd.int .i64) _ 3 ?hg (N := 40) ?hd (xs := ([x27_2] : List Int)) (inner := [.int .i64 x27_2]) (ok := fun _ => True) (okp := fun _ => True) ?hr ?hp (fun _ hk => hk) trivial (Below.refl _ _) (Nat.le_refl _) (by simp) ?_; (case hd => rfl); (case hg => rfl); (case hr => first | (go_simp; done) | (go_simp; rfl)); (case hp => exact (Reps.one (show Kd.M (Kd.int .i64) _ _ _ x27_2 [.int .i64 x27_2] from rfl) (Reps.none _ _))); intro v143 w25 ho26 hb hg_ hnew_; clear hg_ hnew_; (first | rw [← Ny142.out] at ho26 | (simp only [Int.reduceToNat] at ho26; rw [← Ny142.out] at ho26)); have n0_ := Aside0.mk (Kd.S_elder' (byS HO_12.out) (Kd.R_base ho26) hb); have n1_ := Aside0.mk (Kd.R_elder' (byR HO_15.out) (Kd.R_base ho26) hb); have n2_ := Aside0.mk (Kd.R_lower (Kd.R_new' ho26 (Kd.R_lt (byR HO_15.out))) (below_size (byB1 HB.out GE132.out))); have n3_ := Aside0.mk (blk_below (g := gb132) (o := .cells #[.int .i64 a0_0, .slice A0_1 l0_1.length c0_1] 24 (0, 0)) (byK BK132.out) hb); have n4_ := Aside0.mk (below_step (byB1 HB.out GE132.out) hb); clear HO_12 HO_15 BK132 HB; have HO_12 := n0_; have HO_15 := n1_; have HO144 := n2_; have BK132 := n3_; have HB := n4_; clear n0_ n1_ n2_ n3_ n4_ hb ho26))
            go_loopg [7] k2 (fun kq v7 w' => ∃ (x7_3 : List Int) (x15_3 : List Int), Aside0 (graph_Parts.l2 kq x27_2 x7_3 t133 x15_3 (x15_1.length : Int) x27_2 = some r) ∧ Aside0 (kq ≤ k2) ∧ Aside0 (Kd.R (Kd.int .i64) 3 w' w.heap.size (fun k_ => some k_ ≠ ((.slice (some ⟨go22, 0, none⟩) x15_2.length co11) : Value).ownBlock) v7 x7_3) ∧ Aside0 (Kd.S (Kd.slice 3 (Kd.int .i64)) 31 w' w.heap.size (fun k_ => some k_ ≠ (v7 : Value).ownBlock ∧ some k_ ≠ ((.slice (some ⟨go22, 0, none⟩) x15_2.length co11) : Value).ownBlock) (.slice Ao8 t133.length co8) t133) ∧ Aside0 (Kd.R (Kd.int .i64) 3 w' w.heap.size (fun k_ => some k_ ≠ (v7 : Value).ownBlock) (.slice (some ⟨go22, 0, none⟩) x15_2.length co11) x15_3) ∧ Aside0 (w'.heap[gb132]? = some (.cells #[.int .i64 a0_0, (.slice A0_1 l0_1.length c0_1)] 24 (0, 0))) ∧ Aside0 (Below w.heap.size w w'))
            case atStart => exact ⟨(y142), (y141), H', ⟨Nat.le_refl _⟩, ⟨by (try simp only [hl15_1]); (try simp only [hl15_2]); (with_reducible repeat (first | apply Kd.R_alloc | apply Kd.R_drewN | apply Kd.R_drew)); exact Kd.R_mono HO144.out (fun _ hk => hk.2)⟩, ⟨by (try simp only [hl15_1]); (try simp only [hl15_2]); (with_reducible repeat (first | apply Kd.S_alloc | apply Kd.S_drewN | apply Kd.S_drew)); exact Kd.S_mono HO_12.out (fun _ hk => ⟨hk.2, hk.1.2⟩)⟩, ⟨by (try simp only [hl15_1]); (try simp only [hl15_2]); (with_reducible repeat (first | apply Kd.R_alloc | apply Kd.R_drewN | apply Kd.R_drew)); exact Kd.R_mono HO_15.out (fun _ hk => hk.2)⟩, ⟨by (try simp only [hl15_1]); (try simp only [hl15_2]); (with_reducible repeat (first | refine blk_drewN ?_ _ | refine blk_drew ?_ | refine blk_alloc ?_ _)); exact BK132.out⟩, ⟨by repeat (first | (with_reducible first | exact HB.out | apply below_alloc | apply pw_below_drewN | apply below_drew1 | refine below_set ?_ GE132.out) | exact HB.out)⟩⟩
            case round =>
             clear H'
             try clear c1
             try clear p1
             try clear q1
             try clear hx1
             try clear hf1
             try clear c2
             try clear p2
             try clear q2
             try clear hx2
             try clear hf2
             try clear c3
             try clear c3b0
             try clear c3b1
             try clear c4
             try clear c4b0
             try clear c4b1
             try clear p6
             try clear c12
             try clear c12b0
             try clear c13
             try clear c13b0
             try clear c14
             try clear c14b0
             try clear p14
             try clear q14
             try clear hx14
             try clear p15
             try clear q15
             try clear hx15
             try clear hf15
             try clear c17
             try clear c18
             try clear c18b0
             try clear c19
             try clear c19b0
             try clear c20
             try clear c20b0
             try clear c21
             try clear c21b0
             try clear p22
             try clear q22
             try clear hx22
             try clear hf22
             try clear hcz6_0
             try clear hcz6_1
             try clear hfz6_0
             try clear hfz6_1
             try clear hx140_0
             try clear hx15_0
             try clear hx22_0
             try clear p1
             try clear p140
             try clear p15
             try clear p2
             try clear p22
             try clear p6
             try clear q1
             try clear q140
             try clear q15
             try clear q22
             obtain ⟨x7_3, x15_3, HA, HK3, HO_7, HO_12, HO_15, BK132, HB⟩ := hrel
             have hl15_3 := (Kd.R_reads' HO_15.out).1
             rw [hl15_3] at HO_15
             (try simp only [hl15_3])
             (try simp only [hl15_3] at BK132)
             (try simp only [hl15_3] at HO_7)
             (try simp only [hl15_3] at HO_12)
             cases gk with
             | zero => exact absurd HA.out (by simp [graph_Parts.l2])
             | succ k3 =>
              have H := HA.out; clear HA
              simp only [graph_Parts.l2] at H
              by_cases c27 : (x7_3.length : Int) > 0
              ·rw [if_pos c27] at H
               have c27b0 : decide (0 < (x7_3.length : Int)) = true := decide_eq_true c27
               (try simp only [hl15_1] at c27b0)
               (try simp only [hl15_2] at c27b0)
               (try simp only [hl15_3] at c27b0)
               have c27b1 : decide (0 < x7_3.length) = true := decide_eq_true (by omega)
               (try simp only [hl15_1] at c27b1)
               (try simp only [hl15_2] at c27b1)
               (try simp only [hl15_3] at c27b1)
               clear c27
               obtain ⟨ji28, hji28⟩ : ∃ j_ : Int, (wrap64 ((x7_3.length : Int) - 1)) = j_ := ⟨_, rfl⟩
               replace H : (if 0 ≤ (ji28) then (if (ji28) < (x7_3.length : Int) then (if (ji28) ≤ (x7_3.length : Int) then (if 0 ≤ (rd x7_3 (ji28)) then (if (rd x7_3 (ji28)) < (t133.length : Int) then (graph_Parts.l3 k3 x27_2 (x7_3.take ((ji28) : Int).toNat) t133 x15_3 (x15_1.length : Int) x27_2 (rd_L2 t133 (rd x7_3 (ji28))) ((rd_L2 t133 (rd x7_3 (ji28))).length : Int) 0) else (none)) else (none)) else (none)) else (none)) else (none)) = some r := by first | (rw [hji28] at H; exact H) | (simp only [hji28] at H ⊢; exact H)
               have hji28w : (IntKind.i64.wrap ((x7_3.length : Int) - 1)) = ji28 := (i64_w _).trans hji28
               by_cases c29 : 0 ≤ (ji28)
               ·rw [if_pos c29] at H
                have c29b0 : decide (0 ≤ (ji28)) = true := decide_eq_true c29
                (try simp only [hl15_1] at c29b0)
                (try simp only [hl15_2] at c29b0)
                (try simp only [hl15_3] at c29b0)
                clear c29
                by_cases c30 : (ji28) < (x7_3.length : Int)
                ·rw [if_pos c30] at H
                 have c30b0 : decide ((ji28) < (x7_3.length : Int)) = true := decide_eq_true c30
                 (try simp only [hl15_1] at c30b0)
                 (try simp only [hl15_2] at c30b0)
                 (try simp only [hl15_3] at c30b0)
                 clear c30
                 by_cases c31 : (ji28) ≤ (x7_3.length : Int)
                 ·rw [if_pos c31] at H
                  have c31b0 := eq_true c31
                  (try simp only [hl15_1] at c31b0)
                  (try simp only [hl15_2] at c31b0)
                  (try simp only [hl15_3] at c31b0)
                  have c31b1 : decide ((ji28) ≤ (x7_3.length : Int)) = true := decide_eq_true c31
                  (try simp only [hl15_1] at c31b1)
                  (try simp only [hl15_2] at c31b1)
                  (try simp only [hl15_3] at c31b1)
                  clear c31
                  obtain ⟨y146, hy146⟩ : ∃ y_ : List Int, y_ = (x7_3.take ((ji28) : Int).toNat) := ⟨_, rfl⟩
                  replace H : (if 0 ≤ (rd x7_3 (ji28)) then (if (rd x7_3 (ji28)) < (t133.length : Int) then (graph_Parts.l3 k3 x27_2 y146 t133 x15_3 (x15_1.length : Int) x27_2 (rd_L2 t133 (rd x7_3 (ji28))) ((rd_L2 t133 (rd x7_3 (ji28))).length : Int) 0) else (none)) else (none)) = some r := by first | (rw [hy146]; with_reducible exact H) | (have H2_ := (Option.bind_some _ _).symm.trans H; rw [hy146]; with_reducible exact H2_) | (have H2_ := (Option.bind_some _ _).symm.trans H; with_reducible exact H2_) | with_reducible exact H | (rw [hy146]; exact H) | exact H
                  have Ny146 := Aside0.mk hy146; clear hy146
                  by_cases c32 : 0 ≤ (rd x7_3 (ji28))
                  ·rw [if_pos c32] at H
                   have c32b0 : decide (0 ≤ (rd x7_3 (ji28))) = true := decide_eq_true c32
                   (try simp only [hl15_1] at c32b0)
                   (try simp only [hl15_2] at c32b0)
                   (try simp only [hl15_3] at c32b0)
                   clear c32
                   by_cases c33 : (rd x7_3 (ji28)) < (t133.length : Int)
                   ·rw [if_pos c33] at H
                    have c33b0 : decide ((rd x7_3 (ji28)) < (t133.length : Int)) = true := decide_eq_true c33
                    (try simp only [hl15_1] at c33b0)
                    (try simp only [hl15_2] at c33b0)
                    (try simp only [hl15_3] at c33b0)
                    clear c33
                    have H' := Aside0.mk H
                    clear H
                    obtain ⟨Ao34, co34, eo34⟩ := Kd.R_slice HO_7.out
                    subst eo34
                    have p145 : 0 ≤ ((ji28) : Int) := of_decide_eq_true (by first | (with_reducible assumption) | assumption)
                    have q145 : (ji28) < (x7_3.length : Int) := of_decide_eq_true (by first | (with_reducible assumption) | assumption)
                    obtain ⟨ad145, e145, hx145_0⟩ := Kd.at_int (Kd.R_reads' HO_7.out).2.2 (ji28) p145 q145
                    cases e145
                    replace p145 := eq_true p145; replace q145 := eq_true q145
                    have q35 : ((ji28) : Int) ≤ ((x7_3.length : Int) : Int) := of_decide_eq_true (by first | (with_reducible assumption) | assumption)
                    obtain ⟨i035, hi035, _, hsz35, _⟩ := info_parts info3
                    have hcut35 := cut_to (P := Try.prog) 31 3 .i64 Try.underlying31 hi035 (some ad145) x7_3.length co34 (ji28) (of_decide_eq_true (by first | (with_reducible assumption) | assumption)) q35 (Kd.R_reads' HO_7.out).2.1
                    have hr35 := Kd.R_take (m := ((ji28) : Int).toNat) HO_7.out (by omega)
                    have hy35 : y146.length = ((ji28) : Int).toNat := (by rw [Ny146.out, List.length_take]; omega)
                    rw [← Ny146.out] at hr35
                    rw [← hy35] at hr35 hcut35
                    clear hy35 hi035 hsz35 HO_7; have HO148 := Aside0.mk hr35; clear hr35; replace q35 := eq_true q35
                    have p149 : 0 ≤ ((rd x7_3 (ji28)) : Int) := of_decide_eq_true (by first | (with_reducible assumption) | assumption)
                    have q149 : (rd x7_3 (ji28)) < (t133.length : Int) := of_decide_eq_true (by first | (with_reducible assumption) | assumption)
                    obtain ⟨ad149, A149_0, c149_0, e149, hx149_0, hl149_0, hi149_0⟩ := at_L2 (Kd.S_reads' HO_12.out).2.2 (rd x7_3 (ji28)) p149 q149
                    cases e149
                    obtain ⟨ce149, hce149, hMe149, hcc149⟩ := Kd.S_get HO_12.out [] (rd x7_3 (ji28)) p149 (by first | exact q149 | exact of_decide_eq_true (by first | (with_reducible assumption) | assumption) | (have e_ := (Kd.S_reads' HO_12.out).1; omega))
                    obtain ⟨ve149_0, rfl, ge149_0⟩ := hMe149
                    have hv149_0 := hcc149 0 _ rfl
                    rw [Nat.add_zero, show ((Kd.slice 3 (Kd.int .i64))).sz = 1 from rfl, Nat.mul_one] at hv149_0
                    replace hv149_0 := Option.some.inj (hv149_0.symm.trans hx149_0)
                    rw [hv149_0] at ge149_0
                    have HL149_0 := Aside0.mk (show Kd.R (Kd.int .i64) 3 _ _ _ _ (rd_L2 t133 (rd x7_3 (ji28))) from ge149_0); clear hv149_0 ge149_0 hcc149 hce149; have HR149_0 := Aside0.mk hi149_0; have HC149_0 := Aside0.mk hl149_0; clear hi149_0 hl149_0; replace p149 := eq_true p149; replace q149 := eq_true q149
                    go_wp2
                    go_loopg [7, 60] k3 (fun kq v7 v60 w' => ∃ (x7_4 : List Int) (x15_4 : List Int) (x60_4 : Int), v60 = .int .i64 x60_4 ∧ Aside0 (graph_Parts.l3 kq x27_2 x7_4 t133 x15_4 (x15_1.length : Int) x27_2 (rd_L2 t133 (rd x7_3 (ji28))) ((rd_L2 t133 (rd x7_3 (ji28))).length : Int) x60_4 = some r) ∧ Aside0 (kq ≤ k3) ∧ Aside0 (Kd.R (Kd.int .i64) 3 w' w.heap.size (fun k_ => some k_ ≠ ((.slice (some ⟨go22, 0, none⟩) x15_3.length co11) : Value).ownBlock) v7 x7_4) ∧ Aside0 (Kd.S (Kd.slice 3 (Kd.int .i64)) 31 w' w.heap.size (fun k_ => some k_ ≠ (v7 : Value).ownBlock ∧ some k_ ≠ ((.slice (some ⟨go22, 0, none⟩) x15_3.length co11) : Value).ownBlock) (.slice (some ad149) t133.length co8) t133) ∧ Aside0 (Kd.R (Kd.int .i64) 3 w' w.heap.size (fun k_ => some k_ ≠ (v7 : Value).ownBlock) (.slice (some ⟨go22, 0, none⟩) x15_3.length co11) x15_4) ∧ Aside0 (Kd.V (Kd.int .i64) 3 w' w.heap.size (fun k_ => some k_ ≠ (v7 : Value).ownBlock ∧ some k_ ≠ ((.slice (some ad149) t133.length co8) : Value).ownBlock ∧ some k_ ≠ ((.slice (some ⟨go22, 0, none⟩) x15_3.length co11) : Value).ownBlock ∧ k_ ≠ gb132) (.slice A149_0 (rd_L2 t133 (rd x7_3 (ji28))).length c149_0) (rd_L2 t133 (rd x7_3 (ji28)))) ∧ Aside0 (w'.heap[gb132]? = some (.cells #[.int .i64 a0_0, (.slice A0_1 l0_1.length c0_1)] 24 (0, 0))) ∧ Aside0 (Below w.heap.size w w'))
                    case atStart => exact ⟨(y146), (x15_3), (0), (by first | rfl | (simp; done) | (simp [*]; done)), H', ⟨Nat.le_refl _⟩, ⟨by (try simp only [hl15_1]); (try simp only [hl15_2]); (try simp only [hl15_3]); (with_reducible repeat (first | apply Kd.R_alloc | apply Kd.R_drewN | apply Kd.R_drew)); exact HO148.out⟩, ⟨by (try simp only [hl15_1]); (try simp only [hl15_2]); (try simp only [hl15_3]); (with_reducible repeat (first | apply Kd.S_alloc | apply Kd.S_drewN | apply Kd.S_drew)); exact HO_12.out⟩, ⟨by (try simp only [hl15_1]); (try simp only [hl15_2]); (try simp only [hl15_3]); (with_reducible repeat (first | apply Kd.R_alloc | apply Kd.R_drewN | apply Kd.R_drew)); exact HO_15.out⟩, ⟨Kd.R_V (by (try simp only [hl15_1]); (try simp only [hl15_2]); (try simp only [hl15_3]); (with_reducible repeat (first | apply Kd.R_alloc | apply Kd.R_drewN | apply Kd.R_drew)); exact Kd.R_mono (Kd.R_types HL149_0.out BK132.out (by decide)) (fun _ hk => ⟨hk.1.1.1, ⟨hk.1.2, ⟨hk.1.1.2, hk.2⟩⟩⟩))⟩, ⟨by (try simp only [hl15_1]); (try simp only [hl15_2]); (try simp only [hl15_3]); (with_reducible repeat (first | refine blk_drewN ?_ _ | refine blk_drew ?_ | refine blk_alloc ?_ _)); exact BK132.out⟩, ⟨by repeat (first | (with_reducible first | exact HB.out | apply below_alloc | apply pw_below_drewN | apply below_drew1 | refine below_set ?_ GE132.out) | exact HB.out)⟩⟩
                    case round =>
                     clear H'
                     try clear c1
                     try clear p1
                     try clear q1
                     try clear hx1
                     try clear hf1
                     try clear c2
                     try clear p2
                     try clear q2
                     try clear hx2
                     try clear hf2
                     try clear c3
                     try clear c3b0
                     try clear c3b1
                     try clear q3
                     try clear c4
                     try clear c4b0
                     try clear c4b1
                     try clear p6
                     try clear c12
                     try clear c12b0
                     try clear c13
                     try clear c13b0
                     try clear c14
                     try clear c14b0
                     try clear p14
                     try clear q14
                     try clear hx14
                     try clear p15
                     try clear q15
                     try clear hx15
                     try clear hf15
                     try clear c17
                     try clear c18
                     try clear c18b0
                     try clear c19
                     try clear c19b0
                     try clear c20
                     try clear c20b0
                     try clear c21
                     try clear c21b0
                     try clear p22
                     try clear q22
                     try clear hx22
                     try clear hf22
                     try clear c27
                     try clear c27b0
                     try clear c27b1
                     try clear c29
                     try clear c29b0
                     try clear c30
                     try clear c30b0
                     try clear c31
                     try clear c31b0
                     try clear c31b1
                     try clear c32
                     try clear c32b0
                     try clear c33
                     try clear c33b0
                     try clear q35
                     try clear hcz6_0
                     try clear hcz6_1
                     try clear hfz6_0
                     try clear hfz6_1
                     try clear hx140_0
                     try clear hx145_0
                     try clear hx149_0
                     try clear hx15_0
                     try clear hx22_0
                     try clear p1
                     try clear p14
                     try clear p140
                     try clear p145
                     try clear p149
                     try clear p15
                     try clear p2
                     try clear p22
                     try clear p6
                     try clear q1
                     try clear q14
                     try clear q140
                     try clear q145
                     try clear q149
                     try clear q15
                     try clear q2
                     try clear q22
                     try clear q35
                     obtain ⟨x7_4, x15_4, x60_4, rfl, HA, HK4, HO_7, HO_12, HO_15, HO_58, BK132, HB⟩ := hrel
                     have hl15_4 := (Kd.R_reads' HO_15.out).1
                     rw [hl15_4] at HO_15
                     (try simp only [hl15_4])
                     (try simp only [hl15_4] at BK132)
                     (try simp only [hl15_4] at HO_7)
                     (try simp only [hl15_4] at HO_12)
                     (try simp only [hl15_4] at HO_58)
                     cases gk with
                     | zero => exact absurd HA.out (by simp [graph_Parts.l3])
                     | succ k4 =>
                      have H := HA.out; clear HA
                      simp only [graph_Parts.l3] at H
                      by_cases c36 : x60_4 < ((rd_L2 t133 (rd x7_3 (ji28))).length : Int)
                      ·rw [if_pos c36] at H
                       have c36b0 : decide (x60_4 < ((rd_L2 t133 (rd x7_3 (ji28))).length : Int)) = true := decide_eq_true c36
                       (try simp only [hl15_1] at c36b0)
                       (try simp only [hl15_2] at c36b0)
                       (try simp only [hl15_3] at c36b0)
                       (try simp only [hl15_4] at c36b0)
                       clear c36
                       by_cases c37 : 0 ≤ x60_4
                       ·rw [if_pos c37] at H
                        have c37b0 : decide (0 ≤ x60_4) = true := decide_eq_true c37
                        (try simp only [hl15_1] at c37b0)
                        (try simp only [hl15_2] at c37b0)
                        (try simp only [hl15_3] at c37b0)
                        (try simp only [hl15_4] at c37b0)
                        clear c37
                        by_cases c38 : x60_4 < ((rd_L2 t133 (rd x7_3 (ji28))).length : Int)
                        ·rw [if_pos c38] at H
                         have c38b0 : decide (x60_4 < ((rd_L2 t133 (rd x7_3 (ji28))).length : Int)) = true := decide_eq_true c38
                         (try simp only [hl15_1] at c38b0)
                         (try simp only [hl15_2] at c38b0)
                         (try simp only [hl15_3] at c38b0)
                         (try simp only [hl15_4] at c38b0)
                         clear c38
                         by_cases c39 : 0 ≤ (rd (rd_L2 t133 (rd x7_3 (ji28))) x60_4)
                         ·rw [if_pos c39] at H
                          have c39b0 : decide (0 ≤ (rd (rd_L2 t133 (rd x7_3 (ji28))) x60_4)) = true := decide_eq_true c39
                          (try simp only [hl15_1] at c39b0)
                          (try simp only [hl15_2] at c39b0)
                          (try simp only [hl15_3] at c39b0)
                          (try simp only [hl15_4] at c39b0)
                          clear c39
                          by_cases c40 : (rd (rd_L2 t133 (rd x7_3 (ji28))) x60_4) < (x15_4.length : Int)
                          ·rw [if_pos c40] at H
                           have c40b0 : decide ((rd (rd_L2 t133 (rd x7_3 (ji28))) x60_4) < (x15_4.length : Int)) = true := decide_eq_true c40
                           (try simp only [hl15_1] at c40b0)
                           (try simp only [hl15_2] at c40b0)
                           (try simp only [hl15_3] at c40b0)
                           (try simp only [hl15_4] at c40b0)
                           clear c40
                           by_cases c41 : (rd x15_4 (rd (rd_L2 t133 (rd x7_3 (ji28))) x60_4)) < 0
                           ·rw [if_pos c41] at H
                            have c41b0 : decide ((rd x15_4 (rd (rd_L2 t133 (rd x7_3 (ji28))) x60_4)) < 0) = true := decide_eq_true c41
                            (try simp only [hl15_1] at c41b0)
                            (try simp only [hl15_2] at c41b0)
                            (try simp only [hl15_3] at c41b0)
                            (try simp only [hl15_4] at c41b0)
                            clear c41
                            obtain ⟨y152, hy152⟩ : ∃ y_ : List Int, y_ = (x15_4.set ((rd (rd_L2 t133 (rd x7_3 (ji28))) x60_4) : Int).toNat x27_2) := ⟨_, rfl⟩
                            replace H : (if x7_4.length < 17592186044416 then (graph_Parts.l3 k4 x27_2 (x7_4 ++ [rd (rd_L2 t133 (rd x7_3 (ji28))) x60_4]) t133 y152 (x15_1.length : Int) x27_2 (rd_L2 t133 (rd x7_3 (ji28))) ((rd_L2 t133 (rd x7_3 (ji28))).length : Int) (wrap64 (x60_4 + 1))) else (none)) = some r := by first | (rw [hy152]; with_reducible exact H) | (have H2_ := (Option.bind_some _ _).symm.trans H; rw [hy152]; with_reducible exact H2_) | (have H2_ := (Option.bind_some _ _).symm.trans H; with_reducible exact H2_) | with_reducible exact H | (rw [hy152]; exact H) | exact H
                            have Ny152 := Aside0.mk hy152; clear hy152
                            by_cases c43 : x7_4.length < 17592186044416
                            ·rw [if_pos c43] at H
                             have LMc43 := Aside0.mk c43; clear c43
                             obtain ⟨y153, hy153⟩ : ∃ y_ : List Int, y_ = (x7_4 ++ [rd (rd_L2 t133 (rd x7_3 (ji28))) x60_4]) := ⟨_, rfl⟩
                             replace H : (graph_Parts.l3 k4 x27_2 y153 t133 y152 (x15_1.length : Int) x27_2 (rd_L2 t133 (rd x7_3 (ji28))) ((rd_L2 t133 (rd x7_3 (ji28))).length : Int) (wrap64 (x60_4 + 1))) = some r := by first | (rw [hy153]; with_reducible exact H) | (have H2_ := (Option.bind_some _ _).symm.trans H; rw [hy153]; with_reducible exact H2_) | (have H2_ := (Option.bind_some _ _).symm.trans H; with_reducible exact H2_) | with_reducible exact H | (rw [hy153]; exact H) | exact H
                             have Ny153 := Aside0.mk hy153; clear hy153
                             have H' := Aside0.mk H
                             clear H
                             have p150 : 0 ≤ (x60_4 : Int) := of_decide_eq_true (by first | (with_reducible assumption) | assumption)
                             have q150 : x60_4 < ((rd_L2 t133 (rd x7_3 (ji28))).length : Int) := of_decide_eq_true (by first | (with_reducible assumption) | assumption)
                             obtain ⟨ad150, e150, hx150_0⟩ := Kd.at_int (Kd.V_reads' HO_58.out).2.2 x60_4 p150 q150
                             cases e150
                             replace p150 := eq_true p150; replace q150 := eq_true q150
                             have p151 : 0 ≤ ((rd (rd_L2 t133 (rd x7_3 (ji28))) x60_4) : Int) := of_decide_eq_true (by first | (with_reducible assumption) | assumption)
                             have q151 : (rd (rd_L2 t133 (rd x7_3 (ji28))) x60_4) < (x15_4.length : Int) := of_decide_eq_true (by first | (with_reducible assumption) | assumption)
                             obtain ⟨ad151, e151, hx151_0⟩ := Kd.at_int (Kd.R_reads' HO_15.out).2.2 (rd (rd_L2 t133 (rd x7_3 (ji28))) x60_4) p151 q151
                             obtain rfl : (⟨go22, 0, none⟩ : Addr) = ad151 := (by injection e151)
                             (first | simp only [add_plain] at hx151_0 | simp only [add_at] at hx151_0 | simp only [Addr.add, Nat.zero_add] at hx151_0 | skip)
                             replace p151 := eq_true p151; replace q151 := eq_true q151
                             have p42 : 0 ≤ ((rd (rd_L2 t133 (rd x7_3 (ji28))) x60_4) : Int) := of_decide_eq_true (by first | (with_reducible assumption) | assumption)
                             have q42 : ((rd (rd_L2 t133 (rd x7_3 (ji28))) x60_4) : Int) < ((x15_4.length : Int) : Int) := of_decide_eq_true (by first | (with_reducible assumption) | assumption)
                             obtain ⟨hx42_0, hf42_0⟩ := Kd.R_celln 0 HO_15.out ((rd (rd_L2 t133 (rd x7_3 (ji28))) x60_4) : Int) p42 q42
                             replace p42 := eq_true p42; replace q42 := eq_true q42
                             have HP44 := Kd.R_putg HO_15.out ((rd (rd_L2 t133 (rd x7_3 (ji28))) x60_4) : Int) x27_2
                             go_wp2_with (first | ((with_reducible refine gate_store (t := 3) (p := 72) rfl ?_); refine store_event (t := 3) (p := 72) (v := ?vo_w45) (w1 := (wr.setCell ⟨go22, ((rd (rd_L2 t133 (rd x7_3 (ji28))) x60_4) : Int).toNat, none⟩ (.int .i64 x27_2))) ?hg ?ho ?hn ?hr ?_; (case ho => rfl); (case hg => rfl); (case hn => rfl); (case hr => first | (go_simp; done) | (go_simp; rfl)); intro w45 hw; have hg : wr.grownBy w45 (some go22) := (by rw [hw]; exact HP44.2); have hp_ : Kd.R (Kd.int .i64) 3 w45 w.heap.size (fun k_ => some k_ ≠ (u7 : Value).ownBlock) (.slice (some ⟨go22, 0, none⟩) x15_4.length co11) y152 := (by rw [hw, Ny152.out]; exact HP44.1); clear HP44; have n0_ := Aside0.mk (Kd.R_after (v := (.slice (some ⟨go22, 0, none⟩) x15_4.length co11)) (v1 := (.slice (some ⟨go22, 0, none⟩) x15_4.length co11)) (ok := (fun _ => True)) (by (with_reducible repeat (first | apply Kd.R_alloc | apply Kd.R_drewN | apply Kd.R_drew)); exact Kd.R_mono HO_7.out (fun _ hk => ⟨trivial, hk⟩)) hg (.inl rfl)); have n1_ := Aside0.mk (Kd.S_after (v := (.slice (some ⟨go22, 0, none⟩) x15_4.length co11)) (v1 := (.slice (some ⟨go22, 0, none⟩) x15_4.length co11)) (ok := (fun k_ => some k_ ≠ (u7 : Value).ownBlock)) (byS HO_12.out) hg (.inl rfl)); have n2_ := Aside0.mk (hp_); have n3_ := Aside0.mk (Kd.V_afterv (v := (.slice (some ⟨go22, 0, none⟩) x15_4.length co11)) (v1 := (.slice (some ⟨go22, 0, none⟩) x15_4.length co11)) (ok := (fun k_ => some k_ ≠ (u7 : Value).ownBlock ∧ some k_ ≠ (.slice (some ad149) t133.length co8 : Value).ownBlock ∧ k_ ≠ gb132)) (by (with_reducible repeat (first | apply Kd.V_alloc | apply Kd.V_drewN | apply Kd.V_drew)); exact Kd.V_mono HO_58.out (fun _ hk => ⟨⟨hk.1, ⟨hk.2.1, hk.2.2.2⟩⟩, hk.2.2.1⟩)) hg (.inl rfl)); have n4_ := Aside0.mk (blk_grown (g := gb132) (o := .cells #[.int .i64 a0_0, .slice A0_1 l0_1.length c0_1] 24 (0, 0)) (byK BK132.out) hg (Kd.R_ne HO_15.out BK132.out (by decide))); have n5_ := Aside0.mk ((by rw [hw]; exact below_set (HB.out) GB22.out : Below w.heap.size w w45)); clear HO_7 HO_12 HO_15 HO_58 BK132 HB; have HO_7 := n0_; have HO_12 := n1_; have HO_15 := n2_; have HO_58 := n3_; have BK132 := n4_; have HB := n5_; clear n0_ n1_ n2_ n3_ n4_ n5_ hg hw hp_) | ((with_reducible refine gate_builtin (b := .append) (xs := #[.tmp 73, .tmp 75]) rfl ?_); at_builtin; refine Kd.R_append (Kd.int .i64) (w0 := w) w.heap.size rfl (.tmp 73) (.tmp 75) 31 3 (.int .i64 0) 8 rfl Try.underlying31 info3 rfl (by decide) (by omega) u7 x7_4 (rd (rd_L2 t133 (rd x7_3 (ji28))) x60_4) [.int .i64 (rd (rd_L2 t133 (rd x7_3 (ji28))) x60_4)] (fun k_ => some k_ ≠ (.slice (some ⟨go22, 0, none⟩) x15_4.length co11 : Value).ownBlock) (fun _ => False) rfl rfl ?aP (fun _ hk => hk.elim) ?aF ?aO ?aB ?aS ?aL ?_; (case aP => exact rfl); (case aB => exact (byB1 HB.out GE132.out)); (case aF => exact (fun k_ hk => Kd.fresh' (Kd.R_lt (byR HO_15.out)) k_ hk)); (case aO => exact (by (with_reducible repeat (first | apply Kd.R_alloc | apply Kd.R_drewN | apply Kd.R_drew)); exact Kd.R_mono HO_7.out (fun _ hk => hk.2))); (case aS => exact (below_size (byB1 HB.out GE132.out))); (case aL => have := LMc43.out; omega); intro v154 w46 ho hb hg hat; rw [← Ny153.out] at ho; have n0_ := Aside0.mk (Kd.S_after (ok := (fun k_ => some k_ ≠ (.slice (some ⟨go22, 0, none⟩) x15_4.length co11 : Value).ownBlock)) (by (with_reducible repeat (first | apply Kd.S_alloc | apply Kd.S_drewN | apply Kd.S_drew)); exact Kd.S_mono HO_12.out (fun _ hk => ⟨hk.2, hk.1⟩)) hg hat); have n1_ := Aside0.mk (Kd.R_after (ok := (fun _ => True)) (by (with_reducible repeat (first | apply Kd.R_alloc | apply Kd.R_drewN | apply Kd.R_drew)); exact Kd.R_mono HO_15.out (fun _ hk => ⟨trivial, hk⟩)) hg hat); have n2_ := Aside0.mk (Kd.V_afterv (ok := (fun k_ => some k_ ≠ (.slice (some ad149) t133.length co8 : Value).ownBlock ∧ some k_ ≠ (.slice (some ⟨go22, 0, none⟩) x15_4.length co11 : Value).ownBlock ∧ k_ ≠ gb132)) (by (with_reducible repeat (first | apply Kd.V_alloc | apply Kd.V_drewN | apply Kd.V_drew)); exact Kd.V_mono HO_58.out (fun _ hk => ⟨⟨hk.1.2.1, ⟨hk.2, hk.1.2.2⟩⟩, hk.1.1⟩)) hg hat); have n3_ := Aside0.mk (blk_grown (g := gb132) (o := .cells #[.int .i64 a0_0, .slice A0_1 l0_1.length c0_1] 24 (0, 0)) (byK BK132.out) hg (Kd.R_ne HO_7.out BK132.out (by decide))); have n4_ := Aside0.mk (hb); have n5_ := Aside0.mk (ho); clear HO_12 HO_15 HO_58 BK132 HB HO_7; have HO_12 := n0_; have HO_15 := n1_; have HO_58 := n2_; have BK132 := n3_; have HB := n4_; have HO155 := n5_; clear n0_ n1_ n2_ n3_ n4_ n5_ ho hb hg hat))
                             (try simp only [← hl15_4])
                             go_roundg k4
                             case measure => have := HK1.out; have := HK2.out; have := HK3.out; have := HK4.out; omega
                             case rel => exact ⟨(y153), (y152), (wrap64 (x60_4 + 1)), (by first | rfl | (simp; done) | (simp [*]; done)), H', ⟨by have := HK1.out; have := HK2.out; have := HK3.out; have := HK4.out; omega⟩, ⟨by (try simp only [hl15_1]); (try simp only [hl15_2]); (try simp only [hl15_3]); (try simp only [hl15_4]); (with_reducible repeat (first | apply Kd.R_alloc | apply Kd.R_drewN | apply Kd.R_drew)); exact HO155.out⟩, ⟨by (try simp only [hl15_1]); (try simp only [hl15_2]); (try simp only [hl15_3]); (try simp only [hl15_4]); (with_reducible repeat (first | apply Kd.S_alloc | apply Kd.S_drewN | apply Kd.S_drew)); exact Kd.S_mono HO_12.out (fun _ hk => ⟨hk.2, hk.1⟩)⟩, ⟨by (try simp only [hl15_1]); (try simp only [hl15_2]); (try simp only [hl15_3]); (try simp only [hl15_4]); (with_reducible repeat (first | apply Kd.R_alloc | apply Kd.R_drewN | apply Kd.R_drew)); exact Kd.R_mono HO_15.out (fun _ hk => hk.2)⟩, ⟨by (try simp only [hl15_1]); (try simp only [hl15_2]); (try simp only [hl15_3]); (try simp only [hl15_4]); (with_reducible repeat (first | apply Kd.V_alloc | apply Kd.V_drewN | apply Kd.V_drew)); exact Kd.V_mono HO_58.out (fun _ hk => ⟨hk.2, ⟨hk.1.1, ⟨hk.1.2.1, hk.1.2.2⟩⟩⟩)⟩, ⟨by (try simp only [hl15_1]); (try simp only [hl15_2]); (try simp only [hl15_3]); (try simp only [hl15_4]); (with_reducible repeat (first | refine blk_drewN ?_ _ | refine blk_drew ?_ | refine blk_alloc ?_ _)); exact BK132.out⟩, ⟨by repeat (first | (with_reducible first | exact HB.out | apply below_alloc | apply pw_below_drewN | apply below_drew1 | refine below_set ?_ GE132.out) | exact HB.out)⟩⟩
                            ·rw [if_neg c43] at H
                             exact absurd H (by simp)
                           ·rw [if_neg c41] at H
                            have c41b0 : decide ((rd x15_4 (rd (rd_L2 t133 (rd x7_3 (ji28))) x60_4)) < 0) = false := decide_eq_false c41
                            (try simp only [hl15_1] at c41b0)
                            (try simp only [hl15_2] at c41b0)
                            (try simp only [hl15_3] at c41b0)
                            (try simp only [hl15_4] at c41b0)
                            clear c41
                            have H' := Aside0.mk H
                            clear H
                            have p150 : 0 ≤ (x60_4 : Int) := of_decide_eq_true (by first | (with_reducible assumption) | assumption)
                            have q150 : x60_4 < ((rd_L2 t133 (rd x7_3 (ji28))).length : Int) := of_decide_eq_true (by first | (with_reducible assumption) | assumption)
                            obtain ⟨ad150, e150, hx150_0⟩ := Kd.at_int (Kd.V_reads' HO_58.out).2.2 x60_4 p150 q150
                            cases e150
                            replace p150 := eq_true p150; replace q150 := eq_true q150
                            have p151 : 0 ≤ ((rd (rd_L2 t133 (rd x7_3 (ji28))) x60_4) : Int) := of_decide_eq_true (by first | (with_reducible assumption) | assumption)
                            have q151 : (rd (rd_L2 t133 (rd x7_3 (ji28))) x60_4) < (x15_4.length : Int) := of_decide_eq_true (by first | (with_reducible assumption) | assumption)
                            obtain ⟨ad151, e151, hx151_0⟩ := Kd.at_int (Kd.R_reads' HO_15.out).2.2 (rd (rd_L2 t133 (rd x7_3 (ji28))) x60_4) p151 q151
                            obtain rfl : (⟨go22, 0, none⟩ : Addr) = ad151 := (by injection e151)
                            (first | simp only [add_plain] at hx151_0 | simp only [add_at] at hx151_0 | simp only [Addr.add, Nat.zero_add] at hx151_0 | skip)
                            replace p151 := eq_true p151; replace q151 := eq_true q151
                            go_wp2
                            (try simp only [← hl15_4])
                            go_roundg k4
                            case measure => have := HK1.out; have := HK2.out; have := HK3.out; have := HK4.out; omega
                            case rel => exact ⟨(x7_4), (x15_4), (wrap64 (x60_4 + 1)), (by first | rfl | (simp; done) | (simp [*]; done)), H', ⟨by have := HK1.out; have := HK2.out; have := HK3.out; have := HK4.out; omega⟩, ⟨by (try simp only [hl15_1]); (try simp only [hl15_2]); (try simp only [hl15_3]); (try simp only [hl15_4]); (with_reducible repeat (first | apply Kd.R_alloc | apply Kd.R_drewN | apply Kd.R_drew)); exact HO_7.out⟩, ⟨by (try simp only [hl15_1]); (try simp only [hl15_2]); (try simp only [hl15_3]); (try simp only [hl15_4]); (with_reducible repeat (first | apply Kd.S_alloc | apply Kd.S_drewN | apply Kd.S_drew)); exact HO_12.out⟩, ⟨by (try simp only [hl15_1]); (try simp only [hl15_2]); (try simp only [hl15_3]); (try simp only [hl15_4]); (with_reducible repeat (first | apply Kd.R_alloc | apply Kd.R_drewN | apply Kd.R_drew)); exact HO_15.out⟩, ⟨by (try simp only [hl15_1]); (try simp only [hl15_2]); (try simp only [hl15_3]); (try simp only [hl15_4]); (with_reducible repeat (first | apply Kd.V_alloc | apply Kd.V_drewN | apply Kd.V_drew)); exact HO_58.out⟩, ⟨by (try simp only [hl15_1]); (try simp only [hl15_2]); (try simp only [hl15_3]); (try simp only [hl15_4]); (with_reducible repeat (first | refine blk_drewN ?_ _ | refine blk_drew ?_ | refine blk_alloc ?_ _)); exact BK132.out⟩, ⟨by repeat (first | (with_reducible first | exact HB.out | apply below_alloc | apply pw_below_drewN | apply below_drew1 | refine below_set ?_ GE132.out) | exact HB.out)⟩⟩
                          ·rw [if_neg c40] at H
                           exact absurd H (by simp)
                         ·rw [if_neg c39] at H
                          exact absurd H (by simp)
                        ·rw [if_neg c38] at H
                         exact absurd H (by simp)
                       ·rw [if_neg c37] at H
                        exact absurd H (by simp)
                      ·rw [if_neg c36] at H
                       have c36b0 : decide (x60_4 < ((rd_L2 t133 (rd x7_3 (ji28))).length : Int)) = false := decide_eq_false c36
                       (try simp only [hl15_1] at c36b0)
                       (try simp only [hl15_2] at c36b0)
                       (try simp only [hl15_3] at c36b0)
                       (try simp only [hl15_4] at c36b0)
                       clear c36
                       have H' := Aside0.mk H
                       clear H
                       go_wp2
                       (try simp only [← hl15_3, ← hl15_4])
                       go_roundg k4
                       case measure => have := HK1.out; have := HK2.out; have := HK3.out; have := HK4.out; omega
                       case rel => exact ⟨(x7_4), (x15_4), H', ⟨by have := HK1.out; have := HK2.out; have := HK3.out; have := HK4.out; omega⟩, ⟨by (try simp only [hl15_1]); (try simp only [hl15_2]); (try simp only [hl15_3]); (try simp only [hl15_4]); (with_reducible repeat (first | apply Kd.R_alloc | apply Kd.R_drewN | apply Kd.R_drew)); exact HO_7.out⟩, ⟨by (try simp only [hl15_1]); (try simp only [hl15_2]); (try simp only [hl15_3]); (try simp only [hl15_4]); (with_reducible repeat (first | apply Kd.S_alloc | apply Kd.S_drewN | apply Kd.S_drew)); exact HO_12.out⟩, ⟨by (try simp only [hl15_1]); (try simp only [hl15_2]); (try simp only [hl15_3]); (try simp only [hl15_4]); (with_reducible repeat (first | apply Kd.R_alloc | apply Kd.R_drewN | apply Kd.R_drew)); exact HO_15.out⟩, ⟨by (try simp only [hl15_1]); (try simp only [hl15_2]); (try simp only [hl15_3]); (try simp only [hl15_4]); (with_reducible repeat (first | refine blk_drewN ?_ _ | refine blk_drew ?_ | refine blk_alloc ?_ _)); exact BK132.out⟩, ⟨by repeat (first | (with_reducible first | exact HB.out | apply below_alloc | apply pw_below_drewN | apply below_drew1 | refine below_set ?_ GE132.out) | exact HB.out)⟩⟩
                   ·rw [if_neg c33] at H
                    exact absurd H (by simp)
                  ·rw [if_neg c32] at H
                   exact absurd H (by simp)
                 ·rw [if_neg c31] at H
                  exact absurd H (by simp)
                ·rw [if_neg c30] at H
                 exact absurd H (by simp)
               ·rw [if_neg c29] at H
                exact absurd H (by simp)
              ·rw [if_neg c27] at H
               have c27b0 : decide (0 < (x7_3.length : Int)) = false := decide_eq_false c27
               (try simp only [hl15_1] at c27b0)
               (try simp only [hl15_2] at c27b0)
               (try simp only [hl15_3] at c27b0)
               have c27b1 : decide (0 < x7_3.length) = false := decide_eq_false (by omega)
               (try simp only [hl15_1] at c27b1)
               (try simp only [hl15_2] at c27b1)
               (try simp only [hl15_3] at c27b1)
               clear c27
               have H' := Aside0.mk H
               clear H
               obtain ⟨Ao47, co47, eo47⟩ := Kd.R_slice HO_7.out
               subst eo47
               go_wp2
               (try simp only [← hl15_2, ← hl15_3])
               go_roundg k3
               case measure => have := HK1.out; have := HK2.out; have := HK3.out; omega
               case rel => exact ⟨(x15_3), (wrap64 (x27_2 + 1)), (by first | rfl | (simp; done) | (simp [*]; done)), H', ⟨by have := HK1.out; have := HK2.out; have := HK3.out; omega⟩, ⟨by (try simp only [hl15_1]); (try simp only [hl15_2]); (try simp only [hl15_3]); (with_reducible repeat (first | apply Kd.S_alloc | apply Kd.S_drewN | apply Kd.S_drew)); exact Kd.S_mono HO_12.out (fun _ hk => hk.2)⟩, ⟨by (try simp only [hl15_1]); (try simp only [hl15_2]); (try simp only [hl15_3]); (with_reducible repeat (first | apply Kd.R_alloc | apply Kd.R_drewN | apply Kd.R_drew)); exact Kd.R_mono HO_15.out (fun _ hk => trivial)⟩, ⟨by (try simp only [hl15_1]); (try simp only [hl15_2]); (try simp only [hl15_3]); (with_reducible repeat (first | refine blk_drewN ?_ _ | refine blk_drew ?_ | refine blk_alloc ?_ _)); exact BK132.out⟩, ⟨by repeat (first | (with_reducible first | exact HB.out | apply below_alloc | apply pw_below_drewN | apply below_drew1 | refine below_set ?_ GE132.out) | exact HB.out)⟩⟩
          ·rw [if_neg c20] at H
           exact absurd H (by simp)
         ·rw [if_neg c19] at H
          exact absurd H (by simp)
        ·rw [if_neg c18] at H
         have c18b0 : decide (x27_2 < (x15_1.length : Int)) = false := decide_eq_false c18
         (try simp only [hl15_1] at c18b0)
         (try simp only [hl15_2] at c18b0)
         clear c18
         obtain rfl := Option.some.inj H
         go_wp2
         go_ret
         exact ⟨_, by first | rfl | (simp [errW_none, errW_some] <;> rfl) | (simp [*, errW_none, errW_some] <;> rfl), by (with_reducible repeat (first | apply Kd.R_alloc | apply Kd.R_drewN | apply Kd.R_drew)); exact HO_15.out, by repeat (first | (with_reducible first | exact HB.out | apply below_alloc | apply pw_below_drewN | apply below_drew1 | refine below_set ?_ GE132.out) | exact HB.out)⟩
  ·rw [if_neg c4] at H
   exact absurd H (by simp)
 ·rw [if_neg c3] at H
  exact absurd H (by simp)

end Go.Proofs.Ytnnknbghfbjcnaa.Print
