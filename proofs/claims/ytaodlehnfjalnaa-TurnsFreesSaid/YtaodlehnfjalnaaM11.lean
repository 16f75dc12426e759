/- Several texts of this claim in one: F61, F41. -/
import Derived.Test.YtaodlehnfjalnaaPrint0
import Derived.Test.YtaodlehnfjalnaaM0
namespace Go.Proofs.Ytaodlehnfjalnaa.Print
open Go.RowKit Go.Proofs.YtaodlehnfjalnaaW.PrintWords Go.Proofs.YtaodlehnfjalnaaW.PrintLast Go.Proofs.YtaodlehnfjalnaaW.PrintMore
attribute [local go_sem] max2_int min2_int max_two min_two max_three min_three max_four min_four   -- for this text's walks alone
set_option linter.unusedVariables false
set_option linter.unusedSimpArgs false
/-! ### mapmakerref37_Check: function 61 -/
mutual
def mapmakerref37_Check.j0 : Nat → Bool → Int → List (S92) → Option (Int)
 | 0, _, _, _ => none
 | k + 1, x18, x266000, x266001 => if x18 = true then (some 5) else (mapmakerref37_Check.l0 k 0 x266000 x266001)
def mapmakerref37_Check.l0 : Nat → Int → Int → List (S92) → Option (Int)
 | 0, _, _, _ => none
 | k + 1, x3, x266000, x266001 => if x3 < (x266001.length : Int) then (if 0 ≤ x3 then (if ((rd_T92 x266001 x3).f0) < 0 then (some 2) else (if ((rd_T92 x266001 x3).f0) ≥ x266000 then (some 2) else (if ((rd_T92 x266001 x3).f1) < 0 then (some 2) else (if ((rd_T92 x266001 x3).f1) ≥ x266000 then (some 2) else (mapmakerref37_Check.l0 k (wrap64 (x3 + 1)) x266000 x266001))))) else (none)) else (some 0)
end
def mapmakerref37_Check.f (k : Nat) (a0_0 : Int) (l0_1 : List (S92)) : Option (Int) := if a0_0 < 0 then (mapmakerref37_Check.j0 k true a0_0 l0_1) else (if a0_0 > 1048576 then (mapmakerref37_Check.j0 k true a0_0 l0_1) else (mapmakerref37_Check.j0 k (decide ((l0_1.length : Int) > 4194304)) a0_0 l0_1))
set_option maxHeartbeats 8000000 in
set_option maxRecDepth 100000 in
theorem mapmakerref37_Check.calls (k : Nat) (a0_0 : Int) (A0_1 : Option Addr) (c0_1 : Nat) (l0_1 : List (S92)) (r : Int) (w : World) (hr0_1 : Kd.C k92 w A0_1 l0_1.length l0_1) (hc0_1 : l0_1.length ≤ c0_1) (h : mapmakerref37_Check.f k a0_0 l0_1 = some r) :
  Calls Try.prog 61 #[.agg #[.int .i64 a0_0, .slice A0_1 l0_1.length c0_1]] w fun e w' => e = .returned (.int .i64 r) ∧ Below w.heap.size w w' := by
 have hu51 := Try.underlying51; have hu92 := Try.underlying92; have HR0_1 := Aside0.mk hr0_1; have HC0_1 := Aside0.mk hc0_1; clear hr0_1 hc0_1; have HB := Aside0.mk (Below.refl w.heap.size w)
 have H : (if a0_0 < 0 then (mapmakerref37_Check.j0 k true a0_0 l0_1) else (if a0_0 > 1048576 then (mapmakerref37_Check.j0 k true a0_0 l0_1) else (mapmakerref37_Check.j0 k (decide ((l0_1.length : Int) > 4194304)) a0_0 l0_1))) = some r := h
 clear h; have HC2 := Aside0.mk H; clear H
 go_enter Try.func61, Try.ntmps61
 go_upto_region 1 with (first | ((with_reducible refine gate_dst (N := 1) rfl ?_); (try (refine gate_guard (by rfl) ?_; dsimp only)); refine box_event ?hg (N := 1) ?hd (cs := #[.int .i64 a0_0, .slice A0_1 l0_1.length c0_1]) (t := 51) ?hr ?_; (case hd => rfl); (case hg => rfl); (case hr => first | (go_simp; done) | (go_simp; rfl)); intro gb265 hg w3 hbox hb; have n0_ := Aside0.mk (below_step (byB HB.out) hb); have n1_ := Aside0.mk (hbox); have n2_ := Aside0.mk ((by rw [hg]; exact (below_size (byB HB.out)) : w.heap.size ≤ gb265)); have n3_ := Aside0.mk ((by rw [hg]; exact (below_size (byB HB.out)) : w.heap.size ≤ gb265)); clear HB; have HB := n0_; have BK265 := n1_; have GW265 := n2_; have GE265 := n3_; clear n0_ n1_ n2_ n3_ hb hbox hg))
 (try simp only [Act.put, List.setIfInBounds_toArray, List.set_cons_zero, List.set_cons_succ])
 go_cut [18] (fun v18 wc => ∃ (kq : Nat) (x18_1 : Bool), v18 = .bool x18_1 ∧ Aside0 (mapmakerref37_Check.j0 kq x18_1 a0_0 l0_1 = some r) ∧ Aside0 (kq ≤ k) ∧ Aside0 (wc.heap[gb265]? = some (.cells #[.int .i64 a0_0, (.slice A0_1 l0_1.length c0_1)] 51 (0, 0))) ∧ Aside0 (Below w.heap.size w wc))
 case first =>
  have H := HC2.out; clear HC2
  by_cases c4 : a0_0 < 0
  ·rw [if_pos c4] at H
   have c4b0 : decide (a0_0 < 0) = true := decide_eq_true c4
   clear c4
   (first | rw [c4b0] | (simp only [i64_w, i32_w]; rw [c4b0]) | skip)
   have H' := Aside0.mk H
   clear H
   have hcz5_0 : w3.cell? ⟨gb265, 0, none⟩ = some (.int .i64 a0_0) := (blk_cell BK265.out 0).trans rfl
   have hcz5_1 : w3.cell? ⟨gb265, 1, none⟩ = some (.slice A0_1 l0_1.length c0_1) := (blk_cell BK265.out 1).trans rfl
   have hfz5_0 := blk_frozen BK265.out 0; have hfz5_1 := blk_frozen BK265.out 1
   go_wp2
   go_meet
   case rel => exact ⟨_, (true), byF, H', ⟨by first | omega | exact Nat.le_refl _⟩, ⟨by (with_reducible repeat (first | refine blk_drewN ?_ _ | refine blk_drew ?_ | refine blk_alloc ?_ _)); exact BK265.out⟩, ⟨byB1 HB.out GE265.out⟩⟩
  ·rw [if_neg c4] at H
   have c4b0 : decide (a0_0 < 0) = false := decide_eq_false c4
   clear c4
   (first | rw [c4b0] | (simp only [i64_w, i32_w]; rw [c4b0]) | skip)
   by_cases c6 : a0_0 > 1048576
   ·rw [if_pos c6] at H
    have c6b0 : decide (1048576 < a0_0) = true := decide_eq_true c6
    clear c6
    have H' := Aside0.mk H
    clear H
    have hcz7_0 : w3.cell? ⟨gb265, 0, none⟩ = some (.int .i64 a0_0) := (blk_cell BK265.out 0).trans rfl
    have hcz7_1 : w3.cell? ⟨gb265, 1, none⟩ = some (.slice A0_1 l0_1.length c0_1) := (blk_cell BK265.out 1).trans rfl
    have hfz7_0 := blk_frozen BK265.out 0; have hfz7_1 := blk_frozen BK265.out 1
    go_wp2
    go_meet
    case rel => exact ⟨_, (true), byF, H', ⟨by first | omega | exact Nat.le_refl _⟩, ⟨by (with_reducible repeat (first | refine blk_drewN ?_ _ | refine blk_drew ?_ | refine blk_alloc ?_ _)); exact BK265.out⟩, ⟨byB1 HB.out GE265.out⟩⟩
   ·rw [if_neg c6] at H
    have c6b0 : decide (1048576 < a0_0) = false := decide_eq_false c6
    clear c6
    have H' := Aside0.mk H
    clear H
    have hcz8_0 : w3.cell? ⟨gb265, 0, none⟩ = some (.int .i64 a0_0) := (blk_cell BK265.out 0).trans rfl
    have hcz8_1 : w3.cell? ⟨gb265, 1, none⟩ = some (.slice A0_1 l0_1.length c0_1) := (blk_cell BK265.out 1).trans rfl
    have hfz8_0 := blk_frozen BK265.out 0; have hfz8_1 := blk_frozen BK265.out 1
    go_wp2
    go_meet
    case rel => exact ⟨_, (decide ((l0_1.length : Int) > 4194304)), byF, H', ⟨by first | omega | exact Nat.le_refl _⟩, ⟨by (with_reducible repeat (first | refine blk_drewN ?_ _ | refine blk_drew ?_ | refine blk_alloc ?_ _)); exact BK265.out⟩, ⟨byB1 HB.out GE265.out⟩⟩
 case rest =>
  clear HC2
  try clear p2
  try clear c4
  try clear c4b0
  try clear c6
  try clear c6b0
  try clear hcz5_0
  try clear hcz5_1
  try clear hcz7_0
  try clear hcz7_1
  try clear hcz8_0
  try clear hcz8_1
  try clear hfz5_0
  try clear hfz5_1
  try clear hfz7_0
  try clear hfz7_1
  try clear hfz8_0
  try clear hfz8_1
  obtain ⟨kq, x18_1, rfl, HA, HJ1, BK265, HB⟩ := hcut
  cases kq with
  | zero => exact absurd HA.out (by simp [mapmakerref37_Check.j0])
  | succ kj1 =>
   have H := HA.out; clear HA
   simp only [mapmakerref37_Check.j0] at H
   by_cases c9 : x18_1 = true
   ·subst c9
    have H1 : (some 5) = some r := by rw [if_pos rfl] at H; exact H
    clear H; have H := H1; clear H1
    obtain rfl := Option.some.inj H
    go_wp2
    go_ret
    exact ⟨byE, byB1 HB.out GE265.out⟩
   ·replace c9 := Bool.eq_false_iff.mpr c9
    subst c9
    have H1 : (mapmakerref37_Check.l0 kj1 0 a0_0 l0_1) = some r := by rw [if_neg (show ¬ (false = true) by decide)] at H; exact H
    clear H; have H := H1; clear H1
    have H' := Aside0.mk H
    clear H
    go_wp2
    go_loopg [3] kj1 (fun kq v3 w' => ∃ (x3_2 : Int), v3 = .int .i64 x3_2 ∧ Aside0 (mapmakerref37_Check.l0 kq x3_2 a0_0 l0_1 = some r) ∧ Aside0 (kq ≤ kj1) ∧ Aside0 (w'.heap[gb265]? = some (.cells #[.int .i64 a0_0, (.slice A0_1 l0_1.length c0_1)] 51 (0, 0))) ∧ Aside0 (Below w.heap.size w w'))
    case atStart => exact ⟨(0), byF, H', ⟨Nat.le_refl _⟩, ⟨by (with_reducible repeat (first | refine blk_drewN ?_ _ | refine blk_drew ?_ | refine blk_alloc ?_ _)); exact BK265.out⟩, ⟨byB1 HB.out GE265.out⟩⟩
    case round =>
     clear H'
     try clear p2
     try clear c4
     try clear c4b0
     try clear c6
     try clear c6b0
     try clear c9
     try clear hcz5_0
     try clear hcz5_1
     try clear hcz7_0
     try clear hcz7_1
     try clear hcz8_0
     try clear hcz8_1
     try clear hfz5_0
     try clear hfz5_1
     try clear hfz7_0
     try clear hfz7_1
     try clear hfz8_0
     try clear hfz8_1
     try clear p2
     obtain ⟨x3_2, rfl, HA, HK2, BK265, HB⟩ := hrel
     cases gk with
     | zero => exact absurd HA.out (by simp [mapmakerref37_Check.l0])
     | succ k2 =>
      have H := HA.out; clear HA
      simp only [mapmakerref37_Check.l0] at H
      by_cases c10 : x3_2 < (l0_1.length : Int)
      ·rw [if_pos c10] at H
       have c10b0 : decide (x3_2 < (l0_1.length : Int)) = true := decide_eq_true c10
       clear c10
       by_cases c11 : 0 ≤ x3_2
       ·rw [if_pos c11] at H
        have c11b0 : decide (0 ≤ x3_2) = true := decide_eq_true c11
        clear c11
        by_cases c12 : ((rd_T92 l0_1 x3_2).f0) < 0
        ·rw [if_pos c12] at H
         have c12b0 : decide (((rd_T92 l0_1 x3_2).f0) < 0) = true := decide_eq_true c12
         clear c12
         obtain rfl := Option.some.inj H
         have hcz13_0 : wr.cell? ⟨gb265, 0, none⟩ = some (.int .i64 a0_0) := (blk_cell BK265.out 0).trans rfl
         have hcz13_1 : wr.cell? ⟨gb265, 1, none⟩ = some (.slice A0_1 l0_1.length c0_1) := (blk_cell BK265.out 1).trans rfl
         have hfz13_0 := blk_frozen BK265.out 0; have hfz13_1 := blk_frozen BK265.out 1
         have p266 : 0 ≤ (x3_2 : Int) := odt
         have q266 : x3_2 < (l0_1.length : Int) := odt
         obtain ⟨ad266, e266, hx266_0, hx266_1⟩ := at_T92 HR0_1.out x3_2 p266 q266
         cases e266
         replace hx266_0 := (HB.out.cell (World.block_lt_of_cell? w _ hx266_0)).trans hx266_0
         replace hx266_1 := (HB.out.cell (World.block_lt_of_cell? w _ hx266_1)).trans hx266_1
         replace p266 := eq_true p266; replace q266 := eq_true q266
         go_wp2_with (first | ((with_reducible refine gate_dst (N := 4) rfl ?_); (try (refine gate_guard (by rfl) ?_; dsimp only)); refine box_event ?hg (N := 4) ?hd (cs := #[.int .i64 0, .int .i64 0]) (t := 92) ?hr ?_; (case hd => rfl); (case hg => rfl); (case hr => first | (go_simp; done) | (go_simp; rfl)); intro gb267 hg w14 hbox hb; have n0_ := Aside0.mk (blk_below (g := gb265) (o := .cells #[.int .i64 a0_0, .slice (some ad266) l0_1.length c0_1] 51 (0, 0)) (byK BK265.out) hb); have n1_ := Aside0.mk (below_step (byB1 HB.out GE265.out) hb); have n2_ := Aside0.mk (hbox); have n3_ := Aside0.mk ((by rw [hg]; exact (below_size (byB1 HB.out GE265.out)) : w.heap.size ≤ gb267)); have n4_ := Aside0.mk ((by rw [hg]; exact (below_size (byB1 HB.out GE265.out)) : w.heap.size ≤ gb267)); have n5_ := Aside0.mk ((by rw [hg]; exact Nat.ne_of_lt (blk_lt (g := gb265) (o := .cells #[.int .i64 a0_0, .slice (some ad266) l0_1.length c0_1] 51 (0, 0)) (byK BK265.out)) : gb265 ≠ gb267)); have n6_ := Aside0.mk ((by rw [hg]; exact Nat.ne_of_gt (blk_lt (g := gb265) (o := .cells #[.int .i64 a0_0, .slice (some ad266) l0_1.length c0_1] 51 (0, 0)) (byK BK265.out)) : gb267 ≠ gb265)); clear BK265 HB; have BK265 := n0_; have HB := n1_; have BK267 := n2_; have GW267 := n3_; have GE267 := n4_; have NB265_267 := n5_; have NB267_265 := n6_; clear n0_ n1_ n2_ n3_ n4_ n5_ n6_ hb hbox hg; have hnb15 := NB267_265.out; have hnc15 := NB265_267.out; have hcz16_0 : w14.cell? ⟨gb267, 0, none⟩ = some (.int .i64 0) := (blk_cell BK267.out 0).trans rfl; have hcz16_1 : w14.cell? ⟨gb267, 1, none⟩ = some (.int .i64 0) := (blk_cell BK267.out 1).trans rfl; have hfz16_0 := blk_frozen BK267.out 0; have hfz16_1 := blk_frozen BK267.out 1))
         go_ret
         exact ⟨byE, byB2 HB.out GE265.out GE267.out⟩
        ·rw [if_neg c12] at H
         have c12b0 : decide (((rd_T92 l0_1 x3_2).f0) < 0) = false := decide_eq_false c12
         clear c12
         by_cases c17 : ((rd_T92 l0_1 x3_2).f0) ≥ a0_0
         ·rw [if_pos c17] at H
          have c17b0 : decide (a0_0 ≤ ((rd_T92 l0_1 x3_2).f0)) = true := decide_eq_true c17
          clear c17
          obtain rfl := Option.some.inj H
          have hcz18_0 : wr.cell? ⟨gb265, 0, none⟩ = some (.int .i64 a0_0) := (blk_cell BK265.out 0).trans rfl
          have hcz18_1 : wr.cell? ⟨gb265, 1, none⟩ = some (.slice A0_1 l0_1.length c0_1) := (blk_cell BK265.out 1).trans rfl
          have hfz18_0 := blk_frozen BK265.out 0; have hfz18_1 := blk_frozen BK265.out 1
          have p266 : 0 ≤ (x3_2 : Int) := odt
          have q266 : x3_2 < (l0_1.length : Int) := odt
          obtain ⟨ad266, e266, hx266_0, hx266_1⟩ := at_T92 HR0_1.out x3_2 p266 q266
          cases e266
          replace hx266_0 := (HB.out.cell (World.block_lt_of_cell? w _ hx266_0)).trans hx266_0
          replace hx266_1 := (HB.out.cell (World.block_lt_of_cell? w _ hx266_1)).trans hx266_1
          replace p266 := eq_true p266; replace q266 := eq_true q266
          go_wp2_with (first | ((with_reducible refine gate_dst (N := 4) rfl ?_); (try (refine gate_guard (by rfl) ?_; dsimp only)); refine box_event ?hg (N := 4) ?hd (cs := #[.int .i64 0, .int .i64 0]) (t := 92) ?hr ?_; (case hd => rfl); (case hg => rfl); (case hr => first | (go_simp; done) | (go_simp; rfl)); intro gb267 hg w19 hbox hb; have n0_ := Aside0.mk (blk_below (g := gb265) (o := .cells #[.int .i64 a0_0, .slice (some ad266) l0_1.length c0_1] 51 (0, 0)) (byK BK265.out) hb); have n1_ := Aside0.mk (below_step (byB1 HB.out GE265.out) hb); have n2_ := Aside0.mk (hbox); have n3_ := Aside0.mk ((by rw [hg]; exact (below_size (byB1 HB.out GE265.out)) : w.heap.size ≤ gb267)); have n4_ := Aside0.mk ((by rw [hg]; exact (below_size (byB1 HB.out GE265.out)) : w.heap.size ≤ gb267)); have n5_ := Aside0.mk ((by rw [hg]; exact Nat.ne_of_lt (blk_lt (g := gb265) (o := .cells #[.int .i64 a0_0, .slice (some ad266) l0_1.length c0_1] 51 (0, 0)) (byK BK265.out)) : gb265 ≠ gb267)); have n6_ := Aside0.mk ((by rw [hg]; exact Nat.ne_of_gt (blk_lt (g := gb265) (o := .cells #[.int .i64 a0_0, .slice (some ad266) l0_1.length c0_1] 51 (0, 0)) (byK BK265.out)) : gb267 ≠ gb265)); clear BK265 HB; have BK265 := n0_; have HB := n1_; have BK267 := n2_; have GW267 := n3_; have GE267 := n4_; have NB265_267 := n5_; have NB267_265 := n6_; clear n0_ n1_ n2_ n3_ n4_ n5_ n6_ hb hbox hg; have hnb20 := NB267_265.out; have hnc20 := NB265_267.out; have hcz21_0 : w19.cell? ⟨gb267, 0, none⟩ = some (.int .i64 0) := (blk_cell BK267.out 0).trans rfl; have hcz21_1 : w19.cell? ⟨gb267, 1, none⟩ = some (.int .i64 0) := (blk_cell BK267.out 1).trans rfl; have hfz21_0 := blk_frozen BK267.out 0; have hfz21_1 := blk_frozen BK267.out 1; have hcz22_0 : w19.cell? ⟨gb265, 0, none⟩ = some (.int .i64 a0_0) := (blk_cell BK265.out 0).trans rfl; have hcz22_1 : w19.cell? ⟨gb265, 1, none⟩ = some (.slice (some ad266) l0_1.length c0_1) := (blk_cell BK265.out 1).trans rfl; have hfz22_0 := blk_frozen BK265.out 0; have hfz22_1 := blk_frozen BK265.out 1))
          go_ret
          exact ⟨byE, byB2 HB.out GE265.out GE267.out⟩
         ·rw [if_neg c17] at H
          have c17b0 : decide (a0_0 ≤ ((rd_T92 l0_1 x3_2).f0)) = false := decide_eq_false c17
          clear c17
          by_cases c23 : ((rd_T92 l0_1 x3_2).f1) < 0
          ·rw [if_pos c23] at H
           have c23b0 : decide (((rd_T92 l0_1 x3_2).f1) < 0) = true := decide_eq_true c23
           clear c23
           obtain rfl := Option.some.inj H
           have hcz24_0 : wr.cell? ⟨gb265, 0, none⟩ = some (.int .i64 a0_0) := (blk_cell BK265.out 0).trans rfl
           have hcz24_1 : wr.cell? ⟨gb265, 1, none⟩ = some (.slice A0_1 l0_1.length c0_1) := (blk_cell BK265.out 1).trans rfl
           have hfz24_0 := blk_frozen BK265.out 0; have hfz24_1 := blk_frozen BK265.out 1
           have p266 : 0 ≤ (x3_2 : Int) := odt
           have q266 : x3_2 < (l0_1.length : Int) := odt
           obtain ⟨ad266, e266, hx266_0, hx266_1⟩ := at_T92 HR0_1.out x3_2 p266 q266
           cases e266
           replace hx266_0 := (HB.out.cell (World.block_lt_of_cell? w _ hx266_0)).trans hx266_0
           replace hx266_1 := (HB.out.cell (World.block_lt_of_cell? w _ hx266_1)).trans hx266_1
           replace p266 := eq_true p266; replace q266 := eq_true q266
           go_wp2_with (first | ((with_reducible refine gate_dst (N := 4) rfl ?_); (try (refine gate_guard (by rfl) ?_; dsimp only)); refine box_event ?hg (N := 4) ?hd (cs := #[.int .i64 0, .int .i64 0]) (t := 92) ?hr ?_; (case hd => rfl); (case hg => rfl); (case hr => first | (go_simp; done) | (go_simp; rfl)); intro gb267 hg w25 hbox hb; have n0_ := Aside0.mk (blk_below (g := gb265) (o := .cells #[.int .i64 a0_0, .slice (some ad266) l0_1.length c0_1] 51 (0, 0)) (byK BK265.out) hb); have n1_ := Aside0.mk (below_step (byB1 HB.out GE265.out) hb); have n2_ := Aside0.mk (hbox); have n3_ := Aside0.mk ((by rw [hg]; exact (below_size (byB1 HB.out GE265.out)) : w.heap.size ≤ gb267)); have n4_ := Aside0.mk ((by rw [hg]; exact (below_size (byB1 HB.out GE265.out)) : w.heap.size ≤ gb267)); have n5_ := Aside0.mk ((by rw [hg]; exact Nat.ne_of_lt (blk_lt (g := gb265) (o := .cells #[.int .i64 a0_0, .slice (some ad266) l0_1.length c0_1] 51 (0, 0)) (byK BK265.out)) : gb265 ≠ gb267)); have n6_ := Aside0.mk ((by rw [hg]; exact Nat.ne_of_gt (blk_lt (g := gb265) (o := .cells #[.int .i64 a0_0, .slice (some ad266) l0_1.length c0_1] 51 (0, 0)) (byK BK265.out)) : gb267 ≠ gb265)); clear BK265 HB; have BK265 := n0_; have HB := n1_; have BK267 := n2_; have GW267 := n3_; have GE267 := n4_; have NB265_267 := n5_; have NB267_265 := n6_; clear n0_ n1_ n2_ n3_ n4_ n5_ n6_ hb hbox hg; have hnb26 := NB267_265.out; have hnc26 := NB265_267.out; have hcz27_0 : w25.cell? ⟨gb267, 0, none⟩ = some (.int .i64 0) := (blk_cell BK267.out 0).trans rfl; have hcz27_1 : w25.cell? ⟨gb267, 1, none⟩ = some (.int .i64 0) := (blk_cell BK267.out 1).trans rfl; have hfz27_0 := blk_frozen BK267.out 0; have hfz27_1 := blk_frozen BK267.out 1; have hcz28_0 : w25.cell? ⟨gb265, 0, none⟩ = some (.int .i64 a0_0) := (blk_cell BK265.out 0).trans rfl; have hcz28_1 : w25.cell? ⟨gb265, 1, none⟩ = some (.slice (some ad266) l0_1.length c0_1) := (blk_cell BK265.out 1).trans rfl; have hfz28_0 := blk_frozen BK265.out 0; have hfz28_1 := blk_frozen BK265.out 1))
           go_ret
           exact ⟨byE, byB2 HB.out GE265.out GE267.out⟩
          ·rw [if_neg c23] at H
           have c23b0 : decide (((rd_T92 l0_1 x3_2).f1) < 0) = false := decide_eq_false c23
           clear c23
           by_cases c29 : ((rd_T92 l0_1 x3_2).f1) ≥ a0_0
           ·rw [if_pos c29] at H
            have c29b0 : decide (a0_0 ≤ ((rd_T92 l0_1 x3_2).f1)) = true := decide_eq_true c29
            clear c29
            obtain rfl := Option.some.inj H
            have hcz30_0 : wr.cell? ⟨gb265, 0, none⟩ = some (.int .i64 a0_0) := (blk_cell BK265.out 0).trans rfl
            have hcz30_1 : wr.cell? ⟨gb265, 1, none⟩ = some (.slice A0_1 l0_1.length c0_1) := (blk_cell BK265.out 1).trans rfl
            have hfz30_0 := blk_frozen BK265.out 0; have hfz30_1 := blk_frozen BK265.out 1
            have p266 : 0 ≤ (x3_2 : Int) := odt
            have q266 : x3_2 < (l0_1.length : Int) := odt
            obtain ⟨ad266, e266, hx266_0, hx266_1⟩ := at_T92 HR0_1.out x3_2 p266 q266
            cases e266
            replace hx266_0 := (HB.out.cell (World.block_lt_of_cell? w _ hx266_0)).trans hx266_0
            replace hx266_1 := (HB.out.cell (World.block_lt_of_cell? w _ hx266_1)).trans hx266_1
            replace p266 := eq_true p266; replace q266 := eq_true q266
            go_wp2_with (first | ((with_reducible refine gate_dst (N := 4) rfl ?_); (try (refine gate_guard (by rfl) ?_; dsimp only)); refine box_event ?hg (N := 4) ?hd (cs := #[.int .i64 0, .int .i64 0]) (t := 92) ?hr ?_; (case hd => rfl); (case hg => rfl); (case hr => first | (go_simp; done) | (go_simp; rfl)); intro gb267 hg w31 hbox hb; have n0_ := Aside0.mk (blk_below (g := gb265) (o := .cells #[.int .i64 a0_0, .slice (some ad266) l0_1.length c0_1] 51 (0, 0)) (byK BK265.out) hb); have n1_ := Aside0.mk (below_step (byB1 HB.out GE265.out) hb); have n2_ := Aside0.mk (hbox); have n3_ := Aside0.mk ((by rw [hg]; exact (below_size (byB1 HB.out GE265.out)) : w.heap.size ≤ gb267)); have n4_ := Aside0.mk ((by rw [hg]; exact (below_size (byB1 HB.out GE265.out)) : w.heap.size ≤ gb267)); have n5_ := Aside0.mk ((by rw [hg]; exact Nat.ne_of_lt (blk_lt (g := gb265) (o := .cells #[.int .i64 a0_0, .slice (some ad266) l0_1.length c0_1] 51 (0, 0)) (byK BK265.out)) : gb265 ≠ gb267)); have n6_ := Aside0.mk ((by rw [hg]; exact Nat.ne_of_gt (blk_lt (g := gb265) (o := .cells #[.int .i64 a0_0, .slice (some ad266) l0_1.length c0_1] 51 (0, 0)) (byK BK265.out)) : gb267 ≠ gb265)); clear BK265 HB; have BK265 := n0_; have HB := n1_; have BK267 := n2_; have GW267 := n3_; have GE267 := n4_; have NB265_267 := n5_; have NB267_265 := n6_; clear n0_ n1_ n2_ n3_ n4_ n5_ n6_ hb hbox hg; have hnb32 := NB267_265.out; have hnc32 := NB265_267.out; have hcz33_0 : w31.cell? ⟨gb267, 0, none⟩ = some (.int .i64 0) := (blk_cell BK267.out 0).trans rfl; have hcz33_1 : w31.cell? ⟨gb267, 1, none⟩ = some (.int .i64 0) := (blk_cell BK267.out 1).trans rfl; have hfz33_0 := blk_frozen BK267.out 0; have hfz33_1 := blk_frozen BK267.out 1; have hcz34_0 : w31.cell? ⟨gb265, 0, none⟩ = some (.int .i64 a0_0) := (blk_cell BK265.out 0).trans rfl; have hcz34_1 : w31.cell? ⟨gb265, 1, none⟩ = some (.slice (some ad266) l0_1.length c0_1) := (blk_cell BK265.out 1).trans rfl; have hfz34_0 := blk_frozen BK265.out 0; have hfz34_1 := blk_frozen BK265.out 1))
            go_ret
            exact ⟨byE, byB2 HB.out GE265.out GE267.out⟩
           ·rw [if_neg c29] at H
            have c29b0 : decide (a0_0 ≤ ((rd_T92 l0_1 x3_2).f1)) = false := decide_eq_false c29
            clear c29
            have H' := Aside0.mk H
            clear H
            have hcz35_0 : wr.cell? ⟨gb265, 0, none⟩ = some (.int .i64 a0_0) := (blk_cell BK265.out 0).trans rfl
            have hcz35_1 : wr.cell? ⟨gb265, 1, none⟩ = some (.slice A0_1 l0_1.length c0_1) := (blk_cell BK265.out 1).trans rfl
            have hfz35_0 := blk_frozen BK265.out 0; have hfz35_1 := blk_frozen BK265.out 1
            have p266 : 0 ≤ (x3_2 : Int) := odt
            have q266 : x3_2 < (l0_1.length : Int) := odt
            obtain ⟨ad266, e266, hx266_0, hx266_1⟩ := at_T92 HR0_1.out x3_2 p266 q266
            cases e266
            replace hx266_0 := (HB.out.cell (World.block_lt_of_cell? w _ hx266_0)).trans hx266_0
            replace hx266_1 := (HB.out.cell (World.block_lt_of_cell? w _ hx266_1)).trans hx266_1
            replace p266 := eq_true p266; replace q266 := eq_true q266
            go_wp2_with (first | ((with_reducible refine gate_dst (N := 4) rfl ?_); (try (refine gate_guard (by rfl) ?_; dsimp only)); refine box_event ?hg (N := 4) ?hd (cs := #[.int .i64 0, .int .i64 0]) (t := 92) ?hr ?_; (case hd => rfl); (case hg => rfl); (case hr => first | (go_simp; done) | (go_simp; rfl)); intro gb267 hg w36 hbox hb; have n0_ := Aside0.mk (blk_below (g := gb265) (o := .cells #[.int .i64 a0_0, .slice (some ad266) l0_1.length c0_1] 51 (0, 0)) (byK BK265.out) hb); have n1_ := Aside0.mk (below_step (byB1 HB.out GE265.out) hb); have n2_ := Aside0.mk (hbox); have n3_ := Aside0.mk ((by rw [hg]; exact (below_size (byB1 HB.out GE265.out)) : w.heap.size ≤ gb267)); have n4_ := Aside0.mk ((by rw [hg]; exact (below_size (byB1 HB.out GE265.out)) : w.heap.size ≤ gb267)); have n5_ := Aside0.mk ((by rw [hg]; exact Nat.ne_of_lt (blk_lt (g := gb265) (o := .cells #[.int .i64 a0_0, .slice (some ad266) l0_1.length c0_1] 51 (0, 0)) (byK BK265.out)) : gb265 ≠ gb267)); have n6_ := Aside0.mk ((by rw [hg]; exact Nat.ne_of_gt (blk_lt (g := gb265) (o := .cells #[.int .i64 a0_0, .slice (some ad266) l0_1.length c0_1] 51 (0, 0)) (byK BK265.out)) : gb267 ≠ gb265)); clear BK265 HB; have BK265 := n0_; have HB := n1_; have BK267 := n2_; have GW267 := n3_; have GE267 := n4_; have NB265_267 := n5_; have NB267_265 := n6_; clear n0_ n1_ n2_ n3_ n4_ n5_ n6_ hb hbox hg; have hnb37 := NB267_265.out; have hnc37 := NB265_267.out; have hcz38_0 : w36.cell? ⟨gb267, 0, none⟩ = some (.int .i64 0) := (blk_cell BK267.out 0).trans rfl; have hcz38_1 : w36.cell? ⟨gb267, 1, none⟩ = some (.int .i64 0) := (blk_cell BK267.out 1).trans rfl; have hfz38_0 := blk_frozen BK267.out 0; have hfz38_1 := blk_frozen BK267.out 1; have hcz39_0 : w36.cell? ⟨gb265, 0, none⟩ = some (.int .i64 a0_0) := (blk_cell BK265.out 0).trans rfl; have hcz39_1 : w36.cell? ⟨gb265, 1, none⟩ = some (.slice (some ad266) l0_1.length c0_1) := (blk_cell BK265.out 1).trans rfl; have hfz39_0 := blk_frozen BK265.out 0; have hfz39_1 := blk_frozen BK265.out 1))
            go_roundg k2
            case measure => have := HJ1.out; have := HK2.out; omega
            case rel => exact ⟨(wrap64 (x3_2 + 1)), byF, H', ⟨by have := HJ1.out; have := HK2.out; omega⟩, ⟨by (with_reducible repeat (first | refine blk_drewN ?_ _ | refine blk_drew ?_ | refine blk_alloc ?_ _)); refine blk_far ?_ NB265_267.out _; (with_reducible repeat (first | refine blk_drewN ?_ _ | refine blk_drew ?_ | refine blk_alloc ?_ _)); refine blk_far ?_ NB265_267.out _; (with_reducible repeat (first | refine blk_drewN ?_ _ | refine blk_drew ?_ | refine blk_alloc ?_ _)); exact BK265.out⟩, ⟨byB2 HB.out GE265.out GE267.out⟩⟩
       ·rw [if_neg c11] at H
        exact absurd H (by simp)
      ·rw [if_neg c10] at H
       have c10b0 : decide (x3_2 < (l0_1.length : Int)) = false := decide_eq_false c10
       clear c10
       obtain rfl := Option.some.inj H
       have hcz40_0 : wr.cell? ⟨gb265, 0, none⟩ = some (.int .i64 a0_0) := (blk_cell BK265.out 0).trans rfl
       have hcz40_1 : wr.cell? ⟨gb265, 1, none⟩ = some (.slice A0_1 l0_1.length c0_1) := (blk_cell BK265.out 1).trans rfl
       have hfz40_0 := blk_frozen BK265.out 0; have hfz40_1 := blk_frozen BK265.out 1
       go_wp2
       go_ret
       exact ⟨byE, byB1 HB.out GE265.out⟩
set_option linter.unusedVariables false
set_option linter.unusedSimpArgs false
/-! ### mapmakerref38_Check: function 41 -/
def mapmakerref38_Check.l0 : Nat → List Int → Int → Option (Int)
 | 0, _, _ => none
 | k + 1, x1, x6 => if x6 < (x1.length : Int) then (if 0 ≤ x6 then (if (rd x1 x6) < (-1) then (some 17) else (if (rd x1 x6) > 1073741824 then (some 17) else (mapmakerref38_Check.l0 k x1 (wrap64 (x6 + 1))))) else (none)) else (some 0)
def mapmakerref38_Check.f (k : Nat) (a0_0 : Int) (l0_1 : List (S92)) (l1 : List Int) : Option (Int) := (mapmakerref37_Check.f k a0_0 l0_1).bind fun t269 => (if t269 = 0 then (if (l1.length : Int) = (l0_1.length : Int) then (mapmakerref38_Check.l0 k l1 0) else (some 17)) else (some t269))
set_option maxHeartbeats 8000000 in
set_option maxRecDepth 100000 in
theorem mapmakerref38_Check.calls (k : Nat) (a0_0 : Int) (A0_1 : Option Addr) (c0_1 : Nat) (l0_1 : List (S92)) (A1 : Option Addr) (c1 : Nat) (l1 : List Int) (r : Int) (w : World) (hr0_1 : Kd.C k92 w A0_1 l0_1.length l0_1) (hc0_1 : l0_1.length ≤ c0_1) (hr1 : Kd.C (Kd.int .i64) w A1 l1.length l1) (hc1 : l1.length ≤ c1) (h : mapmakerref38_Check.f k a0_0 l0_1 l1 = some r) :
  Calls Try.prog 41 #[.agg #[.int .i64 a0_0, .slice A0_1 l0_1.length c0_1], .slice A1 l1.length c1] w fun e w' => e = .returned (.int .i64 r) ∧ Below w.heap.size w w' := by
 have hu51 := Try.underlying51; have HR0_1 := Aside0.mk hr0_1; have HC0_1 := Aside0.mk hc0_1; clear hr0_1 hc0_1; have HR1 := Aside0.mk hr1; have HC1 := Aside0.mk hc1; clear hr1 hc1; have HB := Aside0.mk (Below.refl w.heap.size w)
 have H : ((mapmakerref37_Check.f k a0_0 l0_1).bind fun t269 => (if t269 = 0 then (if (l1.length : Int) = (l0_1.length : Int) then (mapmakerref38_Check.l0 k l1 0) else (some 17)) else (some t269))) = some r := h
 clear h
 replace H := Option.bind_eq_some_iff.mp H
 obtain ⟨t269, A30, H⟩ := H
 replace H : (if t269 = 0 then (if (l1.length : Int) = (l0_1.length : Int) then (mapmakerref38_Check.l0 k l1 0) else (some 17)) else (some t269)) = some r := H
 have A3 := Aside0.mk A30; clear A30
 by_cases c4 : t269 = 0
 ·rw [if_pos c4] at H
  have c4b0 : (t269 == 0) = true := beq_iff_eq.mpr c4
  have c4b1 : (t269 != 0) = false := bne_eq_false_iff_eq.mpr c4
  clear c4
  by_cases c5 : (l1.length : Int) = (l0_1.length : Int)
  ·rw [if_pos c5] at H
   have c5b0 : ((l1.length : Int) == (l0_1.length : Int)) = true := beq_iff_eq.mpr c5
   have c5b1 : ((l1.length : Int) != (l0_1.length : Int)) = false := bne_eq_false_iff_eq.mpr c5
   have c5b2 : (l1.length == l0_1.length) = true := by first | simpa using c5 | (simp at c5 ⊢; omega)
   clear c5
   have H' := Aside0.mk H
   clear H
   go_enter Try.func41, Try.ntmps41
   go_wp2_with (first | ((with_reducible refine gate_dst (N := 2) rfl ?_); refine box_event ?hg (N := 2) ?hd (cs := #[.int .i64 a0_0, .slice A0_1 l0_1.length c0_1]) (t := 51) ?hr ?_; (case hd => rfl); (case hg => rfl); (case hr => first | (go_simp; done) | (go_simp; rfl)); intro gb268 hg w6 hbox hb; have n0_ := Aside0.mk (below_step (byB HB.out) hb); have n1_ := Aside0.mk (hbox); have n2_ := Aside0.mk ((by rw [hg]; exact (below_size (byB HB.out)) : w.heap.size ≤ gb268)); have n3_ := Aside0.mk ((by rw [hg]; exact (below_size (byB HB.out)) : w.heap.size ≤ gb268)); clear HB; have HB := n0_; have BK268 := n1_; have GW268 := n2_; have GE268 := n3_; clear n0_ n1_ n2_ n3_ hb hbox hg; have hcz7_0 : w6.cell? ⟨gb268, 0, none⟩ = some (.int .i64 a0_0) := (blk_cell BK268.out 0).trans rfl; have hcz7_1 : w6.cell? ⟨gb268, 1, none⟩ = some (.slice A0_1 l0_1.length c0_1) := (blk_cell BK268.out 1).trans rfl; have hfz7_0 := blk_frozen BK268.out 0; have hfz7_1 := blk_frozen BK268.out 1) | ((with_reducible refine gate_callee (f := 61) rfl ?_); refine goesL_ (some 8) rfl rfl Try.func61 (by kernel_rfl) rfl #[.agg #[.int .i64 a0_0, .slice A0_1 l0_1.length c0_1]] rfl byL ?_; (with_reducible refine (mapmakerref37_Check.calls k a0_0 _ _ l0_1 t269 _ ?side1 ?side2 A3.out).mono ?_); (case side1 => exact byC (Kd.C_below HR0_1.out HB.out)); (case side2 => exact HC0_1.out); rintro e w8 ⟨rfl, hb⟩; refine ⟨_, rfl, ?_⟩; have n0_ := Aside0.mk (blk_below (g := gb268) (o := .cells #[.int .i64 a0_0, .slice A0_1 l0_1.length c0_1] 51 (0, 0)) (byK BK268.out) hb); have n1_ := Aside0.mk (below_step (byB1 HB.out GE268.out) hb); clear BK268 HB; have BK268 := n0_; have HB := n1_; clear n0_ n1_; (try clear hb); (try clear hb2); (try clear hk); (try clear hi); have hcz9_0 : w8.cell? ⟨gb268, 0, none⟩ = some (.int .i64 a0_0) := (blk_cell BK268.out 0).trans rfl; have hcz9_1 : w8.cell? ⟨gb268, 1, none⟩ = some (.slice A0_1 l0_1.length c0_1) := (blk_cell BK268.out 1).trans rfl; have hfz9_0 := blk_frozen BK268.out 0; have hfz9_1 := blk_frozen BK268.out 1))
   go_loopg [6] k (fun kq v6 w' => ∃ (x6_1 : Int), v6 = .int .i64 x6_1 ∧ Aside0 (mapmakerref38_Check.l0 kq l1 x6_1 = some r) ∧ Aside0 (kq ≤ k) ∧ Aside0 (w'.heap[gb268]? = some (.cells #[.int .i64 a0_0, (.slice A0_1 l0_1.length c0_1)] 51 (0, 0))) ∧ Aside0 (Below w.heap.size w w'))
   case atStart => exact ⟨(0), byF, H', ⟨Nat.le_refl _⟩, ⟨by (with_reducible repeat (first | refine blk_drewN ?_ _ | refine blk_drew ?_ | refine blk_alloc ?_ _)); exact BK268.out⟩, ⟨byB1 HB.out GE268.out⟩⟩
   case round =>
    clear H'
    try clear c1
    try clear p2
    try clear c4
    try clear c4b0
    try clear c4b1
    try clear c5
    try clear c5b0
    try clear c5b1
    try clear c5b2
    try clear c6
    try clear hcz7_0
    try clear hcz7_1
    try clear hcz9_0
    try clear hcz9_1
    try clear hfz7_0
    try clear hfz7_1
    try clear hfz9_0
    try clear hfz9_1
    obtain ⟨x6_1, rfl, HA, HK1, BK268, HB⟩ := hrel
    cases gk with
    | zero => exact absurd HA.out (by simp [mapmakerref38_Check.l0])
    | succ k1 =>
     have H := HA.out; clear HA
     simp only [mapmakerref38_Check.l0] at H
     by_cases c10 : x6_1 < (l1.length : Int)
     ·rw [if_pos c10] at H
      have c10b0 : decide (x6_1 < (l1.length : Int)) = true := decide_eq_true c10
      clear c10
      by_cases c11 : 0 ≤ x6_1
      ·rw [if_pos c11] at H
       have c11b0 : decide (0 ≤ x6_1) = true := decide_eq_true c11
       clear c11
       by_cases c12 : (rd l1 x6_1) < (-1)
       ·rw [if_pos c12] at H
        have c12b0 : decide ((rd l1 x6_1) < (-1)) = true := decide_eq_true c12
        clear c12
        obtain rfl := Option.some.inj H
        have p270 : 0 ≤ (x6_1 : Int) := odt
        have q270 : x6_1 < (l1.length : Int) := odt
        obtain ⟨ad270, e270, hx270_0⟩ := Kd.at_int HR1.out x6_1 p270 q270
        cases e270
        replace hx270_0 := (HB.out.cell (World.block_lt_of_cell? w _ hx270_0)).trans hx270_0
        replace p270 := eq_true p270; replace q270 := eq_true q270
        go_wp2
        go_ret
        exact ⟨byE, byB1 HB.out GE268.out⟩
       ·rw [if_neg c12] at H
        have c12b0 : decide ((rd l1 x6_1) < (-1)) = false := decide_eq_false c12
        clear c12
        by_cases c13 : (rd l1 x6_1) > 1073741824
        ·rw [if_pos c13] at H
         have c13b0 : decide (1073741824 < (rd l1 x6_1)) = true := decide_eq_true c13
         clear c13
         obtain rfl := Option.some.inj H
         have p270 : 0 ≤ (x6_1 : Int) := odt
         have q270 : x6_1 < (l1.length : Int) := odt
         obtain ⟨ad270, e270, hx270_0⟩ := Kd.at_int HR1.out x6_1 p270 q270
         cases e270
         replace hx270_0 := (HB.out.cell (World.block_lt_of_cell? w _ hx270_0)).trans hx270_0
         replace p270 := eq_true p270; replace q270 := eq_true q270
         have p271 : 0 ≤ (x6_1 : Int) := odt
         have q271 : x6_1 < (l1.length : Int) := odt
         obtain ⟨ad271, e271, hx271_0⟩ := Kd.at_int HR1.out x6_1 p271 q271
         obtain rfl : ad270 = ad271 := (by injection e271)
         replace hx271_0 := (HB.out.cell (World.block_lt_of_cell? w _ hx271_0)).trans hx271_0
         replace p271 := eq_true p271; replace q271 := eq_true q271
         go_wp2
         go_ret
         exact ⟨byE, byB1 HB.out GE268.out⟩
        ·rw [if_neg c13] at H
         have c13b0 : decide (1073741824 < (rd l1 x6_1)) = false := decide_eq_false c13
         clear c13
         have H' := Aside0.mk H
         clear H
         have p270 : 0 ≤ (x6_1 : Int) := odt
         have q270 : x6_1 < (l1.length : Int) := odt
         obtain ⟨ad270, e270, hx270_0⟩ := Kd.at_int HR1.out x6_1 p270 q270
         cases e270
         replace hx270_0 := (HB.out.cell (World.block_lt_of_cell? w _ hx270_0)).trans hx270_0
         replace p270 := eq_true p270; replace q270 := eq_true q270
         have p271 : 0 ≤ (x6_1 : Int) := odt
         have q271 : x6_1 < (l1.length : Int) := odt
         obtain ⟨ad271, e271, hx271_0⟩ := Kd.at_int HR1.out x6_1 p271 q271
         obtain rfl : ad270 = ad271 := (by injection e271)
         replace hx271_0 := (HB.out.cell (World.block_lt_of_cell? w _ hx271_0)).trans hx271_0
         replace p271 := eq_true p271; replace q271 := eq_true q271
         go_wp2
         go_roundg k1
         case measure => have := HK1.out; omega
         case rel => exact ⟨(wrap64 (x6_1 + 1)), byF, H', ⟨by have := HK1.out; omega⟩, ⟨by (with_reducible repeat (first | refine blk_drewN ?_ _ | refine blk_drew ?_ | refine blk_alloc ?_ _)); exact BK268.out⟩, ⟨byB1 HB.out GE268.out⟩⟩
      ·rw [if_neg c11] at H
       exact absurd H (by simp)
     ·rw [if_neg c10] at H
      have c10b0 : decide (x6_1 < (l1.length : Int)) = false := decide_eq_false c10
      clear c10
      obtain rfl := Option.some.inj H
      go_wp2
      go_ret
      exact ⟨byE, byB1 HB.out GE268.out⟩
  ·rw [if_neg c5] at H
   have c5b0 : ((l1.length : Int) == (l0_1.length : Int)) = false := beq_eq_false_iff_ne.mpr c5
   have c5b1 : ((l1.length : Int) != (l0_1.length : Int)) = true := bne_iff_ne.mpr c5
   have c5b2 : (l1.length == l0_1.length) = false := by first | simpa using c5 | (simp at c5 ⊢; omega)
   obtain rfl := Option.some.inj H
   go_enter Try.func41, Try.ntmps41
   go_wp2_with (first | ((with_reducible refine gate_dst (N := 2) rfl ?_); refine box_event ?hg (N := 2) ?hd (cs := #[.int .i64 a0_0, .slice A0_1 l0_1.length c0_1]) (t := 51) ?hr ?_; (case hd => rfl); (case hg => rfl); (case hr => first | (go_simp; done) | (go_simp; rfl)); intro gb268 hg w14 hbox hb; have n0_ := Aside0.mk (below_step (byB HB.out) hb); have n1_ := Aside0.mk (hbox); have n2_ := Aside0.mk ((by rw [hg]; exact (below_size (byB HB.out)) : w.heap.size ≤ gb268)); have n3_ := Aside0.mk ((by rw [hg]; exact (below_size (byB HB.out)) : w.heap.size ≤ gb268)); clear HB; have HB := n0_; have BK268 := n1_; have GW268 := n2_; have GE268 := n3_; clear n0_ n1_ n2_ n3_ hb hbox hg; have hcz15_0 : w14.cell? ⟨gb268, 0, none⟩ = some (.int .i64 a0_0) := (blk_cell BK268.out 0).trans rfl; have hcz15_1 : w14.cell? ⟨gb268, 1, none⟩ = some (.slice A0_1 l0_1.length c0_1) := (blk_cell BK268.out 1).trans rfl; have hfz15_0 := blk_frozen BK268.out 0; have hfz15_1 := blk_frozen BK268.out 1) | ((with_reducible refine gate_callee (f := 61) rfl ?_); refine goesL_ (some 8) rfl rfl Try.func61 (by kernel_rfl) rfl #[.agg #[.int .i64 a0_0, .slice A0_1 l0_1.length c0_1]] rfl byL ?_; (with_reducible refine (mapmakerref37_Check.calls k a0_0 _ _ l0_1 t269 _ ?side1 ?side2 A3.out).mono ?_); (case side1 => exact byC (Kd.C_below HR0_1.out HB.out)); (case side2 => exact HC0_1.out); rintro e w16 ⟨rfl, hb⟩; refine ⟨_, rfl, ?_⟩; have n0_ := Aside0.mk (blk_below (g := gb268) (o := .cells #[.int .i64 a0_0, .slice A0_1 l0_1.length c0_1] 51 (0, 0)) (byK BK268.out) hb); have n1_ := Aside0.mk (below_step (byB1 HB.out GE268.out) hb); clear BK268 HB; have BK268 := n0_; have HB := n1_; clear n0_ n1_; (try clear hb); (try clear hb2); (try clear hk); (try clear hi); have hcz17_0 : w16.cell? ⟨gb268, 0, none⟩ = some (.int .i64 a0_0) := (blk_cell BK268.out 0).trans rfl; have hcz17_1 : w16.cell? ⟨gb268, 1, none⟩ = some (.slice A0_1 l0_1.length c0_1) := (blk_cell BK268.out 1).trans rfl; have hfz17_0 := blk_frozen BK268.out 0; have hfz17_1 := blk_frozen BK268.out 1))
   go_ret
   exact ⟨byE, byB1 HB.out GE268.out⟩
 ·rw [if_neg c4] at H
  have c4b0 : (t269 == 0) = false := beq_eq_false_iff_ne.mpr c4
  have c4b1 : (t269 != 0) = true := bne_iff_ne.mpr c4
  obtain rfl := Option.some.inj H
  go_enter Try.func41, Try.ntmps41
  go_wp2_with (first | ((with_reducible refine gate_dst (N := 2) rfl ?_); refine box_event ?hg (N := 2) ?hd (cs := #[.int .i64 a0_0, .slice A0_1 l0_1.length c0_1]) (t := 51) ?hr ?_; (case hd => rfl); (case hg => rfl); (case hr => first | (go_simp; done) | (go_simp; rfl)); intro gb268 hg w18 hbox hb; have n0_ := Aside0.mk (below_step (byB HB.out) hb); have n1_ := Aside0.mk (hbox); have n2_ := Aside0.mk ((by rw [hg]; exact (below_size (byB HB.out)) : w.heap.size ≤ gb268)); have n3_ := Aside0.mk ((by rw [hg]; exact (below_size (byB HB.out)) : w.heap.size ≤ gb268)); clear HB; have HB := n0_; have BK268 := n1_; have GW268 := n2_; have GE268 := n3_; clear n0_ n1_ n2_ n3_ hb hbox hg; have hcz19_0 : w18.cell? ⟨gb268, 0, none⟩ = some (.int .i64 a0_0) := (blk_cell BK268.out 0).trans rfl; have hcz19_1 : w18.cell? ⟨gb268, 1, none⟩ = some (.slice A0_1 l0_1.length c0_1) := (blk_cell BK268.out 1).trans rfl; have hfz19_0 := blk_frozen BK268.out 0; have hfz19_1 := blk_frozen BK268.out 1) | ((with_reducible refine gate_callee (f := 61) rfl ?_); refine goesL_ (some 8) rfl rfl Try.func61 (by kernel_rfl) rfl #[.agg #[.int .i64 a0_0, .slice A0_1 l0_1.length c0_1]] rfl byL ?_; (with_reducible refine (mapmakerref37_Check.calls k a0_0 _ _ l0_1 t269 _ ?side1 ?side2 A3.out).mono ?_); (case side1 => exact byC (Kd.C_below HR0_1.out HB.out)); (case side2 => exact HC0_1.out); rintro e w20 ⟨rfl, hb⟩; refine ⟨_, rfl, ?_⟩; have n0_ := Aside0.mk (blk_below (g := gb268) (o := .cells #[.int .i64 a0_0, .slice A0_1 l0_1.length c0_1] 51 (0, 0)) (byK BK268.out) hb); have n1_ := Aside0.mk (below_step (byB1 HB.out GE268.out) hb); clear BK268 HB; have BK268 := n0_; have HB := n1_; clear n0_ n1_; (try clear hb); (try clear hb2); (try clear hk); (try clear hi)))
  go_ret
  exact ⟨byE, byB1 HB.out GE268.out⟩
end Go.Proofs.Ytaodlehnfjalnaa.Print
