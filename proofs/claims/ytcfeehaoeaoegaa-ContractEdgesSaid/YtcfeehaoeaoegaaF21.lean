/- Written by a program of this claim's author (xprint.py, over the kit's print.py): the call of mapmaker/mapmakerref40.Find comes to what the Lean function of its name says. -/
import Derived.Test.YtcfeehaoeaoegaaPrint0
import Derived.Test.YtcfeehaoeaoegaaHKREdges
import Derived.Test.YtcfeehaoeaoegaaHXShort
namespace Go.Proofs.Ytcfeehaoeaoegaa.Print
open Go.RowKit Go.Proofs.YtcfeehaoeaoegaaW.PrintWords Go.Proofs.YtcfeehaoeaoegaaW.PrintLast Go.Proofs.YtcfeehaoeaoegaaW.PrintMore
attribute [local go_sem] max2_int min2_int max_two min_two max_three min_three max_four min_four   -- for this text's walks alone
set_option linter.unusedVariables false
set_option linter.unusedSimpArgs false

/-! ### mapmakerref40_Find: function 21 -/
def mapmakerref40_Find.l0 : Nat → Int → Int → Int → List (S38) → Option (Int × Bool)
 | 0, _, _, _, _ => none
 | k + 1, x2, x3, x11, x14 => if x11 < (x14.length : Int) then (if 0 ≤ x11 then (if ((rd_T38 x14 x11).f0) = x2 then (if ((rd_T38 x14 x11).f1) = x3 then (some (x11, true)) else (if ((rd_T38 x14 x11).f0) = x3 then (if ((rd_T38 x14 x11).f1) = x2 then (some (x11, true)) else (mapmakerref40_Find.l0 k x2 x3 (wrap64 (x11 + 1)) x14)) else (mapmakerref40_Find.l0 k x2 x3 (wrap64 (x11 + 1)) x14))) else (if ((rd_T38 x14 x11).f0) = x3 then (if ((rd_T38 x14 x11).f1) = x2 then (some (x11, true)) else (mapmakerref40_Find.l0 k x2 x3 (wrap64 (x11 + 1)) x14)) else (mapmakerref40_Find.l0 k x2 x3 (wrap64 (x11 + 1)) x14))) else (none)) else (some (0, false))
def mapmakerref40_Find.f (k : Nat) (a0_0 : Int) (l0_1 : List (S38)) (l1 : List Int) (a2 : Int) (a3 : Int) : Option (Int × Bool) := (mapmakerref40_Edges.f a0_0 l0_1 l1).bind fun t136 => (mapmakerref40_Find.l0 k a2 a3 0 t136)
theorem mapmakerref40_Find.mono_l : ∀ k, (∀ y0 y1 y2 y3, LeO (mapmakerref40_Find.l0 k y0 y1 y2 y3) (mapmakerref40_Find.l0 (k + 1) y0 y1 y2 y3))
 | 0 => fun _ _ _ _ r h => by simp [mapmakerref40_Find.l0] at h
 | k + 1 => by
  have ih0 := mapmakerref40_Find.mono_l k
  ·intro y0 y1 y2 y3
   unfold mapmakerref40_Find.l0
   repeat' first
   | (with_reducible exact ih0 _ _ _ _)
   | (with_reducible exact LeO.refl _)
   | (with_reducible exact LeO.none _)
   | (with_reducible refine LeO.ite ?_ ?_)
   | (with_reducible refine LeO.bind ?_ (fun _ => ?_))
   | exact ih0 _ _ _ _
   | exact LeO.none _
   | refine LeO.ite ?_ ?_
   | refine LeO.bind ?_ (fun _ => ?_)
theorem mapmakerref40_Find.mono : ∀ a0 a1 a2 a3 a4 k, LeO (mapmakerref40_Find.f k a0 a1 a2 a3 a4) (mapmakerref40_Find.f (k + 1) a0 a1 a2 a3 a4) := by
 intro a0 a1 a2 a3 a4 k; have ih0 := mapmakerref40_Find.mono_l k
 unfold mapmakerref40_Find.f
 repeat' first
   | (with_reducible exact ih0 _ _ _ _)
   | (with_reducible exact LeO.refl _)
   | (with_reducible exact LeO.none _)
   | (with_reducible refine LeO.ite ?_ ?_)
   | (with_reducible refine LeO.bind ?_ (fun _ => ?_))
   | exact ih0 _ _ _ _
   | exact LeO.none _
   | refine LeO.ite ?_ ?_
   | refine LeO.bind ?_ (fun _ => ?_)
set_option maxHeartbeats 8000000 in
set_option maxRecDepth 100000 in
theorem mapmakerref40_Find.calls (k : Nat) (a0_0 : Int) (A0_1 : Option Addr) (c0_1 : Nat) (l0_1 : List (S38)) (A1 : Option Addr) (c1 : Nat) (l1 : List Int) (a2 : Int) (a3 : Int) (r1 : Int) (r2 : Bool) (w : World) (hr0_1 : Kd.C k38 w A0_1 l0_1.length l0_1) (hc0_1 : l0_1.length ≤ c0_1) (hr1 : Kd.C (Kd.int .i64) w A1 l1.length l1) (hc1 : l1.length ≤ c1) (h : mapmakerref40_Find.f k a0_0 l0_1 l1 a2 a3 = some (r1, r2)) :
  Calls Try.prog 21 #[.agg #[.int .i64 a0_0, .slice A0_1 l0_1.length c0_1], .slice A1 l1.length c1, .int .i64 a2, .int .i64 a3] w fun e w' => e = .returned (.tuple #[.int .i64 r1, .bool r2]) ∧ Below w.heap.size w w' := by
 have hu24 := Try.underlying24; have HR0_1 := Aside0.mk hr0_1; have HC0_1 := Aside0.mk hc0_1; clear hr0_1 hc0_1; have HR1 := Aside0.mk hr1; have HC1 := Aside0.mk hc1; clear hr1 hc1; have HB := Aside0.mk (Below.refl w.heap.size w)
 have H : ((mapmakerref40_Edges.f a0_0 l0_1 l1).bind fun t136 => (mapmakerref40_Find.l0 k a2 a3 0 t136)) = some (r1, r2) := h
 clear h
 replace H := Option.bind_eq_some_iff.mp H
 obtain ⟨t136, A50, H⟩ := H
 replace H : (mapmakerref40_Find.l0 k a2 a3 0 t136) = some (r1, r2) := H
 have A5 := Aside0.mk A50; clear A50
 have H' := Aside0.mk H
 clear H
 go_enter Try.func21, Try.ntmps21
 go_wp2_with (first | ((with_reducible refine gate_dst (N := 4) rfl ?_); refine box_event ?hg (N := 4) ?hd (cs := #[.int .i64 a0_0, .slice A0_1 l0_1.length c0_1]) (t := 24) ?hr ?_; (case hd => rfl); (case hg => rfl); (case hr => first | (go_simp; done) | (go_simp; rfl)); intro gb135 hg w6 hbox hb; have n0_ := Aside0.mk (below_step (byB HB.out) hb); have n1_ := Aside0.mk (hbox); have n2_ := Aside0.mk ((by rw [hg]; exact (below_size (byB HB.out)) : w.heap.size ≤ gb135)); have n3_ := Aside0.mk ((by rw [hg]; exact (below_size (byB HB.out)) : w.heap.size ≤ gb135)); clear HB; have HB := n0_; have BK135 := n1_; have GW135 := n2_; have GE135 := n3_; clear n0_ n1_ n2_ n3_ hb hbox hg; have hcz7_0 : w6.cell? ⟨gb135, 0, none⟩ = some (.int .i64 a0_0) := (blk_cell BK135.out 0).trans rfl; have hcz7_1 : w6.cell? ⟨gb135, 1, none⟩ = some (.slice A0_1 l0_1.length c0_1) := (blk_cell BK135.out 1).trans rfl; have hfz7_0 := blk_frozen BK135.out 0; have hfz7_1 := blk_frozen BK135.out 1) | ((with_reducible refine gate_callee (f := 31) rfl ?_); refine goesL_ (some 14) rfl rfl Try.func31 (by kernel_rfl) rfl #[.agg #[.int .i64 a0_0, .slice A0_1 l0_1.length c0_1], .slice A1 l1.length c1] rfl byL ?_; (with_reducible refine (mapmakerref40_Edges.calls a0_0 _ _ l0_1 _ _ l1 t136 _ ?side1 ?side2 ?side3 ?side4 A5.out).mono ?_); (case side1 => exact byC (Kd.C_below HR0_1.out HB.out)); (case side2 => exact HC0_1.out); (case side3 => exact byC (Kd.C_below HR1.out HB.out)); (case side4 => exact HC1.out); rintro e w8 ⟨v137, rfl, ho0, hb⟩; refine ⟨_, rfl, ?_⟩; have n0_ := Aside0.mk (Kd.R_lower ho0 (below_size (byB1 HB.out GE135.out))); have n1_ := Aside0.mk (blk_below (g := gb135) (o := .cells #[.int .i64 a0_0, .slice A0_1 l0_1.length c0_1] 24 (0, 0)) (byK BK135.out) hb); have n2_ := Aside0.mk (below_step (byB1 HB.out GE135.out) hb); clear BK135 HB; have HO138 := n0_; have BK135 := n1_; have HB := n2_; clear n0_ n1_ n2_; (try clear hb); (try clear hb2); (try clear hk); (try clear hi); (try clear ho0)))
 go_loopg [11] k (fun kq v11 w' => ∃ (x11_1 : Int), v11 = .int .i64 x11_1 ∧ Aside0 (mapmakerref40_Find.l0 kq a2 a3 x11_1 t136 = some (r1, r2)) ∧ Aside0 (kq ≤ k) ∧ Aside0 (Kd.R k38 38 w' w.heap.size (fun _ => True) v137 t136) ∧ Aside0 (w'.heap[gb135]? = some (.cells #[.int .i64 a0_0, (.slice A0_1 l0_1.length c0_1)] 24 (0, 0))) ∧ Aside0 (Below w.heap.size w w'))
 case atStart => exact ⟨(0), (by first | rfl | (simp; done) | (simp [*]; done)), H', ⟨Nat.le_refl _⟩, ⟨by (with_reducible repeat (first | apply Kd.R_alloc | apply Kd.R_drewN | apply Kd.R_drew)); exact HO138.out⟩, ⟨by (with_reducible repeat (first | refine blk_drewN ?_ _ | refine blk_drew ?_ | refine blk_alloc ?_ _)); exact BK135.out⟩, ⟨by repeat (first | (with_reducible first | exact HB.out | apply below_alloc | apply pw_below_drewN | apply below_drew1 | refine below_set ?_ GE135.out) | exact HB.out)⟩⟩
 case round =>
  clear H'
  try clear c1
  try clear c2
  try clear p2
  try clear c3
  try clear hcz7_0
  try clear hcz7_1
  try clear hfz7_0
  try clear hfz7_1
  obtain ⟨x11_1, rfl, HA, HK1, HO_14, BK135, HB⟩ := hrel
  cases gk with
  | zero => exact absurd HA.out (by simp [mapmakerref40_Find.l0])
  | succ k1 =>
   have H := HA.out; clear HA
   simp only [mapmakerref40_Find.l0] at H
   by_cases c9 : x11_1 < (t136.length : Int)
   ·rw [if_pos c9] at H
    have c9b0 : decide (x11_1 < (t136.length : Int)) = true := decide_eq_true c9
    clear c9
    by_cases c10 : 0 ≤ x11_1
    ·rw [if_pos c10] at H
     have c10b0 : decide (0 ≤ x11_1) = true := decide_eq_true c10
     clear c10
     by_cases c11 : ((rd_T38 t136 x11_1).f0) = a2
     ·rw [if_pos c11] at H
      have c11b0 : (((rd_T38 t136 x11_1).f0) == a2) = true := beq_iff_eq.mpr c11
      have c11b1 : (((rd_T38 t136 x11_1).f0) != a2) = false := bne_eq_false_iff_eq.mpr c11
      clear c11
      by_cases c12 : ((rd_T38 t136 x11_1).f1) = a3
      ·rw [if_pos c12] at H
       have c12b0 : (((rd_T38 t136 x11_1).f1) == a3) = true := beq_iff_eq.mpr c12
       have c12b1 : (((rd_T38 t136 x11_1).f1) != a3) = false := bne_eq_false_iff_eq.mpr c12
       clear c12
       simp only [Option.some.injEq, Prod.mk.injEq] at H
       obtain ⟨rfl, rfl⟩ := H
       obtain ⟨Ao13, co13, eo13⟩ := Kd.R_slice HO_14.out
       subst eo13
       have p139 : 0 ≤ (x11_1 : Int) := of_decide_eq_true (by first | (with_reducible assumption) | assumption)
       have q139 : x11_1 < (t136.length : Int) := of_decide_eq_true (by first | (with_reducible assumption) | assumption)
       obtain ⟨ad139, e139, hx139_0, hx139_1⟩ := at_T38 (Kd.R_reads' HO_14.out).2.2 x11_1 p139 q139
       cases e139
       replace p139 := eq_true p139; replace q139 := eq_true q139
       have p140 : 0 ≤ (x11_1 : Int) := of_decide_eq_true (by first | (with_reducible assumption) | assumption)
       have q140 : x11_1 < (t136.length : Int) := of_decide_eq_true (by first | (with_reducible assumption) | assumption)
       obtain ⟨ad140, e140, hx140_0, hx140_1⟩ := at_T38 (Kd.R_reads' HO_14.out).2.2 x11_1 p140 q140
       obtain rfl : ad139 = ad140 := (by injection e140)
       replace p140 := eq_true p140; replace q140 := eq_true q140
       go_wp2
       go_ret2
       exact ⟨by first | rfl | (simp [errW_none, errW_some] <;> rfl) | (simp [*, errW_none, errW_some] <;> rfl), by repeat (first | (with_reducible first | exact HB.out | apply below_alloc | apply pw_below_drewN | apply below_drew1 | refine below_set ?_ GE135.out) | exact HB.out)⟩
      ·rw [if_neg c12] at H
       have c12b0 : (((rd_T38 t136 x11_1).f1) == a3) = false := beq_eq_false_iff_ne.mpr c12
       have c12b1 : (((rd_T38 t136 x11_1).f1) != a3) = true := bne_iff_ne.mpr c12
       by_cases c14 : ((rd_T38 t136 x11_1).f0) = a3
       ·rw [if_pos c14] at H
        have c14b0 : (((rd_T38 t136 x11_1).f0) == a3) = true := beq_iff_eq.mpr c14
        have c14b1 : (((rd_T38 t136 x11_1).f0) != a3) = false := bne_eq_false_iff_eq.mpr c14
        clear c14
        by_cases c15 : ((rd_T38 t136 x11_1).f1) = a2
        ·rw [if_pos c15] at H
         have c15b0 : (((rd_T38 t136 x11_1).f1) == a2) = true := beq_iff_eq.mpr c15
         have c15b1 : (((rd_T38 t136 x11_1).f1) != a2) = false := bne_eq_false_iff_eq.mpr c15
         clear c15
         simp only [Option.some.injEq, Prod.mk.injEq] at H
         obtain ⟨rfl, rfl⟩ := H
         obtain ⟨Ao16, co16, eo16⟩ := Kd.R_slice HO_14.out
         subst eo16
         have p139 : 0 ≤ (x11_1 : Int) := of_decide_eq_true (by first | (with_reducible assumption) | assumption)
         have q139 : x11_1 < (t136.length : Int) := of_decide_eq_true (by first | (with_reducible assumption) | assumption)
         obtain ⟨ad139, e139, hx139_0, hx139_1⟩ := at_T38 (Kd.R_reads' HO_14.out).2.2 x11_1 p139 q139
         cases e139
         replace p139 := eq_true p139; replace q139 := eq_true q139
         have p140 : 0 ≤ (x11_1 : Int) := of_decide_eq_true (by first | (with_reducible assumption) | assumption)
         have q140 : x11_1 < (t136.length : Int) := of_decide_eq_true (by first | (with_reducible assumption) | assumption)
         obtain ⟨ad140, e140, hx140_0, hx140_1⟩ := at_T38 (Kd.R_reads' HO_14.out).2.2 x11_1 p140 q140
         obtain rfl : ad139 = ad140 := (by injection e140)
         replace p140 := eq_true p140; replace q140 := eq_true q140
         have p141 : 0 ≤ (x11_1 : Int) := of_decide_eq_true (by first | (with_reducible assumption) | assumption)
         have q141 : x11_1 < (t136.length : Int) := of_decide_eq_true (by first | (with_reducible assumption) | assumption)
         obtain ⟨ad141, e141, hx141_0, hx141_1⟩ := at_T38 (Kd.R_reads' HO_14.out).2.2 x11_1 p141 q141
         obtain rfl : ad139 = ad141 := (by injection e141)
         replace p141 := eq_true p141; replace q141 := eq_true q141
         have p142 : 0 ≤ (x11_1 : Int) := of_decide_eq_true (by first | (with_reducible assumption) | assumption)
         have q142 : x11_1 < (t136.length : Int) := of_decide_eq_true (by first | (with_reducible assumption) | assumption)
         obtain ⟨ad142, e142, hx142_0, hx142_1⟩ := at_T38 (Kd.R_reads' HO_14.out).2.2 x11_1 p142 q142
         obtain rfl : ad139 = ad142 := (by injection e142)
         replace p142 := eq_true p142; replace q142 := eq_true q142
         go_wp2
         go_ret2
         exact ⟨by first | rfl | (simp [errW_none, errW_some] <;> rfl) | (simp [*, errW_none, errW_some] <;> rfl), by repeat (first | (with_reducible first | exact HB.out | apply below_alloc | apply pw_below_drewN | apply below_drew1 | refine below_set ?_ GE135.out) | exact HB.out)⟩
        ·rw [if_neg c15] at H
         have c15b0 : (((rd_T38 t136 x11_1).f1) == a2) = false := beq_eq_false_iff_ne.mpr c15
         have c15b1 : (((rd_T38 t136 x11_1).f1) != a2) = true := bne_iff_ne.mpr c15
         have H' := Aside0.mk H
         clear H
         obtain ⟨Ao17, co17, eo17⟩ := Kd.R_slice HO_14.out
         subst eo17
         have p139 : 0 ≤ (x11_1 : Int) := of_decide_eq_true (by first | (with_reducible assumption) | assumption)
         have q139 : x11_1 < (t136.length : Int) := of_decide_eq_true (by first | (with_reducible assumption) | assumption)
         obtain ⟨ad139, e139, hx139_0, hx139_1⟩ := at_T38 (Kd.R_reads' HO_14.out).2.2 x11_1 p139 q139
         cases e139
         replace p139 := eq_true p139; replace q139 := eq_true q139
         have p140 : 0 ≤ (x11_1 : Int) := of_decide_eq_true (by first | (with_reducible assumption) | assumption)
         have q140 : x11_1 < (t136.length : Int) := of_decide_eq_true (by first | (with_reducible assumption) | assumption)
         obtain ⟨ad140, e140, hx140_0, hx140_1⟩ := at_T38 (Kd.R_reads' HO_14.out).2.2 x11_1 p140 q140
         obtain rfl : ad139 = ad140 := (by injection e140)
         replace p140 := eq_true p140; replace q140 := eq_true q140
         have p141 : 0 ≤ (x11_1 : Int) := of_decide_eq_true (by first | (with_reducible assumption) | assumption)
         have q141 : x11_1 < (t136.length : Int) := of_decide_eq_true (by first | (with_reducible assumption) | assumption)
         obtain ⟨ad141, e141, hx141_0, hx141_1⟩ := at_T38 (Kd.R_reads' HO_14.out).2.2 x11_1 p141 q141
         obtain rfl : ad139 = ad141 := (by injection e141)
         replace p141 := eq_true p141; replace q141 := eq_true q141
         have p142 : 0 ≤ (x11_1 : Int) := of_decide_eq_true (by first | (with_reducible assumption) | assumption)
         have q142 : x11_1 < (t136.length : Int) := of_decide_eq_true (by first | (with_reducible assumption) | assumption)
         obtain ⟨ad142, e142, hx142_0, hx142_1⟩ := at_T38 (Kd.R_reads' HO_14.out).2.2 x11_1 p142 q142
         obtain rfl : ad139 = ad142 := (by injection e142)
         replace p142 := eq_true p142; replace q142 := eq_true q142
         go_wp2
         go_roundg k1
         case measure => have := HK1.out; omega
         case rel => exact ⟨(wrap64 (x11_1 + 1)), (by first | rfl | (simp; done) | (simp [*]; done)), H', ⟨by have := HK1.out; omega⟩, ⟨by (with_reducible repeat (first | apply Kd.R_alloc | apply Kd.R_drewN | apply Kd.R_drew)); exact HO_14.out⟩, ⟨by (with_reducible repeat (first | refine blk_drewN ?_ _ | refine blk_drew ?_ | refine blk_alloc ?_ _)); exact BK135.out⟩, ⟨by repeat (first | (with_reducible first | exact HB.out | apply below_alloc | apply pw_below_drewN | apply below_drew1 | refine below_set ?_ GE135.out) | exact HB.out)⟩⟩
       ·rw [if_neg c14] at H
        have c14b0 : (((rd_T38 t136 x11_1).f0) == a3) = false := beq_eq_false_iff_ne.mpr c14
        have c14b1 : (((rd_T38 t136 x11_1).f0) != a3) = true := bne_iff_ne.mpr c14
        have H' := Aside0.mk H
        clear H
        obtain ⟨Ao18, co18, eo18⟩ := Kd.R_slice HO_14.out
        subst eo18
        have p139 : 0 ≤ (x11_1 : Int) := of_decide_eq_true (by first | (with_reducible assumption) | assumption)
        have q139 : x11_1 < (t136.length : Int) := of_decide_eq_true (by first | (with_reducible assumption) | assumption)
        obtain ⟨ad139, e139, hx139_0, hx139_1⟩ := at_T38 (Kd.R_reads' HO_14.out).2.2 x11_1 p139 q139
        cases e139
        replace p139 := eq_true p139; replace q139 := eq_true q139
        have p140 : 0 ≤ (x11_1 : Int) := of_decide_eq_true (by first | (with_reducible assumption) | assumption)
        have q140 : x11_1 < (t136.length : Int) := of_decide_eq_true (by first | (with_reducible assumption) | assumption)
        obtain ⟨ad140, e140, hx140_0, hx140_1⟩ := at_T38 (Kd.R_reads' HO_14.out).2.2 x11_1 p140 q140
        obtain rfl : ad139 = ad140 := (by injection e140)
        replace p140 := eq_true p140; replace q140 := eq_true q140
        have p141 : 0 ≤ (x11_1 : Int) := of_decide_eq_true (by first | (with_reducible assumption) | assumption)
        have q141 : x11_1 < (t136.length : Int) := of_decide_eq_true (by first | (with_reducible assumption) | assumption)
        obtain ⟨ad141, e141, hx141_0, hx141_1⟩ := at_T38 (Kd.R_reads' HO_14.out).2.2 x11_1 p141 q141
        obtain rfl : ad139 = ad141 := (by injection e141)
        replace p141 := eq_true p141; replace q141 := eq_true q141
        go_wp2
        go_roundg k1
        case measure => have := HK1.out; omega
        case rel => exact ⟨(wrap64 (x11_1 + 1)), (by first | rfl | (simp; done) | (simp [*]; done)), H', ⟨by have := HK1.out; omega⟩, ⟨by (with_reducible repeat (first | apply Kd.R_alloc | apply Kd.R_drewN | apply Kd.R_drew)); exact HO_14.out⟩, ⟨by (with_reducible repeat (first | refine blk_drewN ?_ _ | refine blk_drew ?_ | refine blk_alloc ?_ _)); exact BK135.out⟩, ⟨by repeat (first | (with_reducible first | exact HB.out | apply below_alloc | apply pw_below_drewN | apply below_drew1 | refine below_set ?_ GE135.out) | exact HB.out)⟩⟩
     ·rw [if_neg c11] at H
      have c11b0 : (((rd_T38 t136 x11_1).f0) == a2) = false := beq_eq_false_iff_ne.mpr c11
      have c11b1 : (((rd_T38 t136 x11_1).f0) != a2) = true := bne_iff_ne.mpr c11
      by_cases c19 : ((rd_T38 t136 x11_1).f0) = a3
      ·rw [if_pos c19] at H
       have c19b0 : (((rd_T38 t136 x11_1).f0) == a3) = true := beq_iff_eq.mpr c19
       have c19b1 : (((rd_T38 t136 x11_1).f0) != a3) = false := bne_eq_false_iff_eq.mpr c19
       clear c19
       by_cases c20 : ((rd_T38 t136 x11_1).f1) = a2
       ·rw [if_pos c20] at H
        have c20b0 : (((rd_T38 t136 x11_1).f1) == a2) = true := beq_iff_eq.mpr c20
        have c20b1 : (((rd_T38 t136 x11_1).f1) != a2) = false := bne_eq_false_iff_eq.mpr c20
        clear c20
        simp only [Option.some.injEq, Prod.mk.injEq] at H
        obtain ⟨rfl, rfl⟩ := H
        obtain ⟨Ao21, co21, eo21⟩ := Kd.R_slice HO_14.out
        subst eo21
        have p139 : 0 ≤ (x11_1 : Int) := of_decide_eq_true (by first | (with_reducible assumption) | assumption)
        have q139 : x11_1 < (t136.length : Int) := of_decide_eq_true (by first | (with_reducible assumption) | assumption)
        obtain ⟨ad139, e139, hx139_0, hx139_1⟩ := at_T38 (Kd.R_reads' HO_14.out).2.2 x11_1 p139 q139
        cases e139
        replace p139 := eq_true p139; replace q139 := eq_true q139
        have p143 : 0 ≤ (x11_1 : Int) := of_decide_eq_true (by first | (with_reducible assumption) | assumption)
        have q143 : x11_1 < (t136.length : Int) := of_decide_eq_true (by first | (with_reducible assumption) | assumption)
        obtain ⟨ad143, e143, hx143_0, hx143_1⟩ := at_T38 (Kd.R_reads' HO_14.out).2.2 x11_1 p143 q143
        obtain rfl : ad139 = ad143 := (by injection e143)
        replace p143 := eq_true p143; replace q143 := eq_true q143
        have p144 : 0 ≤ (x11_1 : Int) := of_decide_eq_true (by first | (with_reducible assumption) | assumption)
        have q144 : x11_1 < (t136.length : Int) := of_decide_eq_true (by first | (with_reducible assumption) | assumption)
        obtain ⟨ad144, e144, hx144_0, hx144_1⟩ := at_T38 (Kd.R_reads' HO_14.out).2.2 x11_1 p144 q144
        obtain rfl : ad139 = ad144 := (by injection e144)
        replace p144 := eq_true p144; replace q144 := eq_true q144
        go_wp2
        go_ret2
        exact ⟨by first | rfl | (simp [errW_none, errW_some] <;> rfl) | (simp [*, errW_none, errW_some] <;> rfl), by repeat (first | (with_reducible first | exact HB.out | apply below_alloc | apply pw_below_drewN | apply below_drew1 | refine below_set ?_ GE135.out) | exact HB.out)⟩
       ·rw [if_neg c20] at H
        have c20b0 : (((rd_T38 t136 x11_1).f1) == a2) = false := beq_eq_false_iff_ne.mpr c20
        have c20b1 : (((rd_T38 t136 x11_1).f1) != a2) = true := bne_iff_ne.mpr c20
        have H' := Aside0.mk H
        clear H
        obtain ⟨Ao22, co22, eo22⟩ := Kd.R_slice HO_14.out
        subst eo22
        have p139 : 0 ≤ (x11_1 : Int) := of_decide_eq_true (by first | (with_reducible assumption) | assumption)
        have q139 : x11_1 < (t136.length : Int) := of_decide_eq_true (by first | (with_reducible assumption) | assumption)
        obtain ⟨ad139, e139, hx139_0, hx139_1⟩ := at_T38 (Kd.R_reads' HO_14.out).2.2 x11_1 p139 q139
        cases e139
        replace p139 := eq_true p139; replace q139 := eq_true q139
        have p143 : 0 ≤ (x11_1 : Int) := of_decide_eq_true (by first | (with_reducible assumption) | assumption)
        have q143 : x11_1 < (t136.length : Int) := of_decide_eq_true (by first | (with_reducible assumption) | assumption)
        obtain ⟨ad143, e143, hx143_0, hx143_1⟩ := at_T38 (Kd.R_reads' HO_14.out).2.2 x11_1 p143 q143
        obtain rfl : ad139 = ad143 := (by injection e143)
        replace p143 := eq_true p143; replace q143 := eq_true q143
        have p144 : 0 ≤ (x11_1 : Int) := of_decide_eq_true (by first | (with_reducible assumption) | assumption)
        have q144 : x11_1 < (t136.length : Int) := of_decide_eq_true (by first | (with_reducible assumption) | assumption)
        obtain ⟨ad144, e144, hx144_0, hx144_1⟩ := at_T38 (Kd.R_reads' HO_14.out).2.2 x11_1 p144 q144
        obtain rfl : ad139 = ad144 := (by injection e144)
        replace p144 := eq_true p144; replace q144 := eq_true q144
        go_wp2
        go_roundg k1
        case measure => have := HK1.out; omega
        case rel => exact ⟨(wrap64 (x11_1 + 1)), (by first | rfl | (simp; done) | (simp [*]; done)), H', ⟨by have := HK1.out; omega⟩, ⟨by (with_reducible repeat (first | apply Kd.R_alloc | apply Kd.R_drewN | apply Kd.R_drew)); exact HO_14.out⟩, ⟨by (with_reducible repeat (first | refine blk_drewN ?_ _ | refine blk_drew ?_ | refine blk_alloc ?_ _)); exact BK135.out⟩, ⟨by repeat (first | (with_reducible first | exact HB.out | apply below_alloc | apply pw_below_drewN | apply below_drew1 | refine below_set ?_ GE135.out) | exact HB.out)⟩⟩
      ·rw [if_neg c19] at H
       have c19b0 : (((rd_T38 t136 x11_1).f0) == a3) = false := beq_eq_false_iff_ne.mpr c19
       have c19b1 : (((rd_T38 t136 x11_1).f0) != a3) = true := bne_iff_ne.mpr c19
       have H' := Aside0.mk H
       clear H
       obtain ⟨Ao23, co23, eo23⟩ := Kd.R_slice HO_14.out
       subst eo23
       have p139 : 0 ≤ (x11_1 : Int) := of_decide_eq_true (by first | (with_reducible assumption) | assumption)
       have q139 : x11_1 < (t136.length : Int) := of_decide_eq_true (by first | (with_reducible assumption) | assumption)
       obtain ⟨ad139, e139, hx139_0, hx139_1⟩ := at_T38 (Kd.R_reads' HO_14.out).2.2 x11_1 p139 q139
       cases e139
       replace p139 := eq_true p139; replace q139 := eq_true q139
       have p143 : 0 ≤ (x11_1 : Int) := of_decide_eq_true (by first | (with_reducible assumption) | assumption)
       have q143 : x11_1 < (t136.length : Int) := of_decide_eq_true (by first | (with_reducible assumption) | assumption)
       obtain ⟨ad143, e143, hx143_0, hx143_1⟩ := at_T38 (Kd.R_reads' HO_14.out).2.2 x11_1 p143 q143
       obtain rfl : ad139 = ad143 := (by injection e143)
       replace p143 := eq_true p143; replace q143 := eq_true q143
       go_wp2
       go_roundg k1
       case measure => have := HK1.out; omega
       case rel => exact ⟨(wrap64 (x11_1 + 1)), (by first | rfl | (simp; done) | (simp [*]; done)), H', ⟨by have := HK1.out; omega⟩, ⟨by (with_reducible repeat (first | apply Kd.R_alloc | apply Kd.R_drewN | apply Kd.R_drew)); exact HO_14.out⟩, ⟨by (with_reducible repeat (first | refine blk_drewN ?_ _ | refine blk_drew ?_ | refine blk_alloc ?_ _)); exact BK135.out⟩, ⟨by repeat (first | (with_reducible first | exact HB.out | apply below_alloc | apply pw_below_drewN | apply below_drew1 | refine below_set ?_ GE135.out) | exact HB.out)⟩⟩
    ·rw [if_neg c10] at H
     exact absurd H (by simp)
   ·rw [if_neg c9] at H
    have c9b0 : decide (x11_1 < (t136.length : Int)) = false := decide_eq_false c9
    clear c9
    simp only [Option.some.injEq, Prod.mk.injEq] at H
    obtain ⟨rfl, rfl⟩ := H
    obtain ⟨Ao24, co24, eo24⟩ := Kd.R_slice HO_14.out
    subst eo24
    go_wp2
    go_ret2
    exact ⟨by first | rfl | (simp [errW_none, errW_some] <;> rfl) | (simp [*, errW_none, errW_some] <;> rfl), by repeat (first | (with_reducible first | exact HB.out | apply below_alloc | apply pw_below_drewN | apply below_drew1 | refine below_set ?_ GE135.out) | exact HB.out)⟩

end Go.Proofs.Ytcfeehaoeaoegaa.Print
