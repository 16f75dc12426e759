/- Several texts of this claim in one: F30, HMRNew, HDDist, HMLoc. -/
import Derived.Test.YtfnophaiamkmpaaPrint0
import Derived.Test.YtfnophaiamkmpaaM3
import Derived.Test.YtfnophaiamkmpaaM1
import Derived.Test.YtfnophaiamkmpaaM20
namespace Go.Proofs.Ytfnophaiamkmpaa.Print
open Go.RowKit Go.Proofs.YtfnophaiamkmpaaW.PrintWords Go.Proofs.YtfnophaiamkmpaaW.PrintLast Go.Proofs.YtfnophaiamkmpaaW.PrintMore
attribute [local go_sem] max2_int min2_int max_two min_two max_three min_three max_four min_four   -- for this text's walks alone
set_option linter.unusedVariables false
set_option linter.unusedSimpArgs false
/-! ### mapmakerref38_Check: function 30 -/
def mapmakerref38_Check.l0 : Nat → List Int → Int → Option (Int)
 | 0, _, _ => none
 | k + 1, x1, x6 => if x6 < (x1.length : Int) then (if 0 ≤ x6 then (if (rd x1 x6) < (-1) then (some 17) else (if (rd x1 x6) > 1073741824 then (some 17) else (mapmakerref38_Check.l0 k x1 (wrap64 (x6 + 1))))) else (none)) else (some 0)
def mapmakerref38_Check.f (k : Nat) (a0_0 : Int) (l0_1 : List (S58)) (l1 : List Int) : Option (Int) := (mapmakerref37_Check.f k a0_0 l0_1).bind fun t105 => (if t105 = 0 then (if (l1.length : Int) = (l0_1.length : Int) then (mapmakerref38_Check.l0 k l1 0) else (some 17)) else (some t105))
set_option maxHeartbeats 8000000 in
set_option maxRecDepth 100000 in
theorem mapmakerref38_Check.calls (k : Nat) (a0_0 : Int) (A0_1 : Option Addr) (c0_1 : Nat) (l0_1 : List (S58)) (A1 : Option Addr) (c1 : Nat) (l1 : List Int) (r : Int) (w : World) (hr0_1 : Kd.C k58 w A0_1 l0_1.length l0_1) (hc0_1 : l0_1.length ≤ c0_1) (hr1 : Kd.C (Kd.int .i64) w A1 l1.length l1) (hc1 : l1.length ≤ c1) (h : mapmakerref38_Check.f k a0_0 l0_1 l1 = some r) :
  Calls Try.prog 30 #[.agg #[.int .i64 a0_0, .slice A0_1 l0_1.length c0_1], .slice A1 l1.length c1] w fun e w' => e = .returned (.int .i64 r) ∧ Below w.heap.size w w' := by
 have hu24 := Try.underlying24; have HR0_1 := Aside0.mk hr0_1; have HC0_1 := Aside0.mk hc0_1; clear hr0_1 hc0_1; have HR1 := Aside0.mk hr1; have HC1 := Aside0.mk hc1; clear hr1 hc1; have HB := Aside0.mk (Below.refl w.heap.size w)
 have H : ((mapmakerref37_Check.f k a0_0 l0_1).bind fun t105 => (if t105 = 0 then (if (l1.length : Int) = (l0_1.length : Int) then (mapmakerref38_Check.l0 k l1 0) else (some 17)) else (some t105))) = some r := h
 clear h
 replace H := Option.bind_eq_some_iff.mp H
 obtain ⟨t105, A30, H⟩ := H
 replace H : (if t105 = 0 then (if (l1.length : Int) = (l0_1.length : Int) then (mapmakerref38_Check.l0 k l1 0) else (some 17)) else (some t105)) = some r := H
 have A3 := Aside0.mk A30; clear A30
 by_cases c4 : t105 = 0
 ·rw [if_pos c4] at H
  have c4b0 : (t105 == 0) = true := beq_iff_eq.mpr c4
  have c4b1 : (t105 != 0) = false := bne_eq_false_iff_eq.mpr c4
  clear c4
  by_cases c5 : (l1.length : Int) = (l0_1.length : Int)
  ·rw [if_pos c5] at H
   have c5b0 : ((l1.length : Int) == (l0_1.length : Int)) = true := beq_iff_eq.mpr c5
   have c5b1 : ((l1.length : Int) != (l0_1.length : Int)) = false := bne_eq_false_iff_eq.mpr c5
   have c5b2 : (l1.length == l0_1.length) = true := by first | simpa using c5 | (simp at c5 ⊢; omega)
   clear c5
   have H' := Aside0.mk H
   clear H
   go_enter Try.func30, Try.ntmps30
   go_wp2_with (first | ((with_reducible refine gate_dst (N := 2) rfl ?_); refine box_event ?hg (N := 2) ?hd (cs := #[.int .i64 a0_0, .slice A0_1 l0_1.length c0_1]) (t := 24) ?hr ?_; (case hd => rfl); (case hg => rfl); (case hr => first | (go_simp; done) | (go_simp; rfl)); intro gb104 hg w6 hbox hb; have n0_ := Aside0.mk (below_step (byB HB.out) hb); have n1_ := Aside0.mk (hbox); have n2_ := Aside0.mk ((by rw [hg]; exact (below_size (byB HB.out)) : w.heap.size ≤ gb104)); have n3_ := Aside0.mk ((by rw [hg]; exact (below_size (byB HB.out)) : w.heap.size ≤ gb104)); clear HB; have HB := n0_; have BK104 := n1_; have GW104 := n2_; have GE104 := n3_; clear n0_ n1_ n2_ n3_ hb hbox hg; have hcz7_0 : w6.cell? ⟨gb104, 0, none⟩ = some (.int .i64 a0_0) := (blk_cell BK104.out 0).trans rfl; have hcz7_1 : w6.cell? ⟨gb104, 1, none⟩ = some (.slice A0_1 l0_1.length c0_1) := (blk_cell BK104.out 1).trans rfl; have hfz7_0 := blk_frozen BK104.out 0; have hfz7_1 := blk_frozen BK104.out 1) | ((with_reducible refine gate_callee (f := 64) rfl ?_); refine goesL_ (some 8) rfl rfl Try.func64 (by kernel_rfl) rfl #[.agg #[.int .i64 a0_0, .slice A0_1 l0_1.length c0_1]] rfl byL ?_; (with_reducible refine (mapmakerref37_Check.calls k a0_0 _ _ l0_1 t105 _ ?side1 ?side2 A3.out).mono ?_); (case side1 => exact byC (Kd.C_below HR0_1.out HB.out)); (case side2 => exact HC0_1.out); rintro e w8 ⟨rfl, hb⟩; refine ⟨_, rfl, ?_⟩; have n0_ := Aside0.mk (blk_below (g := gb104) (o := .cells #[.int .i64 a0_0, .slice A0_1 l0_1.length c0_1] 24 (0, 0)) (byK BK104.out) hb); have n1_ := Aside0.mk (below_step (byB1 HB.out GE104.out) hb); clear BK104 HB; have BK104 := n0_; have HB := n1_; clear n0_ n1_; (try clear hb); (try clear hb2); (try clear hk); (try clear hi); have hcz9_0 : w8.cell? ⟨gb104, 0, none⟩ = some (.int .i64 a0_0) := (blk_cell BK104.out 0).trans rfl; have hcz9_1 : w8.cell? ⟨gb104, 1, none⟩ = some (.slice A0_1 l0_1.length c0_1) := (blk_cell BK104.out 1).trans rfl; have hfz9_0 := blk_frozen BK104.out 0; have hfz9_1 := blk_frozen BK104.out 1))
   go_loopg [6] k (fun kq v6 w' => ∃ (x6_1 : Int), v6 = .int .i64 x6_1 ∧ Aside0 (mapmakerref38_Check.l0 kq l1 x6_1 = some r) ∧ Aside0 (kq ≤ k) ∧ Aside0 (w'.heap[gb104]? = some (.cells #[.int .i64 a0_0, (.slice A0_1 l0_1.length c0_1)] 24 (0, 0))) ∧ Aside0 (Below w.heap.size w w'))
   case atStart => exact ⟨(0), byF, H', ⟨Nat.le_refl _⟩, ⟨by (with_reducible repeat (first | refine blk_drewN ?_ _ | refine blk_drew ?_ | refine blk_alloc ?_ _)); exact BK104.out⟩, ⟨byB1 HB.out GE104.out⟩⟩
   case round =>
    clear H'
    try clear c1
    try clear p2
    try clear c3
    try clear c4
    try clear c4b0
    try clear c4b1
    try clear c5
    try clear c5b0
    try clear c5b1
    try clear c5b2
    try clear c6
    try clear hcz7_0
    try clear hcz7_1
    try clear hcz9_0
    try clear hcz9_1
    try clear hfz7_0
    try clear hfz7_1
    try clear hfz9_0
    try clear hfz9_1
    obtain ⟨x6_1, rfl, HA, HK1, BK104, HB⟩ := hrel
    cases gk with
    | zero => exact absurd HA.out (by simp [mapmakerref38_Check.l0])
    | succ k1 =>
     have H := HA.out; clear HA
     simp only [mapmakerref38_Check.l0] at H
     by_cases c10 : x6_1 < (l1.length : Int)
     ·rw [if_pos c10] at H
      have c10b0 : decide (x6_1 < (l1.length : Int)) = true := decide_eq_true c10
      clear c10
      by_cases c11 : 0 ≤ x6_1
      ·rw [if_pos c11] at H
       have c11b0 : decide (0 ≤ x6_1) = true := decide_eq_true c11
       clear c11
       by_cases c12 : (rd l1 x6_1) < (-1)
       ·rw [if_pos c12] at H
        have c12b0 : decide ((rd l1 x6_1) < (-1)) = true := decide_eq_true c12
        clear c12
        obtain rfl := Option.some.inj H
        have p106 : 0 ≤ (x6_1 : Int) := odt
        have q106 : x6_1 < (l1.length : Int) := odt
        obtain ⟨ad106, e106, hx106_0⟩ := Kd.at_int HR1.out x6_1 p106 q106
        cases e106
        replace hx106_0 := (HB.out.cell (World.block_lt_of_cell? w _ hx106_0)).trans hx106_0
        replace p106 := eq_true p106; replace q106 := eq_true q106
        go_wp2
        go_ret
        exact ⟨byE, byB1 HB.out GE104.out⟩
       ·rw [if_neg c12] at H
        have c12b0 : decide ((rd l1 x6_1) < (-1)) = false := decide_eq_false c12
        clear c12
        by_cases c13 : (rd l1 x6_1) > 1073741824
        ·rw [if_pos c13] at H
         have c13b0 : decide (1073741824 < (rd l1 x6_1)) = true := decide_eq_true c13
         clear c13
         obtain rfl := Option.some.inj H
         have p106 : 0 ≤ (x6_1 : Int) := odt
         have q106 : x6_1 < (l1.length : Int) := odt
         obtain ⟨ad106, e106, hx106_0⟩ := Kd.at_int HR1.out x6_1 p106 q106
         cases e106
         replace hx106_0 := (HB.out.cell (World.block_lt_of_cell? w _ hx106_0)).trans hx106_0
         replace p106 := eq_true p106; replace q106 := eq_true q106
         have p107 : 0 ≤ (x6_1 : Int) := odt
         have q107 : x6_1 < (l1.length : Int) := odt
         obtain ⟨ad107, e107, hx107_0⟩ := Kd.at_int HR1.out x6_1 p107 q107
         obtain rfl : ad106 = ad107 := (by injection e107)
         replace hx107_0 := (HB.out.cell (World.block_lt_of_cell? w _ hx107_0)).trans hx107_0
         replace p107 := eq_true p107; replace q107 := eq_true q107
         go_wp2
         go_ret
         exact ⟨byE, byB1 HB.out GE104.out⟩
        ·rw [if_neg c13] at H
         have c13b0 : decide (1073741824 < (rd l1 x6_1)) = false := decide_eq_false c13
         clear c13
         have H' := Aside0.mk H
         clear H
         have p106 : 0 ≤ (x6_1 : Int) := odt
         have q106 : x6_1 < (l1.length : Int) := odt
         obtain ⟨ad106, e106, hx106_0⟩ := Kd.at_int HR1.out x6_1 p106 q106
         cases e106
         replace hx106_0 := (HB.out.cell (World.block_lt_of_cell? w _ hx106_0)).trans hx106_0
         replace p106 := eq_true p106; replace q106 := eq_true q106
         have p107 : 0 ≤ (x6_1 : Int) := odt
         have q107 : x6_1 < (l1.length : Int) := odt
         obtain ⟨ad107, e107, hx107_0⟩ := Kd.at_int HR1.out x6_1 p107 q107
         obtain rfl : ad106 = ad107 := (by injection e107)
         replace hx107_0 := (HB.out.cell (World.block_lt_of_cell? w _ hx107_0)).trans hx107_0
         replace p107 := eq_true p107; replace q107 := eq_true q107
         go_wp2
         go_roundg k1
         case measure => have := HK1.out; omega
         case rel => exact ⟨(wrap64 (x6_1 + 1)), byF, H', ⟨by have := HK1.out; omega⟩, ⟨by (with_reducible repeat (first | refine blk_drewN ?_ _ | refine blk_drew ?_ | refine blk_alloc ?_ _)); exact BK104.out⟩, ⟨byB1 HB.out GE104.out⟩⟩
      ·rw [if_neg c11] at H
       exact absurd H (by simp)
     ·rw [if_neg c10] at H
      have c10b0 : decide (x6_1 < (l1.length : Int)) = false := decide_eq_false c10
      clear c10
      obtain rfl := Option.some.inj H
      go_wp2
      go_ret
      exact ⟨byE, byB1 HB.out GE104.out⟩
  ·rw [if_neg c5] at H
   have c5b0 : ((l1.length : Int) == (l0_1.length : Int)) = false := beq_eq_false_iff_ne.mpr c5
   have c5b1 : ((l1.length : Int) != (l0_1.length : Int)) = true := bne_iff_ne.mpr c5
   have c5b2 : (l1.length == l0_1.length) = false := by first | simpa using c5 | (simp at c5 ⊢; omega)
   obtain rfl := Option.some.inj H
   go_enter Try.func30, Try.ntmps30
   go_wp2_with (first | ((with_reducible refine gate_dst (N := 2) rfl ?_); refine box_event ?hg (N := 2) ?hd (cs := #[.int .i64 a0_0, .slice A0_1 l0_1.length c0_1]) (t := 24) ?hr ?_; (case hd => rfl); (case hg => rfl); (case hr => first | (go_simp; done) | (go_simp; rfl)); intro gb104 hg w14 hbox hb; have n0_ := Aside0.mk (below_step (byB HB.out) hb); have n1_ := Aside0.mk (hbox); have n2_ := Aside0.mk ((by rw [hg]; exact (below_size (byB HB.out)) : w.heap.size ≤ gb104)); have n3_ := Aside0.mk ((by rw [hg]; exact (below_size (byB HB.out)) : w.heap.size ≤ gb104)); clear HB; have HB := n0_; have BK104 := n1_; have GW104 := n2_; have GE104 := n3_; clear n0_ n1_ n2_ n3_ hb hbox hg; have hcz15_0 : w14.cell? ⟨gb104, 0, none⟩ = some (.int .i64 a0_0) := (blk_cell BK104.out 0).trans rfl; have hcz15_1 : w14.cell? ⟨gb104, 1, none⟩ = some (.slice A0_1 l0_1.length c0_1) := (blk_cell BK104.out 1).trans rfl; have hfz15_0 := blk_frozen BK104.out 0; have hfz15_1 := blk_frozen BK104.out 1) | ((with_reducible refine gate_callee (f := 64) rfl ?_); refine goesL_ (some 8) rfl rfl Try.func64 (by kernel_rfl) rfl #[.agg #[.int .i64 a0_0, .slice A0_1 l0_1.length c0_1]] rfl byL ?_; (with_reducible refine (mapmakerref37_Check.calls k a0_0 _ _ l0_1 t105 _ ?side1 ?side2 A3.out).mono ?_); (case side1 => exact byC (Kd.C_below HR0_1.out HB.out)); (case side2 => exact HC0_1.out); rintro e w16 ⟨rfl, hb⟩; refine ⟨_, rfl, ?_⟩; have n0_ := Aside0.mk (blk_below (g := gb104) (o := .cells #[.int .i64 a0_0, .slice A0_1 l0_1.length c0_1] 24 (0, 0)) (byK BK104.out) hb); have n1_ := Aside0.mk (below_step (byB1 HB.out GE104.out) hb); clear BK104 HB; have BK104 := n0_; have HB := n1_; clear n0_ n1_; (try clear hb); (try clear hb2); (try clear hk); (try clear hi); have hcz17_0 : w16.cell? ⟨gb104, 0, none⟩ = some (.int .i64 a0_0) := (blk_cell BK104.out 0).trans rfl; have hcz17_1 : w16.cell? ⟨gb104, 1, none⟩ = some (.slice A0_1 l0_1.length c0_1) := (blk_cell BK104.out 1).trans rfl; have hfz17_0 := blk_frozen BK104.out 0; have hfz17_1 := blk_frozen BK104.out 1))
   go_ret
   exact ⟨byE, byB1 HB.out GE104.out⟩
 ·rw [if_neg c4] at H
  have c4b0 : (t105 == 0) = false := beq_eq_false_iff_ne.mpr c4
  have c4b1 : (t105 != 0) = true := bne_iff_ne.mpr c4
  obtain rfl := Option.some.inj H
  go_enter Try.func30, Try.ntmps30
  go_wp2_with (first | ((with_reducible refine gate_dst (N := 2) rfl ?_); refine box_event ?hg (N := 2) ?hd (cs := #[.int .i64 a0_0, .slice A0_1 l0_1.length c0_1]) (t := 24) ?hr ?_; (case hd => rfl); (case hg => rfl); (case hr => first | (go_simp; done) | (go_simp; rfl)); intro gb104 hg w18 hbox hb; have n0_ := Aside0.mk (below_step (byB HB.out) hb); have n1_ := Aside0.mk (hbox); have n2_ := Aside0.mk ((by rw [hg]; exact (below_size (byB HB.out)) : w.heap.size ≤ gb104)); have n3_ := Aside0.mk ((by rw [hg]; exact (below_size (byB HB.out)) : w.heap.size ≤ gb104)); clear HB; have HB := n0_; have BK104 := n1_; have GW104 := n2_; have GE104 := n3_; clear n0_ n1_ n2_ n3_ hb hbox hg; have hcz19_0 : w18.cell? ⟨gb104, 0, none⟩ = some (.int .i64 a0_0) := (blk_cell BK104.out 0).trans rfl; have hcz19_1 : w18.cell? ⟨gb104, 1, none⟩ = some (.slice A0_1 l0_1.length c0_1) := (blk_cell BK104.out 1).trans rfl; have hfz19_0 := blk_frozen BK104.out 0; have hfz19_1 := blk_frozen BK104.out 1) | ((with_reducible refine gate_callee (f := 64) rfl ?_); refine goesL_ (some 8) rfl rfl Try.func64 (by kernel_rfl) rfl #[.agg #[.int .i64 a0_0, .slice A0_1 l0_1.length c0_1]] rfl byL ?_; (with_reducible refine (mapmakerref37_Check.calls k a0_0 _ _ l0_1 t105 _ ?side1 ?side2 A3.out).mono ?_); (case side1 => exact byC (Kd.C_below HR0_1.out HB.out)); (case side2 => exact HC0_1.out); rintro e w20 ⟨rfl, hb⟩; refine ⟨_, rfl, ?_⟩; have n0_ := Aside0.mk (blk_below (g := gb104) (o := .cells #[.int .i64 a0_0, .slice A0_1 l0_1.length c0_1] 24 (0, 0)) (byK BK104.out) hb); have n1_ := Aside0.mk (below_step (byB1 HB.out GE104.out) hb); clear BK104 HB; have BK104 := n0_; have HB := n1_; clear n0_ n1_; (try clear hb); (try clear hb2); (try clear hk); (try clear hi)))
  go_ret
  exact ⟨byE, byB1 HB.out GE104.out⟩
end Go.Proofs.Ytfnophaiamkmpaa.Print
namespace Go.Proofs.Ytfnophaiamkmpaa.Print
open Go.RowKit Go.Proofs.YtfnophaiamkmpaaW.PrintWords Go.Proofs.YtfnophaiamkmpaaW.PrintLast Go.Proofs.YtfnophaiamkmpaaW.PrintMore
set_option linter.unusedVariables false
set_option linter.unusedSimpArgs false
theorem refchk_l0 (w : List Int) (hs : w.length ≤ 1000000000) : ∀ d j : Nat, j + d = w.length → Ev (fun k => mapmakerref38_Check.l0 k w (j : Int)) (if ((w.drop j).findIdx? oddW).isSome = true then 17 else 0)
 | 0, j, h => by
  refine Ev.step1 fun k => ?_
  simp only [mapmakerref38_Check.l0]
  rw [if_neg (by omega), List.drop_of_length_le (by omega)]
  rfl
 | d + 1, j, h => by
  have hj : j < w.length := by omega
  have ih := refchk_l0 w hs d (j + 1) (by omega)
  have hr : rd w (j : Int) = w[j] := by
   show w.getD (j : Int).toNat 0 = _
   rw [Int.toNat_natCast]
   simp [hj]
  rw [List.drop_eq_getElem_cons hj, List.findIdx?_cons]
  by_cases e : w[j] < -1 ∨ w[j] > 1073741824
  ·rw [show oddW w[j] = true from decide_eq_true e]
   refine Ev.step1 fun k => ?_
   simp only [mapmakerref38_Check.l0]
   rw [if_pos (by omega), if_pos (by omega), hr]
   by_cases h1 : w[j] < -1
   ·rw [if_pos h1]
    rfl
   ·rw [if_neg h1, if_pos (by omega)]
    rfl
  ·rw [show oddW w[j] = false from decide_eq_false e]
   simp only [Bool.false_eq_true, if_false, Option.isSome_map]
   refine Ev.step (fun k => ?_) ih
   simp only [mapmakerref38_Check.l0]
   rw [if_pos (by omega), if_pos (by omega), hr, if_neg (by omega), if_neg (by omega), wrap_succ (by omega)]
theorem refchk_ev (N : Int) (arcs : List S58) (w : List Int) (hal : arcs.length ≤ 1000000) (hs : w.length ≤ 1000000) : Ev (fun k => mapmakerref38_Check.f k N arcs w) (dchk N arcs w) := by
 unfold mapmakerref38_Check.f dchk
 refine Ev.bind (mapmakerref37_Check.ev N arcs (by omega)) ?_
 by_cases h1 : chk N arcs = 0
 ·rw [if_neg (fun h => h h1)]
  refine Ev.congr (fun k => if_pos h1) ?_
  by_cases h2 : w.length = arcs.length
  ·rw [if_neg (fun h => h h2)]
   refine Ev.congr (fun k => if_pos (by omega)) ?_
   have h3 := refchk_l0 w (by omega) w.length 0 (by omega)
   rw [List.drop_zero] at h3
   exact h3
  ·rw [if_pos h2]
   exact Ev.id (fun k => if_neg (by omega))
 ·rw [if_pos h1]
  exact Ev.id (fun k => if_neg h1)
inductive Wk (arcs : List S58) (ws : List Int) : Int → Int → Int → Prop
 | nil (u : Int) : Wk arcs ws u u 0
 | snoc {u x v c : Int} (i : Nat) (h : Wk arcs ws u x c) (hi : i < arcs.length) (h0 : (arcs.getD i z58).f0 = x) (h1 : (arcs.getD i z58).f1 = v) (hw : 0 ≤ ws.getD i 0) : Wk arcs ws u v (c + ws.getD i 0)
section
variable {arcs : List S58} {ws : List Int}
theorem Wk.trans {u x : Int} {a : Int} (h : Wk arcs ws u x a) : ∀ {v b : Int}, Wk arcs ws x v b → Wk arcs ws u v (a + b) := by
 intro v b k
 induction k with
 | nil => rw [Int.add_zero]; exact h
 | snoc i _ hi h0 h1 hw ih =>
  rw [← Int.add_assoc]
  exact Wk.snoc i ih hi h0 h1 hw
theorem Wk.one (i : Nat) (hi : i < arcs.length) (hw : 0 ≤ ws.getD i 0) : Wk arcs ws (arcs.getD i z58).f0 (arcs.getD i z58).f1 (ws.getD i 0) := by
 have := Wk.snoc (ws := ws) i (Wk.nil (arcs := arcs) (arcs.getD i z58).f0) hi rfl rfl hw
 rwa [Int.zero_add] at this
theorem Wk.nonneg {u v c : Int} (h : Wk arcs ws u v c) : 0 ≤ c := by
 induction h with
 | nil => omega
 | snoc i _ hi h0 h1 hw ih => omega
structure Dist (n : Nat) (arcs : List S58) (ws : List Int) (s : Nat) (d : List Int) : Prop where
 len : d.length = n
 rng : ∀ v, v < n → 0 ≤ d.getD v 0 ∧ d.getD v 0 ≤ mInf
 low : ∀ v c, v < n → Wk arcs ws (s : Int) (v : Int) c → d.getD v 0 ≤ c
 att : ∀ v, v < n → d.getD v 0 < mInf → Wk arcs ws (s : Int) (v : Int) (d.getD v 0)
structure DInv (n : Nat) (arcs : List S58) (ws : List Int) (s : Nat) (d : List Int) : Prop where
 len : d.length = n
 rng : ∀ v, v < n → 0 ≤ d.getD v 0 ∧ d.getD v 0 ≤ mInf
 att : ∀ v, v < n → d.getD v 0 < mInf → Wk arcs ws (s : Int) (v : Int) (d.getD v 0)
 src : d.getD s 0 = 0
def relaxes (arcs : List S58) (ws d : List Int) (i : Nat) : Prop := 0 ≤ ws.getD i 0 ∧ d.getD (arcs.getD i z58).f0.toNat 0 < mInf ∧ d.getD (arcs.getD i z58).f0.toNat 0 + ws.getD i 0 < d.getD (arcs.getD i z58).f1.toNat 0
instance (arcs : List S58) (ws d : List Int) (i : Nat) : Decidable (relaxes arcs ws d i) := by unfold relaxes; infer_instance
theorem getD_set_int {l : List Int} {i r : Nat} {x : Int} (hi : i < l.length) : (l.set i x).getD r 0 = if i = r then x else l.getD r 0 := by
 rw [List.getD_eq_getElem?_getD, List.getElem?_set]
 by_cases h : i = r
 ·subst h
  simp [hi]
 ·simp [h]
variable {n s : Nat} (hs : s < n) (hends : ∀ i, i < arcs.length → (0 ≤ (arcs.getD i z58).f0 ∧ (arcs.getD i z58).f0 < (n : Int)) ∧ (0 ≤ (arcs.getD i z58).f1 ∧ (arcs.getD i z58).f1 < (n : Int)))
include hs hends
theorem DInv.done {d : List Int} (h : DInv n arcs ws s d) (hc : ∀ i, i < arcs.length → ¬ relaxes arcs ws d i) : Dist n arcs ws s d := by
 refine ⟨h.len, h.rng, fun v c hv hw => ?_, h.att⟩
 have key : ∀ (u v c : Int), Wk arcs ws u v c → u = (s : Int) → ∀ x : Nat, x < n → v = (x : Int) → d.getD x 0 ≤ c := by
  intro u v c hw
  induction hw with
  | nil =>
   intro hu x hx hv
   have : x = s := by omega
   subst this
   have := h.src
   omega
  | @snoc y v c i hw hi h0 h1 hwt ih =>
   intro hu x hx hv
   obtain ⟨⟨a0, a1⟩, b0, b1⟩ := hends i hi
   rw [h0] at a0 a1
   obtain ⟨f, hf⟩ := Int.eq_ofNat_of_zero_le a0
   have hfn : f < n := by omega
   have h2 := ih hu f hfn hf
   have h3 := hc i hi
   unfold relaxes at h3
   rw [h0, h1, hf, hv, Int.toNat_natCast, Int.toNat_natCast] at h3
   have r1 := h.rng x hx
   by_cases h4 : d.getD f 0 < mInf
   ·have h5 : ¬ (d.getD f 0 + ws.getD i 0 < d.getD x 0) := fun k => h3 ⟨hwt, h4, k⟩
    omega
   ·omega
 exact key _ _ _ hw rfl v hv rfl
section
variable (hn : n ≤ 1000000) (hal : arcs.length ≤ 1000000) (hwl : ws.length = arcs.length) (hwr : ∀ i, i < ws.length → ws.getD i 0 ≤ 1073741824)
include hn hal hwl hwr
end
end
theorem take_set_ge {l : List Int} {k e : Nat} {x : Int} (h : e ≤ k) : (l.set k x).take e = l.take e := List.take_set_of_le h
theorem sd_take (n : Nat) (arcs : List S58) (L ws : List Int) (e : Nat) : ∀ d, (sdTo n arcs L ws (e + d)).1.take e = (sdTo n arcs L ws e).1.take e ∧ (sdTo n arcs L ws (e + d)).2.take e = (sdTo n arcs L ws e).2.take e
 | 0 => ⟨rfl, rfl⟩
 | d + 1 => by
  have ih := sd_take n arcs L ws e d
  constructor
  ·show ((sdTo n arcs L ws (e + d)).1.set (e + d) _).take e = _
   rw [take_set_ge (by omega)]
   exact ih.1
  ·show ((sdTo n arcs L ws (e + d)).2.set (e + d) _).take e = _
   rw [take_set_ge (by omega)]
   exact ih.2
theorem sdTo_len (n : Nat) (arcs : List S58) (L ws : List Int) (k : Nat) : (sdTo n arcs L ws k).1.length = (hierS n arcs L).edges.length ∧ (sdTo n arcs L ws k).2.length = (hierS n arcs L).edges.length := sidesTo_len _ _ _ _ _ _ _
theorem sdS_bound (n : Nat) (arcs : List S58) (L ws : List Int) (e : Nat) : (0 ≤ (sdS n arcs L ws).1.getD e 0 ∧ (sdS n arcs L ws).1.getD e 0 ≤ mInf) ∧ (0 ≤ (sdS n arcs L ws).2.getD e 0 ∧ (sdS n arcs L ws).2.getD e 0 ≤ mInf) :=
 ⟨getD_bound (sidesTo_rng _ _ _ _ _ _ _).1 e, getD_bound (sidesTo_rng _ _ _ _ _ _ _).2 e⟩
section
variable {n : Nat} {arcs : List S58} {L : List Int} (h : Hk n arcs L) {ws : List Int}
include h
theorem Hk.sd_at {e : Nat} (he : e < (hierS n arcs L).edges.length) (hwl : ws.length = arcs.length) :
  (sdS n arcs L ws).1.getD e 0 = oneM (hierS n arcs L).edges ((sdS n arcs L ws).1.take e) ((sdS n arcs L ws).2.take e) ((hierS n arcs L).edges.getD e z58).f0 ((hierS n arcs L).edges.getD e z58).f1 arcs ws ∧
  (sdS n arcs L ws).2.getD e 0 = oneM (hierS n arcs L).edges ((sdS n arcs L ws).1.take e) ((sdS n arcs L ws).2.take e) ((hierS n arcs L).edges.getD e z58).f1 ((hierS n arcs L).edges.getD e z58).f0 arcs ws := by
 obtain ⟨d, hd⟩ : ∃ d, (hierS n arcs L).edges.length = e + 1 + d := ⟨(hierS n arcs L).edges.length - (e + 1), by omega⟩
 have hl := sdTo_len n arcs L ws e
 have hS : sdS n arcs L ws = sdTo n arcs L ws (e + 1 + d) := by unfold sdS; rw [hd]
 have t1 := sd_take n arcs L ws (e + 1) d
 have t0 := sd_take n arcs L ws e (1 + d)
 rw [show e + (1 + d) = e + 1 + d by omega, ← hS] at t0
 rw [← hS] at t1
 have hs := h.side (ws := ws) he hwl hl.1 hl.2
 rw [← t0.1, ← t0.2] at hs
 have g1 : (sdS n arcs L ws).1.getD e 0 = ((sdS n arcs L ws).1.take (e + 1)).getD e 0 := (getD_take (by omega)).symm
 have g2 : (sdS n arcs L ws).2.getD e 0 = ((sdS n arcs L ws).2.take (e + 1)).getD e 0 := (getD_take (by omega)).symm
 have s1 : sdTo n arcs L ws (e + 1) = ((sdTo n arcs L ws e).1.set e (weightsS n arcs (ranksTo L L.length) (hierS n arcs L) ws (arS n arcs L) (sdTo n arcs L ws e).1 (sdTo n arcs L ws e).2 e).1, (sdTo n arcs L ws e).2.set e (weightsS n arcs (ranksTo L L.length) (hierS n arcs L) ws (arS n arcs L) (sdTo n arcs L ws e).1 (sdTo n arcs L ws e).2 e).2) := rfl
 rw [g1, g2, t1.1, t1.2, getD_take (by omega), getD_take (by omega), s1, hs]
 dsimp only
 exact ⟨by rw [getD_set_int (by omega), if_pos rfl], by rw [getD_set_int (by omega), if_pos rfl]⟩
omit h in
def atS (n : Nat) (arcs : List S58) (L ws : List Int) (u v : Int) : Int := if (hF n arcs L u v).2 = true then (if ((hierS n arcs L).edges.getD (hF n arcs L u v).1.toNat z58).f0 = u then (sdS n arcs L ws).1.getD (hF n arcs L u v).1.toNat 0 else (sdS n arcs L ws).2.getD (hF n arcs L u v).1.toNat 0) else mInf
theorem Hk.at_ix {i : Nat} {u v : Int} (hf : (hierS n arcs L).edges.findIdx? (isE2 u v) = some i) : atS n arcs L ws u v = if ((hierS n arcs L).edges.getD i z58).f0 = u then (sdS n arcs L ws).1.getD i 0 else (sdS n arcs L ws).2.getD i 0 := by
 unfold atS
 rw [h.hF_ix hf, if_pos rfl]
 simp only [Int.toNat_natCast]
theorem Hk.at_up {i : Nat} (hi : i < (hierS n arcs L).edges.length) : atS n arcs L ws ((hierS n arcs L).edges.getD i z58).f0 ((hierS n arcs L).edges.getD i z58).f1 = (sdS n arcs L ws).1.getD i 0 := by
 rw [h.at_ix (h.ix hi (.inl ⟨rfl, rfl⟩)), if_pos rfl]
theorem Hk.at_dn {i : Nat} (hi : i < (hierS n arcs L).edges.length) : atS n arcs L ws ((hierS n arcs L).edges.getD i z58).f1 ((hierS n arcs L).edges.getD i z58).f0 = (sdS n arcs L ws).2.getD i 0 := by
 rw [h.at_ix (h.ix hi (.inr ⟨rfl, rfl⟩)), if_neg (h.ne hi)]
omit h in
theorem atS_bound (u v : Int) : 0 ≤ atS n arcs L ws u v ∧ atS n arcs L ws u v ≤ mInf := by
 unfold atS
 split
 ·split
  ·exact (sdS_bound n arcs L ws _).1
  ·exact (sdS_bound n arcs L ws _).2
 ·unfold mInf
  omega
theorem Hk.at_spec {e : Nat} (he : e < (hierS n arcs L).edges.length) (hwl : ws.length = arcs.length) {u v : Int} (huv : (u = ((hierS n arcs L).edges.getD e z58).f0 ∧ v = ((hierS n arcs L).edges.getD e z58).f1) ∨ (u = ((hierS n arcs L).edges.getD e z58).f1 ∧ v = ((hierS n arcs L).edges.getD e z58).f0)) :
  (∀ j, j < arcs.length → (arcs.getD j z58).f0 = u → (arcs.getD j z58).f1 = v → 0 ≤ ws.getD j 0 → atS n arcs L ws u v ≤ ws.getD j 0) ∧ (∀ y ∈ lowerS (hierS n arcs L) (e : Int), atS n arcs L ws u v ≤ over (atS n arcs L ws u y) (atS n arcs L ws y v)) ∧
  (atS n arcs L ws u v < mInf → (∃ j, j < arcs.length ∧ (arcs.getD j z58).f0 = u ∧ (arcs.getD j z58).f1 = v ∧ 0 ≤ ws.getD j 0 ∧ ws.getD j 0 = atS n arcs L ws u v) ∨ (∃ y ∈ lowerS (hierS n arcs L) (e : Int), over (atS n arcs L ws u y) (atS n arcs L ws y v) = atS n arcs L ws u v)) := by
 obtain ⟨U, hU⟩ : ∃ U, (sdS n arcs L ws).1 = U := ⟨_, rfl⟩
 obtain ⟨D, hD⟩ : ∃ D, (sdS n arcs L ws).2 = D := ⟨_, rfl⟩
 have hl := sidesTo_len n arcs (ranksTo L L.length) (hierS n arcs L) ws (arS n arcs L) (hierS n arcs L).edges.length
 have hl1 : U.length = (hierS n arcs L).edges.length := by rw [← hU]; exact hl.1
 have hl2 : D.length = (hierS n arcs L).edges.length := by rw [← hD]; exact hl.2
 have hat : atS n arcs L ws u v = oneM (hierS n arcs L).edges (U.take e) (D.take e) u v arcs ws := by
  have h1 := h.sd_at (ws := ws) he hwl
  rw [← hU, ← hD]
  rcases huv with ⟨rfl, rfl⟩ | ⟨rfl, rfl⟩
  ·rw [h.at_up he]
   exact h1.1
  ·rw [h.at_dn he]
   exact h1.2
 have hvia := h.via_same he huv hl1 hl2
 have hlow : ∀ y ∈ lowerS (hierS n arcs L) (e : Int), atS n arcs L ws u y = D.getD (hF n arcs L y u).1.toNat 0 ∧ atS n arcs L ws y v = U.getD (hF n arcs L y v).1.toNat 0 := fun y hy => by
  have h2 := (h.mem_low he y).1 hy
  have h3 : (∃ i, i < (hierS n arcs L).edges.length ∧ ((hierS n arcs L).edges.getD i z58).f0 = y ∧ ((hierS n arcs L).edges.getD i z58).f1 = u) ∧ (∃ i, i < (hierS n arcs L).edges.length ∧ ((hierS n arcs L).edges.getD i z58).f0 = y ∧ ((hierS n arcs L).edges.getD i z58).f1 = v) := by
   rcases huv with ⟨rfl, rfl⟩ | ⟨rfl, rfl⟩
   ·exact h2
   ·exact ⟨h2.2, h2.1⟩
  obtain ⟨⟨i, hi, hi0, hi1⟩, j, hj, hj0, hj1⟩ := h3
  have a1 := h.at_dn (ws := ws) hi
  have a2 := h.at_up (ws := ws) hj
  rw [hi0, hi1] at a1
  rw [hj0, hj1] at a2
  have f1 := h.hF_ix (h.ix hi (u := y) (v := u) (.inl ⟨hi0, hi1⟩))
  have f2 := h.hF_ix (h.ix hj (u := y) (v := v) (.inl ⟨hj0, hj1⟩))
  rw [f1, f2, a1, a2, hU, hD]
  simp only [Int.toNat_natCast]
  exact ⟨trivial, trivial⟩
 have hrd : ∀ j : Nat, rd ws (j : Int) = ws.getD j 0 := fun j => by
  show ws.getD (j : Int).toNat 0 = _
  rw [Int.toNat_natCast]
 obtain ⟨m1, m2, m3⟩ := minL_spec (arcW arcs ws u v 0 ws.length ++ viaW (hierS n arcs L).edges (U.take e) (D.take e) u v 0 (hierS n arcs L).edges.length) mInf
 have hone : atS n arcs L ws u v = minL mInf (arcW arcs ws u v 0 ws.length ++ viaW (hierS n arcs L).edges (U.take e) (D.take e) u v 0 (hierS n arcs L).edges.length) := hat
 rw [← hone] at m1 m2 m3
 refine ⟨fun j hj j0 j1 jw => ?_, fun y hy => ?_, fun hlt => ?_⟩
 ·refine m2 _ (List.mem_append_left _ ?_)
  unfold arcW
  rw [mem_range_flat]
  refine ⟨j, by omega, ?_⟩
  unfold arcW1
  rw [rd_getD, hrd, if_pos ⟨j0, j1, jw⟩]
  simp
 ·refine m2 _ (List.mem_append_right _ ?_)
  rw [← hvia, List.mem_map]
  exact ⟨y, hy, by rw [(hlow y hy).1, (hlow y hy).2]⟩
 ·rcases m3 with m3 | m3
  ·omega
  ·rcases List.mem_append.1 m3 with m3 | m3
   ·left
    unfold arcW at m3
    rw [mem_range_flat] at m3
    obtain ⟨j, hj, hx⟩ := m3
    unfold arcW1 at hx
    rw [rd_getD, hrd] at hx
    split at hx
    ·rename_i hc
     rw [List.mem_singleton] at hx
     exact ⟨j, by omega, hc.1, hc.2.1, hc.2.2, hx.symm⟩
    ·cases hx
   ·right
    rw [← hvia, List.mem_map] at m3
    obtain ⟨y, hy, hx⟩ := m3
    exact ⟨y, hy, by rw [(hlow y hy).1, (hlow y hy).2]; exact hx⟩
omit h in
theorem over_fin {a b : Int} (ha : a ≤ mInf) (hb : b ≤ mInf) (h : over a b < mInf) : a < mInf ∧ b < mInf ∧ over a b = a + b := by
 unfold over at h ⊢
 split at h
 ·omega
 ·rename_i hc
  rw [if_neg hc]
  exact ⟨by omega, by omega, rfl⟩
theorem Hk.at_walk (hwl : ws.length = arcs.length) (hwr : ∀ i, i < ws.length → ws.getD i 0 ≤ 1073741824) : ∀ (x : Nat) (e : Nat) (u v : Int), e < (hierS n arcs L).edges.length → x < n → ((hierS n arcs L).edges.getD e z58).f0 = L.getD x 0 →
  ((u = ((hierS n arcs L).edges.getD e z58).f0 ∧ v = ((hierS n arcs L).edges.getD e z58).f1) ∨ (u = ((hierS n arcs L).edges.getD e z58).f1 ∧ v = ((hierS n arcs L).edges.getD e z58).f0)) → atS n arcs L ws u v < mInf → Wk arcs ws u v (atS n arcs L ws u v) ∧ atS n arcs L ws u v ≤ ((2 ^ x : Nat) : Int) * 1073741824 := by
 intro x
 induction x using Nat.strongRecOn with
 | ind x ih =>
  intro e u v he hx hex huv hlt
  obtain ⟨s1, s2, s3⟩ := h.at_spec (ws := ws) he hwl huv
  have hpos : 1 ≤ 2 ^ x := Nat.one_le_two_pow
  rcases s3 hlt with ⟨j, hj, j0, j1, jw, jn⟩ | ⟨y, hy, hyn⟩
  ·have h1 := Wk.one (ws := ws) j hj jw
   rw [j0, j1, jn] at h1
   have h2 := hwr j (by omega)
   exact ⟨h1, by rw [← jn]; omega⟩
  ·have b1 := atS_bound (n := n) (arcs := arcs) (L := L) (ws := ws) u y
   have b2 := atS_bound (n := n) (arcs := arcs) (L := L) (ws := ws) y v
   rw [← hyn] at hlt
   obtain ⟨c1, c2, c3⟩ := over_fin b1.2 b2.2 hlt
   have h2 := (h.mem_low he y).1 hy
   have h3 : (∃ i, i < (hierS n arcs L).edges.length ∧ ((hierS n arcs L).edges.getD i z58).f0 = y ∧ ((hierS n arcs L).edges.getD i z58).f1 = u) ∧ (∃ i, i < (hierS n arcs L).edges.length ∧ ((hierS n arcs L).edges.getD i z58).f0 = y ∧ ((hierS n arcs L).edges.getD i z58).f1 = v) := by
    rcases huv with ⟨rfl, rfl⟩ | ⟨rfl, rfl⟩
    ·exact h2
    ·exact ⟨h2.2, h2.1⟩
   obtain ⟨⟨k, hk, k0, k1⟩, _⟩ := h2
   obtain ⟨⟨i, hi, hi0, hi1⟩, j, hj, hj0, hj1⟩ := h3
   obtain ⟨x', y', hxy, hyn', e0, e1, _⟩ := h.edge_at hk
   have ey : y' = x := ord_inj h.ord (by omega) hx (e1.symm.trans (k1.trans hex))
   subst ey
   have ex : y = L.getD x' 0 := k0.symm.trans e0
   obtain ⟨w1, q1⟩ := ih x' hxy i u y hi (by omega) (hi0.trans ex) (.inr ⟨hi1.symm, hi0.symm⟩) c1
   obtain ⟨w2, q2⟩ := ih x' hxy j y v hj (by omega) (hj0.trans ex) (.inl ⟨hj0.symm, hj1.symm⟩) c2
   rw [← hyn, c3]
   refine ⟨w1.trans w2, ?_⟩
   have h4 : 2 ^ (x' + 1) ≤ 2 ^ y' := Nat.pow_le_pow_right (by decide) (by omega)
   rw [Nat.pow_succ] at h4
   omega
end
end Go.Proofs.Ytfnophaiamkmpaa.Print
