/- Written by a program of this claim's author (xprint.py, over the kit's print.py): the call of mapmaker/mapmakerlaw39.OrderForests comes to what the Lean function of its name says. -/
import Derived.Test.YtnnknbghfbjcnaaPrint0
import Derived.Test.YtnnknbghfbjcnaaF17
import Derived.Test.YtnnknbghfbjcnaaF20
import Derived.Test.YtnnknbghfbjcnaaF22
import Derived.Test.YtnnknbghfbjcnaaF32
import Derived.Test.YtnnknbghfbjcnaaF35
import Derived.Test.YtnnknbghfbjcnaaHOCheck
import Derived.Test.YtnnknbghfbjcnaaHOFill
import Derived.Test.YtnnknbghfbjcnaaHOMin
import Derived.Test.YtnnknbghfbjcnaaHXOpen
import Derived.Test.YtnnknbghfbjcnaaHXShort
import Derived.Test.YtnnknbghfbjcnaaOpen
namespace Go.Proofs.Ytnnknbghfbjcnaa.Print
open Go.RowKit Go.Proofs.YtnnknbghfbjcnaaW.PrintWords Go.Proofs.YtnnknbghfbjcnaaW.PrintLast Go.Proofs.YtnnknbghfbjcnaaW.PrintMore
attribute [local go_sem] max2_int min2_int max_two min_two max_three min_three max_four min_four   -- for this text's walks alone
set_option linter.unusedVariables false
set_option linter.unusedSimpArgs false

/-! ### mapmakerlaw39_OrderForests: function 13 -/
mutual
def mapmakerlaw39_OrderForests.j0 : Nat → Bool → Int → List (S40) → Option (Bool)
 | 0, _, _, _ => none
 | k + 1, x16, x515000, x515001 => if x16 = true then ((mapmakerlaw39_lives.f).bind fun t517 => (some t517)) else ((order_MinDegree.f x515000 x515001).bind fun t518 => ((order_Check.f x515000 t518).bind fun t521 => (if t521 = 0 then ((graph_Neighbours.f k x515000 x515001).bind fun t522 => ((graph_Parts.f k x515000 x515001).bind fun t525 => (mapmakerlaw39_OrderForests.l0 k 0 0 0 t518 t522 t525 x515000 x515001))) else (some false))))
def mapmakerlaw39_OrderForests.l0 : Nat → Int → Int → Int → List Int → List (List Int) → List Int → Int → List (S40) → Option (Bool)
 | 0, _, _, _, _, _, _, _, _ => none
 | k + 1, x6, x7, x8, x19, x26, x28, x515000, x515001 => if x8 < (x26.length : Int) then (if 0 ≤ x8 then (if x8 < (x28.length : Int) then (if (rd x28 x8) = x8 then (mapmakerlaw39_OrderForests.l0 k (wrap64 (x6 + ((rd_L2 x26 x8).length : Int))) (wrap64 (x7 + 1)) (wrap64 (x8 + 1)) x19 x26 x28 x515000 x515001) else (mapmakerlaw39_OrderForests.l0 k (wrap64 (x6 + ((rd_L2 x26 x8).length : Int))) x7 (wrap64 (x8 + 1)) x19 x26 x28 x515000 x515001)) else (mapmakerlaw39_OrderForests.l0 k (wrap64 (x6 + ((rd_L2 x26 x8).length : Int))) x7 (wrap64 (x8 + 1)) x19 x26 x28 x515000 x515001)) else (none)) else (if (wrap64 (Int.tdiv x6 2)) = (wrap64 (x515000 - x7)) then ((order_Fill.f x515000 x515001 x19).bind fun t530 => (if t530 = 0 then (if (x28.length : Int) = x515000 then ((mapmakerlaw39_lives.f).bind fun t531 => (some t531)) else (some false)) else (some false))) else (if (x28.length : Int) = x515000 then ((mapmakerlaw39_lives.f).bind fun t532 => (some t532)) else (some false)))
end
def mapmakerlaw39_OrderForests.f (k : Nat) (a0_0 : Int) (l0_1 : List (S40)) : Option (Bool) := (mapmakerlaw39_Few.f a0_0 l0_1).bind fun t515 => (if t515 = true then ((graph_Check.f k a0_0 l0_1).bind fun t516 => (mapmakerlaw39_OrderForests.j0 k (t516 != 0) a0_0 l0_1)) else (mapmakerlaw39_OrderForests.j0 k true a0_0 l0_1))
theorem mapmakerlaw39_OrderForests.mono_l : ∀ k, (∀ y0 y1 y2, LeO (mapmakerlaw39_OrderForests.j0 k y0 y1 y2) (mapmakerlaw39_OrderForests.j0 (k + 1) y0 y1 y2)) ∧ (∀ y0 y1 y2 y3 y4 y5 y6 y7, LeO (mapmakerlaw39_OrderForests.l0 k y0 y1 y2 y3 y4 y5 y6 y7) (mapmakerlaw39_OrderForests.l0 (k + 1) y0 y1 y2 y3 y4 y5 y6 y7))
 | 0 => ⟨fun _ _ _ r h => by simp [mapmakerlaw39_OrderForests.j0] at h, fun _ _ _ _ _ _ _ _ r h => by simp [mapmakerlaw39_OrderForests.l0] at h⟩
 | k + 1 => by
  obtain ⟨ih0, ih1⟩ := mapmakerlaw39_OrderForests.mono_l k
  refine ⟨?_, ?_⟩
  ·intro y0 y1 y2
   unfold mapmakerlaw39_OrderForests.j0
   repeat' first
   | (with_reducible exact ih0 _ _ _)
   | (with_reducible exact ih1 _ _ _ _ _ _ _ _)
   | (with_reducible exact graph_Check.mono _ _ _)
   | (with_reducible exact graph_Neighbours.mono _ _ _)
   | (with_reducible exact graph_Parts.mono _ _ _)
   | (with_reducible exact LeO.refl _)
   | (with_reducible exact LeO.none _)
   | (with_reducible refine LeO.ite ?_ ?_)
   | (with_reducible refine LeO.bind ?_ (fun _ => ?_))
   | exact ih0 _ _ _
   | exact ih1 _ _ _ _ _ _ _ _
   | exact graph_Check.mono _ _ _
   | exact graph_Neighbours.mono _ _ _
   | exact graph_Parts.mono _ _ _
   | exact LeO.none _
   | refine LeO.ite ?_ ?_
   | refine LeO.bind ?_ (fun _ => ?_)
  ·intro y0 y1 y2 y3 y4 y5 y6 y7
   unfold mapmakerlaw39_OrderForests.l0
   repeat' first
   | (with_reducible exact ih0 _ _ _)
   | (with_reducible exact ih1 _ _ _ _ _ _ _ _)
   | (with_reducible exact graph_Check.mono _ _ _)
   | (with_reducible exact graph_Neighbours.mono _ _ _)
   | (with_reducible exact graph_Parts.mono _ _ _)
   | (with_reducible exact LeO.refl _)
   | (with_reducible exact LeO.none _)
   | (with_reducible refine LeO.ite ?_ ?_)
   | (with_reducible refine LeO.bind ?_ (fun _ => ?_))
   | exact ih0 _ _ _
   | exact ih1 _ _ _ _ _ _ _ _
   | exact graph_Check.mono _ _ _
   | exact graph_Neighbours.mono _ _ _
   | exact graph_Parts.mono _ _ _
   | exact LeO.none _
   | refine LeO.ite ?_ ?_
   | refine LeO.bind ?_ (fun _ => ?_)
theorem mapmakerlaw39_OrderForests.mono : ∀ a0 a1 k, LeO (mapmakerlaw39_OrderForests.f k a0 a1) (mapmakerlaw39_OrderForests.f (k + 1) a0 a1) := by
 intro a0 a1 k
 obtain ⟨ih0, ih1⟩ := mapmakerlaw39_OrderForests.mono_l k
 unfold mapmakerlaw39_OrderForests.f
 repeat' first
   | (with_reducible exact ih0 _ _ _)
   | (with_reducible exact ih1 _ _ _ _ _ _ _ _)
   | (with_reducible exact graph_Check.mono _ _ _)
   | (with_reducible exact graph_Neighbours.mono _ _ _)
   | (with_reducible exact graph_Parts.mono _ _ _)
   | (with_reducible exact LeO.refl _)
   | (with_reducible exact LeO.none _)
   | (with_reducible refine LeO.ite ?_ ?_)
   | (with_reducible refine LeO.bind ?_ (fun _ => ?_))
   | exact ih0 _ _ _
   | exact ih1 _ _ _ _ _ _ _ _
   | exact graph_Check.mono _ _ _
   | exact graph_Neighbours.mono _ _ _
   | exact graph_Parts.mono _ _ _
   | exact LeO.none _
   | refine LeO.ite ?_ ?_
   | refine LeO.bind ?_ (fun _ => ?_)
set_option maxHeartbeats 8000000 in
set_option maxRecDepth 100000 in
theorem mapmakerlaw39_OrderForests.calls (k : Nat) (a0_0 : Int) (A0_1 : Option Addr) (c0_1 : Nat) (l0_1 : List (S40)) (r : Bool) (w : World) (hr0_1 : Kd.C k40 w A0_1 l0_1.length l0_1) (hc0_1 : l0_1.length ≤ c0_1) (h : mapmakerlaw39_OrderForests.f k a0_0 l0_1 = some r) :
  Calls Try.prog 13 #[.agg #[.int .i64 a0_0, .slice A0_1 l0_1.length c0_1]] w fun e w' => e = .returned (.bool r) ∧ Below w.heap.size w w' := by
 have hu24 := Try.underlying24; have HR0_1 := Aside0.mk hr0_1; have HC0_1 := Aside0.mk hc0_1; clear hr0_1 hc0_1; have HB := Aside0.mk (Below.refl w.heap.size w)
 have H : ((mapmakerlaw39_Few.f a0_0 l0_1).bind fun t515 => (if t515 = true then ((graph_Check.f k a0_0 l0_1).bind fun t516 => (mapmakerlaw39_OrderForests.j0 k (t516 != 0) a0_0 l0_1)) else (mapmakerlaw39_OrderForests.j0 k true a0_0 l0_1))) = some r := h
 clear h; have HC2 := Aside0.mk H; clear H
 go_enter Try.func13, Try.ntmps13
 go_upto_region 1 with (first | ((with_reducible refine gate_dst (N := 1) rfl ?_); refine box_event ?hg (N := 1) ?hd (cs := #[.int .i64 a0_0, .slice A0_1 l0_1.length c0_1]) (t := 24) ?hr ?_; (case hd => rfl); (case hg => rfl); (case hr => first | (go_simp; done) | (go_simp; rfl)); intro gb514 hg w3 hbox hb; have n0_ := Aside0.mk (below_step (byB HB.out) hb); have n1_ := Aside0.mk (hbox); have n2_ := Aside0.mk ((by rw [hg]; exact (below_size (byB HB.out)) : w.heap.size ≤ gb514)); have n3_ := Aside0.mk ((by rw [hg]; exact (below_size (byB HB.out)) : w.heap.size ≤ gb514)); clear HB; have HB := n0_; have BK514 := n1_; have GW514 := n2_; have GE514 := n3_; clear n0_ n1_ n2_ n3_ hb hbox hg))
 (try simp only [Act.put, List.setIfInBounds_toArray, List.set_cons_zero, List.set_cons_succ])
 go_cut [16] (fun v16 wc => ∃ (kq : Nat) (x16_1 : Bool), v16 = .bool x16_1 ∧ Aside0 (mapmakerlaw39_OrderForests.j0 kq x16_1 a0_0 l0_1 = some r) ∧ Aside0 (kq ≤ k) ∧ Aside0 (wc.heap[gb514]? = some (.cells #[.int .i64 a0_0, (.slice A0_1 l0_1.length c0_1)] 24 (0, 0))) ∧ Aside0 (Below w.heap.size w wc))
 case first =>
  have H := HC2.out; clear HC2
  replace H := Option.bind_eq_some_iff.mp H
  obtain ⟨t515, A40, H⟩ := H
  replace H : (if t515 = true then ((graph_Check.f k a0_0 l0_1).bind fun t516 => (mapmakerlaw39_OrderForests.j0 k (t516 != 0) a0_0 l0_1)) else (mapmakerlaw39_OrderForests.j0 k true a0_0 l0_1)) = some r := H
  have A4 := Aside0.mk A40; clear A40
  by_cases c5 : t515 = true
  ·subst c5
   have H1 : ((graph_Check.f k a0_0 l0_1).bind fun t516 => (mapmakerlaw39_OrderForests.j0 k (t516 != 0) a0_0 l0_1)) = some r := by rw [if_pos rfl] at H; exact H
   clear H; have H := H1; clear H1
   replace H := Option.bind_eq_some_iff.mp H
   obtain ⟨t516, A60, H⟩ := H
   replace H : (mapmakerlaw39_OrderForests.j0 k (t516 != 0) a0_0 l0_1) = some r := H
   have A6 := Aside0.mk A60; clear A60
   have H' := Aside0.mk H
   clear H
   have hcz7_0 : w3.cell? ⟨gb514, 0, none⟩ = some (.int .i64 a0_0) := (blk_cell BK514.out 0).trans rfl
   have hcz7_1 : w3.cell? ⟨gb514, 1, none⟩ = some (.slice A0_1 l0_1.length c0_1) := (blk_cell BK514.out 1).trans rfl
   have hfz7_0 := blk_frozen BK514.out 0; have hfz7_1 := blk_frozen BK514.out 1
   go_wp2_with (first | ((with_reducible refine gate_callee (f := 35) rfl ?_); refine goesL_ (some 10) rfl rfl Try.func35 (by kernel_rfl) rfl #[.agg #[.int .i64 a0_0, .slice A0_1 l0_1.length c0_1]] rfl byL ?_; (with_reducible refine (mapmakerlaw39_Few.calls a0_0 _ _ l0_1 true _ ?side1 ?side2 A4.out).mono ?_); (case side1 => exact byC (Kd.C_below HR0_1.out HB.out)); (case side2 => exact HC0_1.out); rintro e w8 ⟨rfl, hb⟩; refine ⟨_, rfl, ?_⟩; have n0_ := Aside0.mk (blk_below (g := gb514) (o := .cells #[.int .i64 a0_0, .slice A0_1 l0_1.length c0_1] 24 (0, 0)) (byK BK514.out) hb); have n1_ := Aside0.mk (below_step (byB1 HB.out GE514.out) hb); clear BK514 HB; have BK514 := n0_; have HB := n1_; clear n0_ n1_; (try clear hb); (try clear hb2); (try clear hk); (try clear hi); have hcz9_0 : w8.cell? ⟨gb514, 0, none⟩ = some (.int .i64 a0_0) := (blk_cell BK514.out 0).trans rfl; have hcz9_1 : w8.cell? ⟨gb514, 1, none⟩ = some (.slice A0_1 l0_1.length c0_1) := (blk_cell BK514.out 1).trans rfl; have hfz9_0 := blk_frozen BK514.out 0; have hfz9_1 := blk_frozen BK514.out 1) | (go_at_call 22; (with_reducible refine (graph_Check.calls k a0_0 _ _ l0_1 t516 _ ?side1 ?side2 A6.out).mono ?_); (case side1 => exact byC (Kd.C_below HR0_1.out HB.out)); (case side2 => exact HC0_1.out); rintro e w10 ⟨rfl, hb⟩; have n0_ := Aside0.mk (blk_below (g := gb514) (o := .cells #[.int .i64 a0_0, .slice A0_1 l0_1.length c0_1] 24 (0, 0)) (byK BK514.out) hb); have n1_ := Aside0.mk (below_step (byB1 HB.out GE514.out) hb); clear BK514 HB; have BK514 := n0_; have HB := n1_; clear n0_ n1_; (try clear hb); (try clear hb2); (try clear hk); (try clear hi)))
   go_meet
   case rel => exact ⟨_, ((t516 != 0)), (by first | rfl | (simp; done) | (simp [*]; done)), H', ⟨by first | omega | exact Nat.le_refl _⟩, ⟨by (with_reducible repeat (first | refine blk_drewN ?_ _ | refine blk_drew ?_ | refine blk_alloc ?_ _)); exact BK514.out⟩, ⟨by repeat (first | (with_reducible first | exact HB.out | apply below_alloc | apply pw_below_drewN | apply below_drew1 | refine below_set ?_ GE514.out) | exact HB.out)⟩⟩
  ·replace c5 := Bool.eq_false_iff.mpr c5
   subst c5
   have H1 : (mapmakerlaw39_OrderForests.j0 k true a0_0 l0_1) = some r := by rw [if_neg (show ¬ (false = true) by decide)] at H; exact H
   clear H; have H := H1; clear H1
   have H' := Aside0.mk H
   clear H
   have hcz11_0 : w3.cell? ⟨gb514, 0, none⟩ = some (.int .i64 a0_0) := (blk_cell BK514.out 0).trans rfl
   have hcz11_1 : w3.cell? ⟨gb514, 1, none⟩ = some (.slice A0_1 l0_1.length c0_1) := (blk_cell BK514.out 1).trans rfl
   have hfz11_0 := blk_frozen BK514.out 0; have hfz11_1 := blk_frozen BK514.out 1
   go_wp2_with (first | ((with_reducible refine gate_callee (f := 35) rfl ?_); refine goesL_ (some 10) rfl rfl Try.func35 (by kernel_rfl) rfl #[.agg #[.int .i64 a0_0, .slice A0_1 l0_1.length c0_1]] rfl byL ?_; (with_reducible refine (mapmakerlaw39_Few.calls a0_0 _ _ l0_1 false _ ?side1 ?side2 A4.out).mono ?_); (case side1 => exact byC (Kd.C_below HR0_1.out HB.out)); (case side2 => exact HC0_1.out); rintro e w12 ⟨rfl, hb⟩; refine ⟨_, rfl, ?_⟩; have n0_ := Aside0.mk (blk_below (g := gb514) (o := .cells #[.int .i64 a0_0, .slice A0_1 l0_1.length c0_1] 24 (0, 0)) (byK BK514.out) hb); have n1_ := Aside0.mk (below_step (byB1 HB.out GE514.out) hb); clear BK514 HB; have BK514 := n0_; have HB := n1_; clear n0_ n1_; (try clear hb); (try clear hb2); (try clear hk); (try clear hi)))
   go_meet
   case rel => exact ⟨_, (true), (by first | rfl | (simp; done) | (simp [*]; done)), H', ⟨by first | omega | exact Nat.le_refl _⟩, ⟨by (with_reducible repeat (first | refine blk_drewN ?_ _ | refine blk_drew ?_ | refine blk_alloc ?_ _)); exact BK514.out⟩, ⟨by repeat (first | (with_reducible first | exact HB.out | apply below_alloc | apply pw_below_drewN | apply below_drew1 | refine below_set ?_ GE514.out) | exact HB.out)⟩⟩
 case rest =>
  clear HC2
  try clear c1
  try clear p2
  try clear c3
  try clear c5
  try clear hcz11_0
  try clear hcz11_1
  try clear hcz7_0
  try clear hcz7_1
  try clear hcz9_0
  try clear hcz9_1
  try clear hfz11_0
  try clear hfz11_1
  try clear hfz7_0
  try clear hfz7_1
  try clear hfz9_0
  try clear hfz9_1
  obtain ⟨kq, x16_1, rfl, HA, HJ1, BK514, HB⟩ := hcut
  cases kq with
  | zero => exact absurd HA.out (by simp [mapmakerlaw39_OrderForests.j0])
  | succ kj1 =>
   have H := HA.out; clear HA
   simp only [mapmakerlaw39_OrderForests.j0] at H
   by_cases c13 : x16_1 = true
   ·subst c13
    have H1 : ((mapmakerlaw39_lives.f).bind fun t517 => (some t517)) = some r := by rw [if_pos rfl] at H; exact H
    clear H; have H := H1; clear H1
    replace H := Option.bind_eq_some_iff.mp H
    obtain ⟨t517, A140, H⟩ := H
    replace H : (some t517) = some r := H
    have A14 := Aside0.mk A140; clear A140
    obtain rfl := Option.some.inj H
    go_wp2_with (first | ((with_reducible refine gate_callee (f := 32) rfl ?_); refine goesL_ (some 17) rfl rfl Try.func32 (by kernel_rfl) rfl #[] rfl byL ?_; (with_reducible refine (mapmakerlaw39_lives.calls  t517 _ A14.out).mono ?_); rintro e w15 ⟨rfl, hb⟩; refine ⟨_, rfl, ?_⟩; have n0_ := Aside0.mk (blk_below (g := gb514) (o := .cells #[.int .i64 a0_0, .slice A0_1 l0_1.length c0_1] 24 (0, 0)) (byK BK514.out) hb); have n1_ := Aside0.mk (below_step (byB1 HB.out GE514.out) hb); clear BK514 HB; have BK514 := n0_; have HB := n1_; clear n0_ n1_; (try clear hb); (try clear hb2); (try clear hk); (try clear hi)))
    go_ret
    exact ⟨by first | rfl | (simp [errW_none, errW_some] <;> rfl) | (simp [*, errW_none, errW_some] <;> rfl), by repeat (first | (with_reducible first | exact HB.out | apply below_alloc | apply pw_below_drewN | apply below_drew1 | refine below_set ?_ GE514.out) | exact HB.out)⟩
   ·replace c13 := Bool.eq_false_iff.mpr c13
    subst c13
    have H1 : ((order_MinDegree.f a0_0 l0_1).bind fun t518 => ((order_Check.f a0_0 t518).bind fun t521 => (if t521 = 0 then ((graph_Neighbours.f kj1 a0_0 l0_1).bind fun t522 => ((graph_Parts.f kj1 a0_0 l0_1).bind fun t525 => (mapmakerlaw39_OrderForests.l0 kj1 0 0 0 t518 t522 t525 a0_0 l0_1))) else (some false)))) = some r := by rw [if_neg (show ¬ (false = true) by decide)] at H; exact H
    clear H; have H := H1; clear H1
    replace H := Option.bind_eq_some_iff.mp H
    obtain ⟨t518, A160, H⟩ := H
    replace H : ((order_Check.f a0_0 t518).bind fun t521 => (if t521 = 0 then ((graph_Neighbours.f kj1 a0_0 l0_1).bind fun t522 => ((graph_Parts.f kj1 a0_0 l0_1).bind fun t525 => (mapmakerlaw39_OrderForests.l0 kj1 0 0 0 t518 t522 t525 a0_0 l0_1))) else (some false))) = some r := H
    have A16 := Aside0.mk A160; clear A160
    replace H := Option.bind_eq_some_iff.mp H
    obtain ⟨t521, A170, H⟩ := H
    replace H : (if t521 = 0 then ((graph_Neighbours.f kj1 a0_0 l0_1).bind fun t522 => ((graph_Parts.f kj1 a0_0 l0_1).bind fun t525 => (mapmakerlaw39_OrderForests.l0 kj1 0 0 0 t518 t522 t525 a0_0 l0_1))) else (some false)) = some r := H
    have A17 := Aside0.mk A170; clear A170
    by_cases c18 : t521 = 0
    ·rw [if_pos c18] at H
     have c18b0 : (t521 == 0) = true := beq_iff_eq.mpr c18
     have c18b1 : (t521 != 0) = false := bne_eq_false_iff_eq.mpr c18
     clear c18
     replace H := Option.bind_eq_some_iff.mp H
     obtain ⟨t522, A190, H⟩ := H
     replace H : ((graph_Parts.f kj1 a0_0 l0_1).bind fun t525 => (mapmakerlaw39_OrderForests.l0 kj1 0 0 0 t518 t522 t525 a0_0 l0_1)) = some r := H
     have A19 := Aside0.mk A190; clear A190
     replace H := Option.bind_eq_some_iff.mp H
     obtain ⟨t525, A200, H⟩ := H
     replace H : (mapmakerlaw39_OrderForests.l0 kj1 0 0 0 t518 t522 t525 a0_0 l0_1) = some r := H
     have A20 := Aside0.mk A200; clear A200
     have H' := Aside0.mk H
     clear H
     have hcz21_0 : wc.cell? ⟨gb514, 0, none⟩ = some (.int .i64 a0_0) := (blk_cell BK514.out 0).trans rfl
     have hcz21_1 : wc.cell? ⟨gb514, 1, none⟩ = some (.slice A0_1 l0_1.length c0_1) := (blk_cell BK514.out 1).trans rfl
     have hfz21_0 := blk_frozen BK514.out 0; have hfz21_1 := blk_frozen BK514.out 1
     try go_wp2_with (first | ((with_reducible refine gate_callee (f := 37) rfl ?_); refine goesL_ (some 19) rfl rfl Try.func37 (by kernel_rfl) rfl #[.agg #[.int .i64 a0_0, .slice A0_1 l0_1.length c0_1]] rfl byL ?_; (with_reducible refine (order_MinDegree.calls a0_0 _ _ l0_1 t518 _ ?side1 ?side2 A16.out).mono ?_); (case side1 => exact byC (Kd.C_below HR0_1.out HB.out)); (case side2 => exact HC0_1.out); rintro e w22 ⟨v519, rfl, ho0, hb⟩; refine ⟨_, rfl, ?_⟩; have n0_ := Aside0.mk (Kd.R_lower ho0 (below_size (byB1 HB.out GE514.out))); have n1_ := Aside0.mk (blk_below (g := gb514) (o := .cells #[.int .i64 a0_0, .slice A0_1 l0_1.length c0_1] 24 (0, 0)) (byK BK514.out) hb); have n2_ := Aside0.mk (below_step (byB1 HB.out GE514.out) hb); clear BK514 HB; have HO520 := n0_; have BK514 := n1_; have HB := n2_; clear n0_ n1_ n2_; (try clear hb); (try clear hb2); (try clear hk); (try clear hi); (try clear ho0); have hcz23_0 : w22.cell? ⟨gb514, 0, none⟩ = some (.int .i64 a0_0) := (blk_cell BK514.out 0).trans rfl; have hcz23_1 : w22.cell? ⟨gb514, 1, none⟩ = some (.slice A0_1 l0_1.length c0_1) := (blk_cell BK514.out 1).trans rfl; have hfz23_0 := blk_frozen BK514.out 0; have hfz23_1 := blk_frozen BK514.out 1; obtain ⟨Ao24, co24, eo24⟩ := Kd.R_slice HO520.out; subst eo24) | ((with_reducible refine gate_callee (f := 33) rfl ?_); refine goesL_ (some 23) rfl rfl Try.func33 (by kernel_rfl) rfl #[.int .i64 a0_0, .slice Ao24 t518.length co24] rfl byL ?_; (with_reducible refine (order_Check.calls a0_0 _ _ t518 t521 _ ?side1 ?side2 A17.out).mono ?_); (case side1 => repeat (first | exact (Kd.R_reads' HO520.out).2.2 | (with_reducible refine Kd.C_alloc ?_ _) | (with_reducible refine Kd.C_drewN ?_ _) | (with_reducible refine Kd.C_drew ?_))); (case side2 => exact (Kd.R_reads' HO520.out).2.1); rintro e w25 ⟨rfl, hb⟩; refine ⟨_, rfl, ?_⟩; have n0_ := Aside0.mk (Kd.R_below (byR HO520.out) hb); have n1_ := Aside0.mk (blk_below (g := gb514) (o := .cells #[.int .i64 a0_0, .slice A0_1 l0_1.length c0_1] 24 (0, 0)) (byK BK514.out) hb); have n2_ := Aside0.mk (below_step (byB1 HB.out GE514.out) hb); clear HO520 BK514 HB; have HO520 := n0_; have BK514 := n1_; have HB := n2_; clear n0_ n1_ n2_; (try clear hb); (try clear hb2); (try clear hk); (try clear hi)))
     have n0_ := Aside0.mk (Kd.R_drew HO520.out); have n1_ := Aside0.mk (blk_drew BK514.out); have n2_ := Aside0.mk (below_drew1 HB.out); clear HO520 BK514 HB; have HO520 := n0_; have BK514 := n1_; have HB := n2_; clear n0_ n1_ n2_
     refine start_ (n := 6) (S := fun w' => w'.cell? ⟨gb514, 0, none⟩ = some (.int .i64 a0_0) ∧ w'.cell? ⟨gb514, 1, none⟩ = some (.slice A0_1 l0_1.length c0_1)) (ds := []) #[yF,yF,yF,yF,yF,yF] (by kernel_rfl) rfl rfl ⟨(blk_cell BK514.out 0).trans rfl, (blk_cell BK514.out 1).trans rfl⟩ (fun hHeld => ?_)
     generalize w25.drew = w26 at HO520 BK514 HB hHeld ⊢
     refine take_ (i := 0) (N := some 25) (v := ?_) (a' := ?_) #[yT,yF,yF,yF,yF,yF] rfl rfl (by kernel_rfl) (fun _ _ _ h => h) (Or.inl ⟨by rfl, ?_⟩) hHeld ?_ ?_; rotate_left; (·rintro w' ⟨s0, s1⟩; go_simp; with_reducible rfl); rotate_left; (·simp only [putW]; rfl); refine take_ (i := 2) (N := some 27) (v := ?_) (a' := ?_) #[yT,yF,yT,yF,yF,yF] rfl rfl (by kernel_rfl) (fun _ _ _ h => h) (Or.inl ⟨by rfl, ?_⟩) hHeld ?_ ?_; rotate_left; (·rintro w' ⟨s0, s1⟩; go_simp; with_reducible rfl); rotate_left; (·simp only [putW]; rfl); refine one_ (i := 1) (N := some 26) #[yT,yT,yT,yF,yF,yF] rfl rfl (by kernel_rfl) (by decide) (fun K hK => ?_)
     refine goes_ Try.func17 (by kernel_rfl) rfl #[.agg #[.int .i64 a0_0, .slice A0_1 l0_1.length c0_1]] (by rfl) rfl rfl byL ?_
     with_reducible refine (graph_Neighbours.calls kj1 a0_0 _ _ l0_1 t522 _ ?side1 ?side2 A19.out).mono ?_
     (case side1 => exact byC (Kd.C_below HR0_1.out HB.out))
     (case side2 => exact HC0_1.out)
     rintro e w27 ⟨v523, rfl, ho0, hb⟩
     (first | (obtain ⟨Ao523, co523, eo523⟩ := Kd.R_slice ho0; subst eo523) | (obtain ⟨Ao523, co523, eo523⟩ := Kd.R_slice (Kd.S_R ho0); subst eo523))
     refine ⟨_, rfl, ?_⟩
     have n0_ := Aside0.mk (Kd.R_below (byR HO520.out) hb); have n1_ := Aside0.mk (Kd.S_lower (Kd.S_new' ho0 (Kd.R_lt (byR HO520.out))) (below_size (byB1 HB.out GE514.out))); have n2_ := Aside0.mk (blk_below (g := gb514) (o := .cells #[.int .i64 a0_0, .slice A0_1 l0_1.length c0_1] 24 (0, 0)) (byK BK514.out) hb); have n3_ := Aside0.mk (below_step (byB1 HB.out GE514.out) hb); clear HO520 BK514 HB; have HO520 := n0_; have HO524 := n1_; have BK514 := n2_; have HB := n3_; clear n0_ n1_ n2_ n3_
     (try clear hb)
     (try clear hb2)
     (try clear hk)
     (try clear hi)
     (try clear ho0)
     refine hK.out _ _ ⟨(blk_cell BK514.out 0).trans rfl, (blk_cell BK514.out 1).trans rfl⟩ (fun hHeld => ?_)
     clear hK K
     refine norm_ (a' := ?_) ?_ ?_
     rotate_left
     ·show Act.put _ (some 26) _ = _
      simp only [putW]; rfl
     refine one_ (i := 3) (N := some 28) #[yT,yT,yT,yT,yF,yF] rfl rfl (by kernel_rfl) (by decide) (fun K hK => ?_)
     refine goes_ Try.func20 (by kernel_rfl) rfl #[.agg #[.int .i64 a0_0, .slice A0_1 l0_1.length c0_1]] (by rfl) rfl rfl byL ?_
     with_reducible refine (graph_Parts.calls kj1 a0_0 _ _ l0_1 t525 _ ?side1 ?side2 A20.out).mono ?_
     (case side1 => exact byC (Kd.C_below HR0_1.out HB.out))
     (case side2 => exact HC0_1.out)
     rintro e w28 ⟨v526, rfl, ho0, hb⟩
     (first | (obtain ⟨Ao526, co526, eo526⟩ := Kd.R_slice ho0; subst eo526) | (obtain ⟨Ao526, co526, eo526⟩ := Kd.R_slice (Kd.S_R ho0); subst eo526))
     refine ⟨_, rfl, ?_⟩
     have n0_ := Aside0.mk (Kd.R_elder' (byR HO520.out) (Kd.R_base ho0) hb); have n1_ := Aside0.mk (Kd.S_elder' (byS HO524.out) (Kd.R_base ho0) hb); have n2_ := Aside0.mk (Kd.R_lower (Kd.R_new' ho0 (Kd.R_lt (byR HO520.out))) (below_size (byB1 HB.out GE514.out))); have n3_ := Aside0.mk (blk_below (g := gb514) (o := .cells #[.int .i64 a0_0, .slice A0_1 l0_1.length c0_1] 24 (0, 0)) (byK BK514.out) hb); have n4_ := Aside0.mk (below_step (byB1 HB.out GE514.out) hb); clear HO520 HO524 BK514 HB; have HO520 := n0_; have HO524 := n1_; have HO527 := n2_; have BK514 := n3_; have HB := n4_; clear n0_ n1_ n2_ n3_ n4_
     (try clear hb)
     (try clear hb2)
     (try clear hk)
     (try clear hi)
     (try clear ho0)
     refine hK.out _ _ ⟨(blk_cell BK514.out 0).trans rfl, (blk_cell BK514.out 1).trans rfl⟩ (fun hHeld => ?_)
     clear hK K
     refine norm_ (a' := ?_) ?_ ?_
     rotate_left
     ·show Act.put _ (some 28) _ = _
      simp only [putW]; rfl
     refine pure_ (i := 4) (N := some 4) (v := ?_) (a' := ?_) #[yT,yT,yT,yT,yT,yF] rfl rfl (by kernel_rfl) (fun _ _ _ h => h) (Or.inl ⟨by rfl, ?_⟩) ?_ ?_; rotate_left; (·intro w'; go_simp; with_reducible rfl); rotate_left; (·simp only [putW]; rfl); refine pure_ (i := 5) (N := some 5) (v := ?_) (a' := ?_) #[yT,yT,yT,yT,yT,yT] rfl rfl (by kernel_rfl) (fun _ _ _ h => h) (Or.inl ⟨by rfl, ?_⟩) ?_ ?_; rotate_left; (·intro w'; go_simp; with_reducible rfl); rotate_left; (·simp only [putW]; rfl)
     refine done_ (by kernel_rfl) ?_
     try go_wp2
     go_loopg [6, 7, 8] kj1 (fun kq v6 v7 v8 w' => ∃ (x6_2 : Int) (x7_2 : Int) (x8_2 : Int), v6 = .int .i64 x6_2 ∧ v7 = .int .i64 x7_2 ∧ v8 = .int .i64 x8_2 ∧ Aside0 (mapmakerlaw39_OrderForests.l0 kq x6_2 x7_2 x8_2 t518 t522 t525 a0_0 l0_1 = some r) ∧ Aside0 (kq ≤ kj1) ∧ Aside0 (Kd.R (Kd.int .i64) 3 w' w.heap.size (fun k_ => some k_ ≠ ((.slice Ao526 t525.length co526) : Value).ownBlock) (.slice Ao24 t518.length co24) t518) ∧ Aside0 (Kd.S (Kd.slice 3 (Kd.int .i64)) 31 w' w.heap.size (fun k_ => some k_ ≠ ((.slice Ao24 t518.length co24) : Value).ownBlock ∧ some k_ ≠ ((.slice Ao526 t525.length co526) : Value).ownBlock) (.slice Ao523 t522.length co523) t522) ∧ Aside0 (Kd.R (Kd.int .i64) 3 w' w.heap.size (fun k_ => some k_ ≠ ((.slice Ao24 t518.length co24) : Value).ownBlock) (.slice Ao526 t525.length co526) t525) ∧ Aside0 (w'.heap[gb514]? = some (.cells #[.int .i64 a0_0, (.slice A0_1 l0_1.length c0_1)] 24 (0, 0))) ∧ Aside0 (Below w.heap.size w w'))
     case atStart => exact ⟨(0), (0), (0), (by first | rfl | (simp; done) | (simp [*]; done)), (by first | rfl | (simp; done) | (simp [*]; done)), (by first | rfl | (simp; done) | (simp [*]; done)), H', ⟨Nat.le_refl _⟩, ⟨by (with_reducible repeat (first | apply Kd.R_alloc | apply Kd.R_drewN | apply Kd.R_drew)); exact Kd.R_mono HO520.out (fun _ hk => hk.2)⟩, ⟨by (with_reducible repeat (first | apply Kd.S_alloc | apply Kd.S_drewN | apply Kd.S_drew)); exact Kd.S_mono HO524.out (fun _ hk => ⟨hk.1.2, hk.2⟩)⟩, ⟨by (with_reducible repeat (first | apply Kd.R_alloc | apply Kd.R_drewN | apply Kd.R_drew)); exact Kd.R_mono HO527.out (fun _ hk => hk.2)⟩, ⟨by (with_reducible repeat (first | refine blk_drewN ?_ _ | refine blk_drew ?_ | refine blk_alloc ?_ _)); exact BK514.out⟩, ⟨by repeat (first | (with_reducible first | exact HB.out | apply below_alloc | apply pw_below_drewN | apply below_drew1 | refine below_set ?_ GE514.out) | exact HB.out)⟩⟩
     case round =>
      clear H'
      try clear c1
      try clear c2
      try clear p2
      try clear c3
      try clear c5
      try clear c13
      try clear c17
      try clear c18
      try clear c18b0
      try clear c18b1
      try clear c20
      try clear hcz11_0
      try clear hcz11_1
      try clear hcz21_0
      try clear hcz21_1
      try clear hcz23_0
      try clear hcz23_1
      try clear hcz7_0
      try clear hcz7_1
      try clear hcz9_0
      try clear hcz9_1
      try clear hfz11_0
      try clear hfz11_1
      try clear hfz21_0
      try clear hfz21_1
      try clear hfz23_0
      try clear hfz23_1
      try clear hfz7_0
      try clear hfz7_1
      try clear hfz9_0
      try clear hfz9_1
      try clear p2
      obtain ⟨x6_2, x7_2, x8_2, rfl, rfl, rfl, HA, HK2, HO_19, HO_26, HO_28, BK514, HB⟩ := hrel
      cases gk with
      | zero => exact absurd HA.out (by simp [mapmakerlaw39_OrderForests.l0])
      | succ k2 =>
       have H := HA.out; clear HA
       simp only [mapmakerlaw39_OrderForests.l0] at H
       by_cases c29 : x8_2 < (t522.length : Int)
       ·rw [if_pos c29] at H
        have c29b0 : decide (x8_2 < (t522.length : Int)) = true := decide_eq_true c29
        clear c29
        by_cases c30 : 0 ≤ x8_2
        ·rw [if_pos c30] at H
         have c30b0 : decide (0 ≤ x8_2) = true := decide_eq_true c30
         clear c30
         by_cases c31 : x8_2 < (t525.length : Int)
         ·rw [if_pos c31] at H
          have c31b0 : decide (x8_2 < (t525.length : Int)) = true := decide_eq_true c31
          clear c31
          by_cases c32 : (rd t525 x8_2) = x8_2
          ·rw [if_pos c32] at H
           have c32b0 : ((rd t525 x8_2) == x8_2) = true := beq_iff_eq.mpr c32
           have c32b1 : ((rd t525 x8_2) != x8_2) = false := bne_eq_false_iff_eq.mpr c32
           clear c32
           have H' := Aside0.mk H
           clear H
           obtain ⟨Ao33, co33, eo33⟩ := Kd.S_slice HO_26.out
           (first | subst eo33 | (injection eo33 with f1_ f2_ f3_; have f4_ := f1_.symm; have f5_ := f3_.symm; clear f1_ f2_ f3_; subst f4_; subst f5_))
           have p528 : 0 ≤ (x8_2 : Int) := of_decide_eq_true (by first | (with_reducible assumption) | assumption)
           have q528 : x8_2 < (t522.length : Int) := of_decide_eq_true (by first | (with_reducible assumption) | assumption)
           obtain ⟨ad528, A528_0, c528_0, e528, hx528_0, hl528_0, hi528_0⟩ := at_L2 (Kd.S_reads' HO_26.out).2.2 x8_2 p528 q528
           cases e528
           obtain ⟨ce528, hce528, hMe528, hcc528⟩ := Kd.S_get HO_26.out [] x8_2 p528 (by first | exact q528 | exact of_decide_eq_true (by first | (with_reducible assumption) | assumption) | (have e_ := (Kd.S_reads' HO_26.out).1; omega))
           obtain ⟨ve528_0, rfl, ge528_0⟩ := hMe528
           have hv528_0 := hcc528 0 _ rfl
           rw [Nat.add_zero, show ((Kd.slice 3 (Kd.int .i64))).sz = 1 from rfl, Nat.mul_one] at hv528_0
           replace hv528_0 := Option.some.inj (hv528_0.symm.trans hx528_0)
           rw [hv528_0] at ge528_0
           have HL528_0 := Aside0.mk (show Kd.R (Kd.int .i64) 3 _ _ _ _ (rd_L2 t522 x8_2) from ge528_0); clear hv528_0 ge528_0 hcc528 hce528; have HR528_0 := Aside0.mk hi528_0; have HC528_0 := Aside0.mk hl528_0; clear hi528_0 hl528_0; replace p528 := eq_true p528; replace q528 := eq_true q528
           obtain ⟨Ao34, co34, eo34⟩ := Kd.R_slice HO_28.out
           (first | subst eo34 | (injection eo34 with f1_ f2_ f3_; have f4_ := f1_.symm; have f5_ := f3_.symm; clear f1_ f2_ f3_; subst f4_; subst f5_))
           have p529 : 0 ≤ (x8_2 : Int) := of_decide_eq_true (by first | (with_reducible assumption) | assumption)
           have q529 : x8_2 < (t525.length : Int) := of_decide_eq_true (by first | (with_reducible assumption) | assumption)
           obtain ⟨ad529, e529, hx529_0⟩ := Kd.at_int (Kd.R_reads' HO_28.out).2.2 x8_2 p529 q529
           cases e529
           replace p529 := eq_true p529; replace q529 := eq_true q529
           go_wp2
           go_roundg k2
           case measure => have := HJ1.out; have := HK2.out; omega
           case rel => exact ⟨(wrap64 (x6_2 + ((rd_L2 t522 x8_2).length : Int))), (wrap64 (x7_2 + 1)), (wrap64 (x8_2 + 1)), (by first | rfl | (simp; done) | (simp [*]; done)), (by first | rfl | (simp; done) | (simp [*]; done)), (by first | rfl | (simp; done) | (simp [*]; done)), H', ⟨by have := HJ1.out; have := HK2.out; omega⟩, ⟨by (with_reducible repeat (first | apply Kd.R_alloc | apply Kd.R_drewN | apply Kd.R_drew)); exact HO_19.out⟩, ⟨by (with_reducible repeat (first | apply Kd.S_alloc | apply Kd.S_drewN | apply Kd.S_drew)); exact HO_26.out⟩, ⟨by (with_reducible repeat (first | apply Kd.R_alloc | apply Kd.R_drewN | apply Kd.R_drew)); exact HO_28.out⟩, ⟨by (with_reducible repeat (first | refine blk_drewN ?_ _ | refine blk_drew ?_ | refine blk_alloc ?_ _)); exact BK514.out⟩, ⟨by repeat (first | (with_reducible first | exact HB.out | apply below_alloc | apply pw_below_drewN | apply below_drew1 | refine below_set ?_ GE514.out) | exact HB.out)⟩⟩
          ·rw [if_neg c32] at H
           have c32b0 : ((rd t525 x8_2) == x8_2) = false := beq_eq_false_iff_ne.mpr c32
           have c32b1 : ((rd t525 x8_2) != x8_2) = true := bne_iff_ne.mpr c32
           have H' := Aside0.mk H
           clear H
           obtain ⟨Ao35, co35, eo35⟩ := Kd.S_slice HO_26.out
           (first | subst eo35 | (injection eo35 with f1_ f2_ f3_; have f4_ := f1_.symm; have f5_ := f3_.symm; clear f1_ f2_ f3_; subst f4_; subst f5_))
           have p528 : 0 ≤ (x8_2 : Int) := of_decide_eq_true (by first | (with_reducible assumption) | assumption)
           have q528 : x8_2 < (t522.length : Int) := of_decide_eq_true (by first | (with_reducible assumption) | assumption)
           obtain ⟨ad528, A528_0, c528_0, e528, hx528_0, hl528_0, hi528_0⟩ := at_L2 (Kd.S_reads' HO_26.out).2.2 x8_2 p528 q528
           cases e528
           obtain ⟨ce528, hce528, hMe528, hcc528⟩ := Kd.S_get HO_26.out [] x8_2 p528 (by first | exact q528 | exact of_decide_eq_true (by first | (with_reducible assumption) | assumption) | (have e_ := (Kd.S_reads' HO_26.out).1; omega))
           obtain ⟨ve528_0, rfl, ge528_0⟩ := hMe528
           have hv528_0 := hcc528 0 _ rfl
           rw [Nat.add_zero, show ((Kd.slice 3 (Kd.int .i64))).sz = 1 from rfl, Nat.mul_one] at hv528_0
           replace hv528_0 := Option.some.inj (hv528_0.symm.trans hx528_0)
           rw [hv528_0] at ge528_0
           have HL528_0 := Aside0.mk (show Kd.R (Kd.int .i64) 3 _ _ _ _ (rd_L2 t522 x8_2) from ge528_0); clear hv528_0 ge528_0 hcc528 hce528; have HR528_0 := Aside0.mk hi528_0; have HC528_0 := Aside0.mk hl528_0; clear hi528_0 hl528_0; replace p528 := eq_true p528; replace q528 := eq_true q528
           obtain ⟨Ao36, co36, eo36⟩ := Kd.R_slice HO_28.out
           (first | subst eo36 | (injection eo36 with f1_ f2_ f3_; have f4_ := f1_.symm; have f5_ := f3_.symm; clear f1_ f2_ f3_; subst f4_; subst f5_))
           have p529 : 0 ≤ (x8_2 : Int) := of_decide_eq_true (by first | (with_reducible assumption) | assumption)
           have q529 : x8_2 < (t525.length : Int) := of_decide_eq_true (by first | (with_reducible assumption) | assumption)
           obtain ⟨ad529, e529, hx529_0⟩ := Kd.at_int (Kd.R_reads' HO_28.out).2.2 x8_2 p529 q529
           cases e529
           replace p529 := eq_true p529; replace q529 := eq_true q529
           go_wp2
           go_roundg k2
           case measure => have := HJ1.out; have := HK2.out; omega
           case rel => exact ⟨(wrap64 (x6_2 + ((rd_L2 t522 x8_2).length : Int))), (x7_2), (wrap64 (x8_2 + 1)), (by first | rfl | (simp; done) | (simp [*]; done)), (by first | rfl | (simp; done) | (simp [*]; done)), (by first | rfl | (simp; done) | (simp [*]; done)), H', ⟨by have := HJ1.out; have := HK2.out; omega⟩, ⟨by (with_reducible repeat (first | apply Kd.R_alloc | apply Kd.R_drewN | apply Kd.R_drew)); exact HO_19.out⟩, ⟨by (with_reducible repeat (first | apply Kd.S_alloc | apply Kd.S_drewN | apply Kd.S_drew)); exact HO_26.out⟩, ⟨by (with_reducible repeat (first | apply Kd.R_alloc | apply Kd.R_drewN | apply Kd.R_drew)); exact HO_28.out⟩, ⟨by (with_reducible repeat (first | refine blk_drewN ?_ _ | refine blk_drew ?_ | refine blk_alloc ?_ _)); exact BK514.out⟩, ⟨by repeat (first | (with_reducible first | exact HB.out | apply below_alloc | apply pw_below_drewN | apply below_drew1 | refine below_set ?_ GE514.out) | exact HB.out)⟩⟩
         ·rw [if_neg c31] at H
          have c31b0 : decide (x8_2 < (t525.length : Int)) = false := decide_eq_false c31
          clear c31
          have H' := Aside0.mk H
          clear H
          obtain ⟨Ao37, co37, eo37⟩ := Kd.S_slice HO_26.out
          (first | subst eo37 | (injection eo37 with f1_ f2_ f3_; have f4_ := f1_.symm; have f5_ := f3_.symm; clear f1_ f2_ f3_; subst f4_; subst f5_))
          have p528 : 0 ≤ (x8_2 : Int) := of_decide_eq_true (by first | (with_reducible assumption) | assumption)
          have q528 : x8_2 < (t522.length : Int) := of_decide_eq_true (by first | (with_reducible assumption) | assumption)
          obtain ⟨ad528, A528_0, c528_0, e528, hx528_0, hl528_0, hi528_0⟩ := at_L2 (Kd.S_reads' HO_26.out).2.2 x8_2 p528 q528
          cases e528
          obtain ⟨ce528, hce528, hMe528, hcc528⟩ := Kd.S_get HO_26.out [] x8_2 p528 (by first | exact q528 | exact of_decide_eq_true (by first | (with_reducible assumption) | assumption) | (have e_ := (Kd.S_reads' HO_26.out).1; omega))
          obtain ⟨ve528_0, rfl, ge528_0⟩ := hMe528
          have hv528_0 := hcc528 0 _ rfl
          rw [Nat.add_zero, show ((Kd.slice 3 (Kd.int .i64))).sz = 1 from rfl, Nat.mul_one] at hv528_0
          replace hv528_0 := Option.some.inj (hv528_0.symm.trans hx528_0)
          rw [hv528_0] at ge528_0
          have HL528_0 := Aside0.mk (show Kd.R (Kd.int .i64) 3 _ _ _ _ (rd_L2 t522 x8_2) from ge528_0); clear hv528_0 ge528_0 hcc528 hce528; have HR528_0 := Aside0.mk hi528_0; have HC528_0 := Aside0.mk hl528_0; clear hi528_0 hl528_0; replace p528 := eq_true p528; replace q528 := eq_true q528
          obtain ⟨Ao38, co38, eo38⟩ := Kd.R_slice HO_28.out
          (first | subst eo38 | (injection eo38 with f1_ f2_ f3_; have f4_ := f1_.symm; have f5_ := f3_.symm; clear f1_ f2_ f3_; subst f4_; subst f5_))
          go_wp2
          go_roundg k2
          case measure => have := HJ1.out; have := HK2.out; omega
          case rel => exact ⟨(wrap64 (x6_2 + ((rd_L2 t522 x8_2).length : Int))), (x7_2), (wrap64 (x8_2 + 1)), (by first | rfl | (simp; done) | (simp [*]; done)), (by first | rfl | (simp; done) | (simp [*]; done)), (by first | rfl | (simp; done) | (simp [*]; done)), H', ⟨by have := HJ1.out; have := HK2.out; omega⟩, ⟨by (with_reducible repeat (first | apply Kd.R_alloc | apply Kd.R_drewN | apply Kd.R_drew)); exact HO_19.out⟩, ⟨by (with_reducible repeat (first | apply Kd.S_alloc | apply Kd.S_drewN | apply Kd.S_drew)); exact HO_26.out⟩, ⟨by (with_reducible repeat (first | apply Kd.R_alloc | apply Kd.R_drewN | apply Kd.R_drew)); exact HO_28.out⟩, ⟨by (with_reducible repeat (first | refine blk_drewN ?_ _ | refine blk_drew ?_ | refine blk_alloc ?_ _)); exact BK514.out⟩, ⟨by repeat (first | (with_reducible first | exact HB.out | apply below_alloc | apply pw_below_drewN | apply below_drew1 | refine below_set ?_ GE514.out) | exact HB.out)⟩⟩
        ·rw [if_neg c30] at H
         exact absurd H (by simp)
       ·rw [if_neg c29] at H
        have c29b0 : decide (x8_2 < (t522.length : Int)) = false := decide_eq_false c29
        clear c29
        by_cases c39 : (wrap64 (Int.tdiv x6_2 2)) = (wrap64 (a0_0 - x7_2))
        ·rw [if_pos c39] at H
         have c39b0 : ((wrap64 (Int.tdiv x6_2 2)) == (wrap64 (a0_0 - x7_2))) = true := beq_iff_eq.mpr c39
         have c39b1 : ((wrap64 (Int.tdiv x6_2 2)) != (wrap64 (a0_0 - x7_2))) = false := bne_eq_false_iff_eq.mpr c39
         clear c39
         replace H := Option.bind_eq_some_iff.mp H
         obtain ⟨t530, A400, H⟩ := H
         replace H : (if t530 = 0 then (if (t525.length : Int) = a0_0 then ((mapmakerlaw39_lives.f).bind fun t531 => (some t531)) else (some false)) else (some false)) = some r := H
         have A40 := Aside0.mk A400; clear A400
         by_cases c41 : t530 = 0
         ·rw [if_pos c41] at H
          have c41b0 : (t530 == 0) = true := beq_iff_eq.mpr c41
          have c41b1 : (t530 != 0) = false := bne_eq_false_iff_eq.mpr c41
          clear c41
          by_cases c42 : (t525.length : Int) = a0_0
          ·rw [if_pos c42] at H
           have c42b0 : ((t525.length : Int) == a0_0) = true := beq_iff_eq.mpr c42
           have c42b1 : ((t525.length : Int) != a0_0) = false := bne_eq_false_iff_eq.mpr c42
           clear c42
           replace H := Option.bind_eq_some_iff.mp H
           obtain ⟨t531, A430, H⟩ := H
           replace H : (some t531) = some r := H
           have A43 := Aside0.mk A430; clear A430
           obtain rfl := Option.some.inj H
           obtain ⟨Ao44, co44, eo44⟩ := Kd.S_slice HO_26.out
           (first | subst eo44 | (injection eo44 with f1_ f2_ f3_; have f4_ := f1_.symm; have f5_ := f3_.symm; clear f1_ f2_ f3_; subst f4_; subst f5_))
           have hcz45_0 : wr.cell? ⟨gb514, 0, none⟩ = some (.int .i64 a0_0) := (blk_cell BK514.out 0).trans rfl
           have hcz45_1 : wr.cell? ⟨gb514, 1, none⟩ = some (.slice A0_1 l0_1.length c0_1) := (blk_cell BK514.out 1).trans rfl
           have hfz45_0 := blk_frozen BK514.out 0; have hfz45_1 := blk_frozen BK514.out 1
           go_wp2_with (first | (go_at_call 39; (with_reducible refine (order_Fill.calls a0_0 _ _ l0_1 _ _ t518 t530 _ ?side1 ?side2 ?side3 ?side4 A40.out).mono ?_); (case side1 => exact byC (Kd.C_below HR0_1.out HB.out)); (case side2 => exact HC0_1.out); (case side3 => repeat (first | exact (Kd.R_reads' HO_19.out).2.2 | (with_reducible refine Kd.C_alloc ?_ _) | (with_reducible refine Kd.C_drewN ?_ _) | (with_reducible refine Kd.C_drew ?_))); (case side4 => exact (Kd.R_reads' HO_19.out).2.1); rintro e w46 ⟨rfl, hb⟩; have n0_ := Aside0.mk (Kd.R_below (byR HO_19.out) hb); have n1_ := Aside0.mk (Kd.S_below (byS HO_26.out) hb); have n2_ := Aside0.mk (Kd.R_below (byR HO_28.out) hb); have n3_ := Aside0.mk (blk_below (g := gb514) (o := .cells #[.int .i64 a0_0, .slice A0_1 l0_1.length c0_1] 24 (0, 0)) (byK BK514.out) hb); have n4_ := Aside0.mk (below_step (byB1 HB.out GE514.out) hb); clear HO_19 HO_26 HO_28 BK514 HB; have HO_19 := n0_; have HO_26 := n1_; have HO_28 := n2_; have BK514 := n3_; have HB := n4_; clear n0_ n1_ n2_ n3_ n4_; (try clear hb); (try clear hb2); (try clear hk); (try clear hi); obtain ⟨Ao47, co47, eo47⟩ := Kd.R_slice HO_28.out; (first | subst eo47 | (injection eo47 with f1_ f2_ f3_; have f4_ := f1_.symm; have f5_ := f3_.symm; clear f1_ f2_ f3_; subst f4_; subst f5_)); have hcz48_0 : w46.cell? ⟨gb514, 0, none⟩ = some (.int .i64 a0_0) := (blk_cell BK514.out 0).trans rfl; have hcz48_1 : w46.cell? ⟨gb514, 1, none⟩ = some (.slice A0_1 l0_1.length c0_1) := (blk_cell BK514.out 1).trans rfl; have hfz48_0 := blk_frozen BK514.out 0; have hfz48_1 := blk_frozen BK514.out 1) | (go_at_call 32; (with_reducible refine (mapmakerlaw39_lives.calls  t531 _ A43.out).mono ?_); rintro e w49 ⟨rfl, hb⟩; have n0_ := Aside0.mk (Kd.R_below (byR HO_19.out) hb); have n1_ := Aside0.mk (Kd.S_below (byS HO_26.out) hb); have n2_ := Aside0.mk (Kd.R_below (byR HO_28.out) hb); have n3_ := Aside0.mk (blk_below (g := gb514) (o := .cells #[.int .i64 a0_0, .slice A0_1 l0_1.length c0_1] 24 (0, 0)) (byK BK514.out) hb); have n4_ := Aside0.mk (below_step (byB1 HB.out GE514.out) hb); clear HO_19 HO_26 HO_28 BK514 HB; have HO_19 := n0_; have HO_26 := n1_; have HO_28 := n2_; have BK514 := n3_; have HB := n4_; clear n0_ n1_ n2_ n3_ n4_; (try clear hb); (try clear hb2); (try clear hk); (try clear hi)))
           go_ret
           exact ⟨by first | rfl | (simp [errW_none, errW_some] <;> rfl) | (simp [*, errW_none, errW_some] <;> rfl), by repeat (first | (with_reducible first | exact HB.out | apply below_alloc | apply pw_below_drewN | apply below_drew1 | refine below_set ?_ GE514.out) | exact HB.out)⟩
          ·rw [if_neg c42] at H
           have c42b0 : ((t525.length : Int) == a0_0) = false := beq_eq_false_iff_ne.mpr c42
           have c42b1 : ((t525.length : Int) != a0_0) = true := bne_iff_ne.mpr c42
           obtain rfl := Option.some.inj H
           obtain ⟨Ao50, co50, eo50⟩ := Kd.S_slice HO_26.out
           (first | subst eo50 | (injection eo50 with f1_ f2_ f3_; have f4_ := f1_.symm; have f5_ := f3_.symm; clear f1_ f2_ f3_; subst f4_; subst f5_))
           have hcz51_0 : wr.cell? ⟨gb514, 0, none⟩ = some (.int .i64 a0_0) := (blk_cell BK514.out 0).trans rfl
           have hcz51_1 : wr.cell? ⟨gb514, 1, none⟩ = some (.slice A0_1 l0_1.length c0_1) := (blk_cell BK514.out 1).trans rfl
           have hfz51_0 := blk_frozen BK514.out 0; have hfz51_1 := blk_frozen BK514.out 1
           go_wp2_with (first | (go_at_call 39; (with_reducible refine (order_Fill.calls a0_0 _ _ l0_1 _ _ t518 t530 _ ?side1 ?side2 ?side3 ?side4 A40.out).mono ?_); (case side1 => exact byC (Kd.C_below HR0_1.out HB.out)); (case side2 => exact HC0_1.out); (case side3 => repeat (first | exact (Kd.R_reads' HO_19.out).2.2 | (with_reducible refine Kd.C_alloc ?_ _) | (with_reducible refine Kd.C_drewN ?_ _) | (with_reducible refine Kd.C_drew ?_))); (case side4 => exact (Kd.R_reads' HO_19.out).2.1); rintro e w52 ⟨rfl, hb⟩; have n0_ := Aside0.mk (Kd.R_below (byR HO_19.out) hb); have n1_ := Aside0.mk (Kd.S_below (byS HO_26.out) hb); have n2_ := Aside0.mk (Kd.R_below (byR HO_28.out) hb); have n3_ := Aside0.mk (blk_below (g := gb514) (o := .cells #[.int .i64 a0_0, .slice A0_1 l0_1.length c0_1] 24 (0, 0)) (byK BK514.out) hb); have n4_ := Aside0.mk (below_step (byB1 HB.out GE514.out) hb); clear HO_19 HO_26 HO_28 BK514 HB; have HO_19 := n0_; have HO_26 := n1_; have HO_28 := n2_; have BK514 := n3_; have HB := n4_; clear n0_ n1_ n2_ n3_ n4_; (try clear hb); (try clear hb2); (try clear hk); (try clear hi); obtain ⟨Ao53, co53, eo53⟩ := Kd.R_slice HO_28.out; (first | subst eo53 | (injection eo53 with f1_ f2_ f3_; have f4_ := f1_.symm; have f5_ := f3_.symm; clear f1_ f2_ f3_; subst f4_; subst f5_)); have hcz54_0 : w52.cell? ⟨gb514, 0, none⟩ = some (.int .i64 a0_0) := (blk_cell BK514.out 0).trans rfl; have hcz54_1 : w52.cell? ⟨gb514, 1, none⟩ = some (.slice A0_1 l0_1.length c0_1) := (blk_cell BK514.out 1).trans rfl; have hfz54_0 := blk_frozen BK514.out 0; have hfz54_1 := blk_frozen BK514.out 1))
           go_ret
           exact ⟨by first | rfl | (simp [errW_none, errW_some] <;> rfl) | (simp [*, errW_none, errW_some] <;> rfl), by repeat (first | (with_reducible first | exact HB.out | apply below_alloc | apply pw_below_drewN | apply below_drew1 | refine below_set ?_ GE514.out) | exact HB.out)⟩
         ·rw [if_neg c41] at H
          have c41b0 : (t530 == 0) = false := beq_eq_false_iff_ne.mpr c41
          have c41b1 : (t530 != 0) = true := bne_iff_ne.mpr c41
          obtain rfl := Option.some.inj H
          obtain ⟨Ao55, co55, eo55⟩ := Kd.S_slice HO_26.out
          (first | subst eo55 | (injection eo55 with f1_ f2_ f3_; have f4_ := f1_.symm; have f5_ := f3_.symm; clear f1_ f2_ f3_; subst f4_; subst f5_))
          have hcz56_0 : wr.cell? ⟨gb514, 0, none⟩ = some (.int .i64 a0_0) := (blk_cell BK514.out 0).trans rfl
          have hcz56_1 : wr.cell? ⟨gb514, 1, none⟩ = some (.slice A0_1 l0_1.length c0_1) := (blk_cell BK514.out 1).trans rfl
          have hfz56_0 := blk_frozen BK514.out 0; have hfz56_1 := blk_frozen BK514.out 1
          go_wp2_with (first | (go_at_call 39; (with_reducible refine (order_Fill.calls a0_0 _ _ l0_1 _ _ t518 t530 _ ?side1 ?side2 ?side3 ?side4 A40.out).mono ?_); (case side1 => exact byC (Kd.C_below HR0_1.out HB.out)); (case side2 => exact HC0_1.out); (case side3 => repeat (first | exact (Kd.R_reads' HO_19.out).2.2 | (with_reducible refine Kd.C_alloc ?_ _) | (with_reducible refine Kd.C_drewN ?_ _) | (with_reducible refine Kd.C_drew ?_))); (case side4 => exact (Kd.R_reads' HO_19.out).2.1); rintro e w57 ⟨rfl, hb⟩; have n0_ := Aside0.mk (Kd.R_below (byR HO_19.out) hb); have n1_ := Aside0.mk (Kd.S_below (byS HO_26.out) hb); have n2_ := Aside0.mk (Kd.R_below (byR HO_28.out) hb); have n3_ := Aside0.mk (blk_below (g := gb514) (o := .cells #[.int .i64 a0_0, .slice A0_1 l0_1.length c0_1] 24 (0, 0)) (byK BK514.out) hb); have n4_ := Aside0.mk (below_step (byB1 HB.out GE514.out) hb); clear HO_19 HO_26 HO_28 BK514 HB; have HO_19 := n0_; have HO_26 := n1_; have HO_28 := n2_; have BK514 := n3_; have HB := n4_; clear n0_ n1_ n2_ n3_ n4_; (try clear hb); (try clear hb2); (try clear hk); (try clear hi)))
          go_ret
          exact ⟨by first | rfl | (simp [errW_none, errW_some] <;> rfl) | (simp [*, errW_none, errW_some] <;> rfl), by repeat (first | (with_reducible first | exact HB.out | apply below_alloc | apply pw_below_drewN | apply below_drew1 | refine below_set ?_ GE514.out) | exact HB.out)⟩
        ·rw [if_neg c39] at H
         have c39b0 : ((wrap64 (Int.tdiv x6_2 2)) == (wrap64 (a0_0 - x7_2))) = false := beq_eq_false_iff_ne.mpr c39
         have c39b1 : ((wrap64 (Int.tdiv x6_2 2)) != (wrap64 (a0_0 - x7_2))) = true := bne_iff_ne.mpr c39
         by_cases c58 : (t525.length : Int) = a0_0
         ·rw [if_pos c58] at H
          have c58b0 : ((t525.length : Int) == a0_0) = true := beq_iff_eq.mpr c58
          have c58b1 : ((t525.length : Int) != a0_0) = false := bne_eq_false_iff_eq.mpr c58
          clear c58
          replace H := Option.bind_eq_some_iff.mp H
          obtain ⟨t532, A590, H⟩ := H
          replace H : (some t532) = some r := H
          have A59 := Aside0.mk A590; clear A590
          obtain rfl := Option.some.inj H
          obtain ⟨Ao60, co60, eo60⟩ := Kd.S_slice HO_26.out
          (first | subst eo60 | (injection eo60 with f1_ f2_ f3_; have f4_ := f1_.symm; have f5_ := f3_.symm; clear f1_ f2_ f3_; subst f4_; subst f5_))
          have hcz61_0 : wr.cell? ⟨gb514, 0, none⟩ = some (.int .i64 a0_0) := (blk_cell BK514.out 0).trans rfl
          have hcz61_1 : wr.cell? ⟨gb514, 1, none⟩ = some (.slice A0_1 l0_1.length c0_1) := (blk_cell BK514.out 1).trans rfl
          have hfz61_0 := blk_frozen BK514.out 0; have hfz61_1 := blk_frozen BK514.out 1
          obtain ⟨Ao62, co62, eo62⟩ := Kd.R_slice HO_28.out
          (first | subst eo62 | (injection eo62 with f1_ f2_ f3_; have f4_ := f1_.symm; have f5_ := f3_.symm; clear f1_ f2_ f3_; subst f4_; subst f5_))
          go_wp2_with (first | (go_at_call 32; (with_reducible refine (mapmakerlaw39_lives.calls  t532 _ A59.out).mono ?_); rintro e w63 ⟨rfl, hb⟩; have n0_ := Aside0.mk (Kd.R_below (byR HO_19.out) hb); have n1_ := Aside0.mk (Kd.S_below (byS HO_26.out) hb); have n2_ := Aside0.mk (Kd.R_below (byR HO_28.out) hb); have n3_ := Aside0.mk (blk_below (g := gb514) (o := .cells #[.int .i64 a0_0, .slice A0_1 l0_1.length c0_1] 24 (0, 0)) (byK BK514.out) hb); have n4_ := Aside0.mk (below_step (byB1 HB.out GE514.out) hb); clear HO_19 HO_26 HO_28 BK514 HB; have HO_19 := n0_; have HO_26 := n1_; have HO_28 := n2_; have BK514 := n3_; have HB := n4_; clear n0_ n1_ n2_ n3_ n4_; (try clear hb); (try clear hb2); (try clear hk); (try clear hi)))
          go_ret
          exact ⟨by first | rfl | (simp [errW_none, errW_some] <;> rfl) | (simp [*, errW_none, errW_some] <;> rfl), by repeat (first | (with_reducible first | exact HB.out | apply below_alloc | apply pw_below_drewN | apply below_drew1 | refine below_set ?_ GE514.out) | exact HB.out)⟩
         ·rw [if_neg c58] at H
          have c58b0 : ((t525.length : Int) == a0_0) = false := beq_eq_false_iff_ne.mpr c58
          have c58b1 : ((t525.length : Int) != a0_0) = true := bne_iff_ne.mpr c58
          obtain rfl := Option.some.inj H
          obtain ⟨Ao64, co64, eo64⟩ := Kd.S_slice HO_26.out
          (first | subst eo64 | (injection eo64 with f1_ f2_ f3_; have f4_ := f1_.symm; have f5_ := f3_.symm; clear f1_ f2_ f3_; subst f4_; subst f5_))
          have hcz65_0 : wr.cell? ⟨gb514, 0, none⟩ = some (.int .i64 a0_0) := (blk_cell BK514.out 0).trans rfl
          have hcz65_1 : wr.cell? ⟨gb514, 1, none⟩ = some (.slice A0_1 l0_1.length c0_1) := (blk_cell BK514.out 1).trans rfl
          have hfz65_0 := blk_frozen BK514.out 0; have hfz65_1 := blk_frozen BK514.out 1
          obtain ⟨Ao66, co66, eo66⟩ := Kd.R_slice HO_28.out
          (first | subst eo66 | (injection eo66 with f1_ f2_ f3_; have f4_ := f1_.symm; have f5_ := f3_.symm; clear f1_ f2_ f3_; subst f4_; subst f5_))
          go_wp2
          go_ret
          exact ⟨by first | rfl | (simp [errW_none, errW_some] <;> rfl) | (simp [*, errW_none, errW_some] <;> rfl), by repeat (first | (with_reducible first | exact HB.out | apply below_alloc | apply pw_below_drewN | apply below_drew1 | refine below_set ?_ GE514.out) | exact HB.out)⟩
    ·rw [if_neg c18] at H
     have c18b0 : (t521 == 0) = false := beq_eq_false_iff_ne.mpr c18
     have c18b1 : (t521 != 0) = true := bne_iff_ne.mpr c18
     obtain rfl := Option.some.inj H
     have hcz67_0 : wc.cell? ⟨gb514, 0, none⟩ = some (.int .i64 a0_0) := (blk_cell BK514.out 0).trans rfl
     have hcz67_1 : wc.cell? ⟨gb514, 1, none⟩ = some (.slice A0_1 l0_1.length c0_1) := (blk_cell BK514.out 1).trans rfl
     have hfz67_0 := blk_frozen BK514.out 0; have hfz67_1 := blk_frozen BK514.out 1
     go_wp2_with (first | ((with_reducible refine gate_callee (f := 37) rfl ?_); refine goesL_ (some 19) rfl rfl Try.func37 (by kernel_rfl) rfl #[.agg #[.int .i64 a0_0, .slice A0_1 l0_1.length c0_1]] rfl byL ?_; (with_reducible refine (order_MinDegree.calls a0_0 _ _ l0_1 t518 _ ?side1 ?side2 A16.out).mono ?_); (case side1 => exact byC (Kd.C_below HR0_1.out HB.out)); (case side2 => exact HC0_1.out); rintro e w68 ⟨v519, rfl, ho0, hb⟩; refine ⟨_, rfl, ?_⟩; have n0_ := Aside0.mk (Kd.R_lower ho0 (below_size (byB1 HB.out GE514.out))); have n1_ := Aside0.mk (blk_below (g := gb514) (o := .cells #[.int .i64 a0_0, .slice A0_1 l0_1.length c0_1] 24 (0, 0)) (byK BK514.out) hb); have n2_ := Aside0.mk (below_step (byB1 HB.out GE514.out) hb); clear BK514 HB; have HO520 := n0_; have BK514 := n1_; have HB := n2_; clear n0_ n1_ n2_; (try clear hb); (try clear hb2); (try clear hk); (try clear hi); (try clear ho0); have hcz69_0 : w68.cell? ⟨gb514, 0, none⟩ = some (.int .i64 a0_0) := (blk_cell BK514.out 0).trans rfl; have hcz69_1 : w68.cell? ⟨gb514, 1, none⟩ = some (.slice A0_1 l0_1.length c0_1) := (blk_cell BK514.out 1).trans rfl; have hfz69_0 := blk_frozen BK514.out 0; have hfz69_1 := blk_frozen BK514.out 1; obtain ⟨Ao70, co70, eo70⟩ := Kd.R_slice HO520.out; (first | subst eo70 | (injection eo70 with f1_ f2_ f3_; have f4_ := f1_.symm; have f5_ := f3_.symm; clear f1_ f2_ f3_; subst f4_; subst f5_))) | ((with_reducible refine gate_callee (f := 33) rfl ?_); refine goesL_ (some 23) rfl rfl Try.func33 (by kernel_rfl) rfl #[.int .i64 a0_0, .slice Ao70 t518.length co70] rfl byL ?_; (with_reducible refine (order_Check.calls a0_0 _ _ t518 t521 _ ?side1 ?side2 A17.out).mono ?_); (case side1 => repeat (first | exact (Kd.R_reads' HO520.out).2.2 | (with_reducible refine Kd.C_alloc ?_ _) | (with_reducible refine Kd.C_drewN ?_ _) | (with_reducible refine Kd.C_drew ?_))); (case side2 => exact (Kd.R_reads' HO520.out).2.1); rintro e w71 ⟨rfl, hb⟩; refine ⟨_, rfl, ?_⟩; have n0_ := Aside0.mk (Kd.R_below (byR HO520.out) hb); have n1_ := Aside0.mk (blk_below (g := gb514) (o := .cells #[.int .i64 a0_0, .slice A0_1 l0_1.length c0_1] 24 (0, 0)) (byK BK514.out) hb); have n2_ := Aside0.mk (below_step (byB1 HB.out GE514.out) hb); clear HO520 BK514 HB; have HO520 := n0_; have BK514 := n1_; have HB := n2_; clear n0_ n1_ n2_; (try clear hb); (try clear hb2); (try clear hk); (try clear hi)))
     go_ret
     exact ⟨by first | rfl | (simp [errW_none, errW_some] <;> rfl) | (simp [*, errW_none, errW_some] <;> rfl), by repeat (first | (with_reducible first | exact HB.out | apply below_alloc | apply pw_below_drewN | apply below_drew1 | refine below_set ?_ GE514.out) | exact HB.out)⟩

def mapmakerlaw39_OrderForests.Pure : Prop := ∀ (a0_0 : Int) (l0_1 : List (S40)), (Wf .i64 a0_0) → (l0_1.length * 16 ≤ 140737488351232 ∧ ∀ y ∈ l0_1, g40 y) → ∃ k, mapmakerlaw39_OrderForests.f k a0_0 l0_1 = some true

end Go.Proofs.Ytnnknbghfbjcnaa.Print
