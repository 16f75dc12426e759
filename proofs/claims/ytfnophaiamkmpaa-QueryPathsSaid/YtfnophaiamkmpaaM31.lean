/- Several texts of this claim in one: F18, HQDistF. -/
import Derived.Test.YtfnophaiamkmpaaPrint0
import Derived.Test.YtfnophaiamkmpaaF32
import Derived.Test.YtfnophaiamkmpaaM0
import Derived.Test.YtfnophaiamkmpaaM30
namespace Go.Proofs.Ytfnophaiamkmpaa.Print
open Go.RowKit Go.Proofs.YtfnophaiamkmpaaW.PrintWords Go.Proofs.YtfnophaiamkmpaaW.PrintLast Go.Proofs.YtfnophaiamkmpaaW.PrintMore
attribute [local go_sem] max2_int min2_int max_two min_two max_three min_three max_four min_four   -- for this text's walks alone
set_option linter.unusedVariables false
set_option linter.unusedSimpArgs false

/-! ### mapmakerref42_Dist: function 18 -/
def mapmakerref42_Dist.j0 : Nat → List Int → Int → Int → Bool → Int → List (S58) → Option (Int × Int)
 | 0, _, _, _, _, _, _ => none
 | k + 1, x1, x2, x3, x29, x132000, x132001 => if x29 = true then (some (0, 2)) else ((mapmakerref38_From.f k x132000 x132001 x1 x2).bind fun bt132 => (if bt132.2 = 0 then (if 0 ≤ x3 then (if x3 < (bt132.1.length : Int) then (some (rd bt132.1 x3, 0)) else (none)) else (none)) else (some (0, bt132.2))))
def mapmakerref42_Dist.f (k : Nat) (a0_0 : Int) (l0_1 : List (S58)) (l1 : List Int) (a2 : Int) (a3 : Int) : Option (Int × Int) := if a2 < 0 then (mapmakerref42_Dist.j0 k l1 a2 a3 true a0_0 l0_1) else (if a2 ≥ a0_0 then (mapmakerref42_Dist.j0 k l1 a2 a3 true a0_0 l0_1) else (if a3 < 0 then (mapmakerref42_Dist.j0 k l1 a2 a3 true a0_0 l0_1) else (mapmakerref42_Dist.j0 k l1 a2 a3 (decide (a3 ≥ a0_0)) a0_0 l0_1)))
set_option maxHeartbeats 8000000 in
set_option maxRecDepth 100000 in
theorem mapmakerref42_Dist.calls (k : Nat) (a0_0 : Int) (A0_1 : Option Addr) (c0_1 : Nat) (l0_1 : List (S58)) (A1 : Option Addr) (c1 : Nat) (l1 : List Int) (a2 : Int) (a3 : Int) (r1 : Int) (r2 : Int) (w : World) (hr0_1 : Kd.C k58 w A0_1 l0_1.length l0_1) (hc0_1 : l0_1.length ≤ c0_1) (hr1 : Kd.C (Kd.int .i64) w A1 l1.length l1) (hc1 : l1.length ≤ c1) (h : mapmakerref42_Dist.f k a0_0 l0_1 l1 a2 a3 = some (r1, r2)) :
  Calls Try.prog 18 #[.agg #[.int .i64 a0_0, .slice A0_1 l0_1.length c0_1], .slice A1 l1.length c1, .int .i64 a2, .int .i64 a3] w fun e w' => e = .returned (.tuple #[.int .i64 r1, .int .i64 r2]) ∧ Below w.heap.size w w' := by
 have hu24 := Try.underlying24; have HR0_1 := Aside0.mk hr0_1; have HC0_1 := Aside0.mk hc0_1; clear hr0_1 hc0_1; have HR1 := Aside0.mk hr1; have HC1 := Aside0.mk hc1; clear hr1 hc1; have HB := Aside0.mk (Below.refl w.heap.size w)
 have H : (if a2 < 0 then (mapmakerref42_Dist.j0 k l1 a2 a3 true a0_0 l0_1) else (if a2 ≥ a0_0 then (mapmakerref42_Dist.j0 k l1 a2 a3 true a0_0 l0_1) else (if a3 < 0 then (mapmakerref42_Dist.j0 k l1 a2 a3 true a0_0 l0_1) else (mapmakerref42_Dist.j0 k l1 a2 a3 (decide (a3 ≥ a0_0)) a0_0 l0_1)))) = some (r1, r2) := h
 clear h; have HC5 := Aside0.mk H; clear H
 go_enter Try.func18, Try.ntmps18
 go_upto_region 1 with (first | ((with_reducible refine gate_dst (N := 4) rfl ?_); refine box_event ?hg (N := 4) ?hd (cs := #[.int .i64 a0_0, .slice A0_1 l0_1.length c0_1]) (t := 24) ?hr ?_; (case hd => rfl); (case hg => rfl); (case hr => first | (go_simp; done) | (go_simp; rfl)); intro gb131 hg w6 hbox hb; have n0_ := Aside0.mk (below_step (byB HB.out) hb); have n1_ := Aside0.mk (hbox); have n2_ := Aside0.mk ((by rw [hg]; exact (below_size (byB HB.out)) : w.heap.size ≤ gb131)); have n3_ := Aside0.mk ((by rw [hg]; exact (below_size (byB HB.out)) : w.heap.size ≤ gb131)); clear HB; have HB := n0_; have BK131 := n1_; have GW131 := n2_; have GE131 := n3_; clear n0_ n1_ n2_ n3_ hb hbox hg))
 (try simp only [Act.put, List.setIfInBounds_toArray, List.set_cons_zero, List.set_cons_succ])
 go_cut [29] (fun v29 wc => ∃ (kq : Nat) (x29_4 : Bool), v29 = .bool x29_4 ∧ Aside0 (mapmakerref42_Dist.j0 kq l1 a2 a3 x29_4 a0_0 l0_1 = some (r1, r2)) ∧ Aside0 (kq ≤ k) ∧ Aside0 (wc.heap[gb131]? = some (.cells #[.int .i64 a0_0, (.slice A0_1 l0_1.length c0_1)] 24 (0, 0))) ∧ Aside0 (Below w.heap.size w wc))
 case first =>
  have H := HC5.out; clear HC5
  by_cases c7 : a2 < 0
  ·rw [if_pos c7] at H
   have c7b0 : decide (a2 < 0) = true := decide_eq_true c7
   clear c7
   (first | rw [c7b0] | (simp only [i64_w, i32_w]; rw [c7b0]) | skip)
   have H' := Aside0.mk H
   clear H
   go_wp2
   go_meet
   case rel => exact ⟨_, (true), (by first | rfl | (simp; done) | (simp [*]; done)), H', ⟨by first | omega | exact Nat.le_refl _⟩, ⟨by (with_reducible repeat (first | refine blk_drewN ?_ _ | refine blk_drew ?_ | refine blk_alloc ?_ _)); exact BK131.out⟩, ⟨by repeat (first | (with_reducible first | exact HB.out | apply below_alloc | apply pw_below_drewN | apply below_drew1 | refine below_set ?_ GE131.out) | exact HB.out)⟩⟩
  ·rw [if_neg c7] at H
   have c7b0 : decide (a2 < 0) = false := decide_eq_false c7
   clear c7
   (first | rw [c7b0] | (simp only [i64_w, i32_w]; rw [c7b0]) | skip)
   by_cases c8 : a2 ≥ a0_0
   ·rw [if_pos c8] at H
    have c8b0 : decide (a0_0 ≤ a2) = true := decide_eq_true c8
    clear c8
    have H' := Aside0.mk H
    clear H
    have hcz9_0 : w6.cell? ⟨gb131, 0, none⟩ = some (.int .i64 a0_0) := (blk_cell BK131.out 0).trans rfl
    have hcz9_1 : w6.cell? ⟨gb131, 1, none⟩ = some (.slice A0_1 l0_1.length c0_1) := (blk_cell BK131.out 1).trans rfl
    have hfz9_0 := blk_frozen BK131.out 0; have hfz9_1 := blk_frozen BK131.out 1
    go_wp2
    go_meet
    case rel => exact ⟨_, (true), (by first | rfl | (simp; done) | (simp [*]; done)), H', ⟨by first | omega | exact Nat.le_refl _⟩, ⟨by (with_reducible repeat (first | refine blk_drewN ?_ _ | refine blk_drew ?_ | refine blk_alloc ?_ _)); exact BK131.out⟩, ⟨by repeat (first | (with_reducible first | exact HB.out | apply below_alloc | apply pw_below_drewN | apply below_drew1 | refine below_set ?_ GE131.out) | exact HB.out)⟩⟩
   ·rw [if_neg c8] at H
    have c8b0 : decide (a0_0 ≤ a2) = false := decide_eq_false c8
    clear c8
    by_cases c10 : a3 < 0
    ·rw [if_pos c10] at H
     have c10b0 : decide (a3 < 0) = true := decide_eq_true c10
     clear c10
     have H' := Aside0.mk H
     clear H
     have hcz11_0 : w6.cell? ⟨gb131, 0, none⟩ = some (.int .i64 a0_0) := (blk_cell BK131.out 0).trans rfl
     have hcz11_1 : w6.cell? ⟨gb131, 1, none⟩ = some (.slice A0_1 l0_1.length c0_1) := (blk_cell BK131.out 1).trans rfl
     have hfz11_0 := blk_frozen BK131.out 0; have hfz11_1 := blk_frozen BK131.out 1
     go_wp2
     go_meet
     case rel => exact ⟨_, (true), (by first | rfl | (simp; done) | (simp [*]; done)), H', ⟨by first | omega | exact Nat.le_refl _⟩, ⟨by (with_reducible repeat (first | refine blk_drewN ?_ _ | refine blk_drew ?_ | refine blk_alloc ?_ _)); exact BK131.out⟩, ⟨by repeat (first | (with_reducible first | exact HB.out | apply below_alloc | apply pw_below_drewN | apply below_drew1 | refine below_set ?_ GE131.out) | exact HB.out)⟩⟩
    ·rw [if_neg c10] at H
     have c10b0 : decide (a3 < 0) = false := decide_eq_false c10
     clear c10
     have H' := Aside0.mk H
     clear H
     have hcz12_0 : w6.cell? ⟨gb131, 0, none⟩ = some (.int .i64 a0_0) := (blk_cell BK131.out 0).trans rfl
     have hcz12_1 : w6.cell? ⟨gb131, 1, none⟩ = some (.slice A0_1 l0_1.length c0_1) := (blk_cell BK131.out 1).trans rfl
     have hfz12_0 := blk_frozen BK131.out 0; have hfz12_1 := blk_frozen BK131.out 1
     go_wp2
     go_meet
     case rel => exact ⟨_, (decide (a3 ≥ a0_0)), (by first | rfl | (simp; done) | (simp [*]; done)), H', ⟨by first | omega | exact Nat.le_refl _⟩, ⟨by (with_reducible repeat (first | refine blk_drewN ?_ _ | refine blk_drew ?_ | refine blk_alloc ?_ _)); exact BK131.out⟩, ⟨by repeat (first | (with_reducible first | exact HB.out | apply below_alloc | apply pw_below_drewN | apply below_drew1 | refine below_set ?_ GE131.out) | exact HB.out)⟩⟩
 case rest =>
  clear HC5
  try clear c1
  try clear p2
  try clear c7
  try clear c7b0
  try clear c8
  try clear c8b0
  try clear c10
  try clear c10b0
  try clear hcz11_0
  try clear hcz11_1
  try clear hcz12_0
  try clear hcz12_1
  try clear hcz9_0
  try clear hcz9_1
  try clear hfz11_0
  try clear hfz11_1
  try clear hfz12_0
  try clear hfz12_1
  try clear hfz9_0
  try clear hfz9_1
  obtain ⟨kq, x29_4, rfl, HA, HJ4, BK131, HB⟩ := hcut
  cases kq with
  | zero => exact absurd HA.out (by simp [mapmakerref42_Dist.j0])
  | succ kj4 =>
   have H := HA.out; clear HA
   simp only [mapmakerref42_Dist.j0] at H
   by_cases c13 : x29_4 = true
   ·subst c13
    have H1 : (some (0, 2)) = some (r1, r2) := by rw [if_pos rfl] at H; exact H
    clear H; have H := H1; clear H1
    simp only [Option.some.injEq, Prod.mk.injEq] at H
    obtain ⟨rfl, rfl⟩ := H
    go_wp2
    go_ret2
    exact ⟨by first | rfl | (simp [errW_none, errW_some] <;> rfl) | (simp [*, errW_none, errW_some] <;> rfl), by repeat (first | (with_reducible first | exact HB.out | apply below_alloc | apply pw_below_drewN | apply below_drew1 | refine below_set ?_ GE131.out) | exact HB.out)⟩
   ·replace c13 := Bool.eq_false_iff.mpr c13
    subst c13
    have H1 : ((mapmakerref38_From.f kj4 a0_0 l0_1 l1 a2).bind fun bt132 => (if bt132.2 = 0 then (if 0 ≤ a3 then (if a3 < (bt132.1.length : Int) then (some (rd bt132.1 a3, 0)) else (none)) else (none)) else (some (0, bt132.2)))) = some (r1, r2) := by rw [if_neg (show ¬ (false = true) by decide)] at H; exact H
    clear H; have H := H1; clear H1
    replace H := Option.bind_eq_some_iff.mp H
    obtain ⟨⟨t132, t135⟩, A140, H⟩ := H
    replace H : (if t135 = 0 then (if 0 ≤ a3 then (if a3 < (t132.length : Int) then (some (rd t132 a3, 0)) else (none)) else (none)) else (some (0, t135))) = some (r1, r2) := H
    have A14 := Aside0.mk A140; clear A140
    by_cases c15 : t135 = 0
    ·rw [if_pos c15] at H
     have c15b0 : (t135 == 0) = true := beq_iff_eq.mpr c15
     have c15b1 : (t135 != 0) = false := bne_eq_false_iff_eq.mpr c15
     clear c15
     by_cases c16 : 0 ≤ a3
     ·rw [if_pos c16] at H
      have c16b0 : decide (0 ≤ a3) = true := decide_eq_true c16
      clear c16
      by_cases c17 : a3 < (t132.length : Int)
      ·rw [if_pos c17] at H
       have c17b0 : decide (a3 < (t132.length : Int)) = true := decide_eq_true c17
       clear c17
       simp only [Option.some.injEq, Prod.mk.injEq] at H
       obtain ⟨rfl, rfl⟩ := H
       have hcz18_0 : wc.cell? ⟨gb131, 0, none⟩ = some (.int .i64 a0_0) := (blk_cell BK131.out 0).trans rfl
       have hcz18_1 : wc.cell? ⟨gb131, 1, none⟩ = some (.slice A0_1 l0_1.length c0_1) := (blk_cell BK131.out 1).trans rfl
       have hfz18_0 := blk_frozen BK131.out 0; have hfz18_1 := blk_frozen BK131.out 1
       go_wp2_with (first | ((with_reducible refine gate_callee (f := 32) rfl ?_); refine goesL_ (some 34) rfl rfl Try.func32 (by kernel_rfl) rfl #[.agg #[.int .i64 a0_0, .slice A0_1 l0_1.length c0_1], .slice A1 l1.length c1, .int .i64 a2] rfl byL ?_; (with_reducible refine (mapmakerref38_From.calls kj4 a0_0 _ _ l0_1 _ _ l1 a2 t132 t135 _ ?side1 ?side2 ?side3 ?side4 A14.out).mono ?_); (case side1 => exact byC (Kd.C_below HR0_1.out HB.out)); (case side2 => exact HC0_1.out); (case side3 => exact byC (Kd.C_below HR1.out HB.out)); (case side4 => exact HC1.out); rintro e w19 ⟨v133, rfl, ho0, hb⟩; refine ⟨_, rfl, ?_⟩; have n0_ := Aside0.mk (Kd.R_lower ho0 (below_size (byB1 HB.out GE131.out))); have n1_ := Aside0.mk (blk_below (g := gb131) (o := .cells #[.int .i64 a0_0, .slice A0_1 l0_1.length c0_1] 24 (0, 0)) (byK BK131.out) hb); have n2_ := Aside0.mk (below_step (byB1 HB.out GE131.out) hb); clear BK131 HB; have HO134 := n0_; have BK131 := n1_; have HB := n2_; clear n0_ n1_ n2_; (try clear hb); (try clear hb2); (try clear hk); (try clear hi); (try clear ho0); obtain ⟨Ao20, co20, eo20⟩ := Kd.R_slice HO134.out; subst eo20; have p136 : 0 ≤ (a3 : Int) := of_decide_eq_true (by first | (with_reducible assumption) | assumption); have q136 : a3 < (t132.length : Int) := of_decide_eq_true (by first | (with_reducible assumption) | assumption); obtain ⟨ad136, e136, hx136_0⟩ := Kd.at_int (Kd.R_reads' HO134.out).2.2 a3 p136 q136; cases e136; replace p136 := eq_true p136; replace q136 := eq_true q136))
       go_ret2
       exact ⟨by first | rfl | (simp [errW_none, errW_some] <;> rfl) | (simp [*, errW_none, errW_some] <;> rfl), by repeat (first | (with_reducible first | exact HB.out | apply below_alloc | apply pw_below_drewN | apply below_drew1 | refine below_set ?_ GE131.out) | exact HB.out)⟩
      ·rw [if_neg c17] at H
       exact absurd H (by simp)
     ·rw [if_neg c16] at H
      exact absurd H (by simp)
    ·rw [if_neg c15] at H
     have c15b0 : (t135 == 0) = false := beq_eq_false_iff_ne.mpr c15
     have c15b1 : (t135 != 0) = true := bne_iff_ne.mpr c15
     simp only [Option.some.injEq, Prod.mk.injEq] at H
     obtain ⟨rfl, rfl⟩ := H
     have hcz21_0 : wc.cell? ⟨gb131, 0, none⟩ = some (.int .i64 a0_0) := (blk_cell BK131.out 0).trans rfl
     have hcz21_1 : wc.cell? ⟨gb131, 1, none⟩ = some (.slice A0_1 l0_1.length c0_1) := (blk_cell BK131.out 1).trans rfl
     have hfz21_0 := blk_frozen BK131.out 0; have hfz21_1 := blk_frozen BK131.out 1
     go_wp2_with (first | ((with_reducible refine gate_callee (f := 32) rfl ?_); refine goesL_ (some 34) rfl rfl Try.func32 (by kernel_rfl) rfl #[.agg #[.int .i64 a0_0, .slice A0_1 l0_1.length c0_1], .slice A1 l1.length c1, .int .i64 a2] rfl byL ?_; (with_reducible refine (mapmakerref38_From.calls kj4 a0_0 _ _ l0_1 _ _ l1 a2 t132 t135 _ ?side1 ?side2 ?side3 ?side4 A14.out).mono ?_); (case side1 => exact byC (Kd.C_below HR0_1.out HB.out)); (case side2 => exact HC0_1.out); (case side3 => exact byC (Kd.C_below HR1.out HB.out)); (case side4 => exact HC1.out); rintro e w22 ⟨v133, rfl, ho0, hb⟩; refine ⟨_, rfl, ?_⟩; have n0_ := Aside0.mk (Kd.R_lower ho0 (below_size (byB1 HB.out GE131.out))); have n1_ := Aside0.mk (blk_below (g := gb131) (o := .cells #[.int .i64 a0_0, .slice A0_1 l0_1.length c0_1] 24 (0, 0)) (byK BK131.out) hb); have n2_ := Aside0.mk (below_step (byB1 HB.out GE131.out) hb); clear BK131 HB; have HO134 := n0_; have BK131 := n1_; have HB := n2_; clear n0_ n1_ n2_; (try clear hb); (try clear hb2); (try clear hk); (try clear hi); (try clear ho0)))
     go_ret2
     exact ⟨by first | rfl | (simp [errW_none, errW_some] <;> rfl) | (simp [*, errW_none, errW_some] <;> rfl), by repeat (first | (with_reducible first | exact HB.out | apply below_alloc | apply pw_below_drewN | apply below_drew1 | refine below_set ?_ GE131.out) | exact HB.out)⟩

end Go.Proofs.Ytfnophaiamkmpaa.Print
namespace Go.Proofs.Ytfnophaiamkmpaa.Print
open Go.RowKit Go.Proofs.YtfnophaiamkmpaaW.PrintWords Go.Proofs.YtfnophaiamkmpaaW.PrintLast Go.Proofs.YtfnophaiamkmpaaW.PrintMore
set_option linter.unusedVariables false
set_option linter.unusedSimpArgs false

theorem Hk.arcEnds {n : Nat} {arcs : List S58} {L : List Int} (h : Hk n arcs L) : ∀ i, i < arcs.length → (0 ≤ (arcs.getD i z58).f0 ∧ (arcs.getD i z58).f0 < (n : Int)) ∧ (0 ≤ (arcs.getD i z58).f1 ∧ (arcs.getD i z58).f1 < (n : Int)) := fun i hi => by
 have h1 := (chk_ok h.chk).2.2 i hi
 rw [gA_ _ hi]
 exact ⟨⟨h1.1, h1.2.1⟩, h1.2.2.1, h1.2.2.2⟩
theorem Hk.meet_low {n : Nat} {arcs : List S58} {L ws : List Int} (h : Hk n arcs L) (hwl : ws.length = arcs.length) (hwr : ∀ i, i < ws.length → ws.getD i 0 ≤ 1073741824) (hn : n ≤ 20) {x y : Nat} (hx : x < n) (hy : y < n) (hf : (meetF n arcs L ws x y).2.2 = true) : 0 ≤ (meetF n arcs L ws x y).2.1 ∧ (meetF n arcs L ws x y).2.1 < 100000000000000000 := by
 obtain ⟨a, c, h1, h2, h3⟩ := h.meet_at hx hf
 have p1 := h.path_bound hwl hwr hn hx ((h.climbF_ok (ws := ws) (b := false) hx).att _ _ h1)
 have p2 := h.path_bound hwl hwr hn hy ((h.climbF_ok (ws := ws) (b := true) hy).att _ _ h2)
 omega
structure DistI (n : Nat) (arcs : List S58) (L ws : List Int) (s t D f : Int) : Prop where
 ev : ∃ k, mapmakerref42_Dist.f k (n : Int) arcs ws s t = some (D, f)
 no : (hasV n s = false ∨ hasV n t = false) → D = 0 ∧ f = 2
 at_ : ∀ x y : Nat, x < n → y < n → L.getD x 0 = s → L.getD y 0 = t → f = 0 ∧ ((meetF n arcs L ws x y).2.2 = true → (meetF n arcs L ws x y).2.1 = D ∧ D ≠ mInf) ∧ ((meetF n arcs L ws x y).2.2 = false → D = mInf)
theorem dist42 {n : Nat} {arcs : List S58} {L ws : List Int} (ho : NetOk n arcs L ws) (s t : Int) : ∃ D f, DistI n arcs L ws s t D f := by
 have hn := ho.hn
 have hal := ho.al
 have hp := ho.pc 0 0
 by_cases hs : hasV n s = true
 ·obtain ⟨sN, hsN, rfl⟩ := hasV_iff.1 hs
  by_cases ht : hasV n t = true
  ·obtain ⟨tN, htN, rfl⟩ := hasV_iff.1 ht
   obtain ⟨d, hd, k, hk⟩ := dist_ev (n := n) (arcs := arcs) (ws := ws) (s := sN) hsN ho.hk.arcEnds (by omega) (by omega) hp.wl hp.wr ho.hd
   have hk1 := hk k (Nat.le_refl _)
   refine ⟨d.getD tN 0, 0, ⟨k + 1, ?_⟩, fun hx => ?_, fun x y hx hy hxs hyt => ⟨rfl, ?_⟩⟩
   ·unfold mapmakerref42_Dist.f
    rw [if_neg (by omega), if_neg (by omega), if_neg (by omega), decide_eq_false (by omega)]
    simp only [mapmakerref42_Dist.j0]
    have hk2 : mapmakerref38_From.f k (n : Int) arcs ws (sN : Int) = some (d, 0) := hk1
    rw [if_neg Bool.false_ne_true, hk2, Option.bind_some]
    dsimp only
    rw [if_pos rfl, if_pos (by omega), if_pos (by rw [hd.len]; omega)]
    rw [rd_get d (by rw [hd.len]; exact htN), getD_at (by rw [hd.len]; exact htN)]
   ·rcases hx with hx | hx
    ·rw [hs] at hx; cases hx
    ·rw [ht] at hx; cases hx
   ·have h1 := ho.hk.meet_dist hp.wl hp.wr hp.hn hx hy hxs hyt htN hd
    refine ⟨fun hf => ⟨h1.1 hf, ?_⟩, h1.2⟩
    have h2 := ho.hk.meet_low hp.wl hp.wr hp.hn hx hy hf
    have h3 : (meetF n arcs L ws x y).2.1 = d.getD tN 0 := h1.1 hf
    rw [← h3]
    unfold mInf
    omega
  ·refine ⟨0, 2, ⟨1, ?_⟩, fun _ => ⟨rfl, rfl⟩, fun x y hx hy hxs hyt => absurd ?_ ht⟩
   ·have h0 : ¬ (0 ≤ t ∧ t < (n : Int)) := fun hx => ht (hasV_iff.2 ⟨t.toNat, by omega, by omega⟩)
    unfold mapmakerref42_Dist.f
    rw [if_neg (by omega), if_neg (by omega)]
    by_cases h1 : t < 0
    ·rw [if_pos h1]
     rfl
    ·rw [if_neg h1, decide_eq_true (by omega)]
     rfl
   ·have := ord_vx ho.hk.ord hy
    rw [hyt] at this
    exact hasV_iff.2 ⟨t.toNat, by omega, by omega⟩
 ·refine ⟨0, 2, ⟨1, ?_⟩, fun _ => ⟨rfl, rfl⟩, fun x y hx hy hxs hyt => absurd ?_ hs⟩
  ·have h0 : ¬ (0 ≤ s ∧ s < (n : Int)) := fun hx => hs (hasV_iff.2 ⟨s.toNat, by omega, by omega⟩)
   unfold mapmakerref42_Dist.f
   by_cases h1 : s < 0
   ·rw [if_pos h1]
    rfl
   ·rw [if_neg h1, if_pos (by omega)]
    rfl
  ·have := ord_vx ho.hk.ord hx
   rw [hxs] at this
   exact hasV_iff.2 ⟨s.toNat, by omega, by omega⟩
end Go.Proofs.Ytfnophaiamkmpaa.Print
