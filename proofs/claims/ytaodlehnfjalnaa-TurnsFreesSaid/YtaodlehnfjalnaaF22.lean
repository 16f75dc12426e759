/- Written by a program of this claim's author (xprint.py, over the kit's print.py): the call of mapmaker/mapmakerref38.From comes to what the Lean function of its name says. -/
import Derived.Test.YtaodlehnfjalnaaPrint0
import Derived.Test.YtaodlehnfjalnaaM11
import Derived.Test.YtaodlehnfjalnaaM0
namespace Go.Proofs.Ytaodlehnfjalnaa.Print
open Go.RowKit Go.Proofs.YtaodlehnfjalnaaW.PrintWords Go.Proofs.YtaodlehnfjalnaaW.PrintLast Go.Proofs.YtaodlehnfjalnaaW.PrintMore
attribute [local go_sem] max2_int min2_int max_two min_two max_three min_three max_four min_four   -- for this text's walks alone
set_option linter.unusedVariables false
set_option linter.unusedSimpArgs false
/-! ### mapmakerref38_From: function 22 -/
mutual
def mapmakerref38_From.j0 : Nat → List Int → Int → Bool → Int → List (S92) → Option (List Int × Int)
 | 0, _, _, _, _, _ => none
 | k + 1, x1, x2, x27, x273000, x273001 => if x27 = true then (some (([] : List Int), 2)) else (mapmakerref38_From.l0 k x1 x2 ([] : List Int) 0 x273000 x273001)
def mapmakerref38_From.l0 : Nat → List Int → Int → List Int → Int → Int → List (S92) → Option (List Int × Int)
 | 0, _, _, _, _, _, _ => none
 | k + 1, x1, x2, x9, x10, x273000, x273001 => if x10 < x273000 then (if x9.length < 17592186044416 then (mapmakerref38_From.l0 k x1 x2 (x9 ++ [1152921504606846976]) (wrap64 (x10 + 1)) x273000 x273001) else (none)) else (if 0 ≤ x2 then (if x2 < (x9.length : Int) then (mapmakerref38_From.l1 k x1 (x9.set (x2 : Int).toNat 0) true x273000 x273001) else (none)) else (none))
def mapmakerref38_From.l1 : Nat → List Int → List Int → Bool → Int → List (S92) → Option (List Int × Int)
 | 0, _, _, _, _, _ => none
 | k + 1, x1, x9, x11, x273000, x273001 => if x11 = true then (mapmakerref38_From.l2 k x1 x9 false 0 x273000 x273001) else (some (x9, 0))
def mapmakerref38_From.l2 : Nat → List Int → List Int → Bool → Int → Int → List (S92) → Option (List Int × Int)
 | 0, _, _, _, _, _, _ => none
 | k + 1, x1, x9, x11, x12, x273000, x273001 => if x12 < (x273001.length : Int) then (if 0 ≤ x12 then (if x12 < (x1.length : Int) then (if (rd x1 x12) ≥ 0 then (if 0 ≤ ((rd_T92 x273001 x12).f0) then (if ((rd_T92 x273001 x12).f0) < (x9.length : Int) then (if (rd x9 ((rd_T92 x273001 x12).f0)) < 1152921504606846976 then (if 0 ≤ ((rd_T92 x273001 x12).f1) then (if ((rd_T92 x273001 x12).f1) < (x9.length : Int) then (if (wrap64 ((rd x9 ((rd_T92 x273001 x12).f0)) + (rd x1 x12))) < (rd x9 ((rd_T92 x273001 x12).f1)) then (mapmakerref38_From.l2 k x1 (x9.set (((rd_T92 x273001 x12).f1) : Int).toNat (wrap64 ((rd x9 ((rd_T92 x273001 x12).f0)) + (rd x1 x12)))) true (wrap64 (x12 + 1)) x273000 x273001) else (mapmakerref38_From.l2 k x1 x9 x11 (wrap64 (x12 + 1)) x273000 x273001)) else (none)) else (none)) else (mapmakerref38_From.l2 k x1 x9 x11 (wrap64 (x12 + 1)) x273000 x273001)) else (none)) else (none)) else (mapmakerref38_From.l2 k x1 x9 x11 (wrap64 (x12 + 1)) x273000 x273001)) else (none)) else (none)) else (mapmakerref38_From.l1 k x1 x9 x11 x273000 x273001)
end
def mapmakerref38_From.f (k : Nat) (a0_0 : Int) (l0_1 : List (S92)) (l1 : List Int) (a2 : Int) : Option (List Int × Int) := (mapmakerref38_Check.f k a0_0 l0_1 l1).bind fun t273 => (if t273 = 0 then (if a2 < 0 then (mapmakerref38_From.j0 k l1 a2 true a0_0 l0_1) else (mapmakerref38_From.j0 k l1 a2 (decide (a2 ≥ a0_0)) a0_0 l0_1)) else (some (([] : List Int), t273)))
def mapmakerref38_From.T19 : Bool × List (List Nat × List Nat) := (true, [([], []), ([], []), ([0, 1], [0, 1]), ([2], [2]), ([3], [3]), ([4], [4]), ([5], [5]), ([5], [5]), ([7, 5], [5, 7]), ([6, 8, 5], [5, 6, 8]), ([9, 5], [5, 9]), ([10, 5], [5, 10]), ([5, 11], [5, 11]), ([12, 5], [12]), ([13], [13]), ([13], [13]), ([15, 13], [13, 15]), ([14, 16, 13], [13, 14, 16]), ([17, 13], [13, 17]), ([13], [13]), ([13], [13]), ([19, 20, 13], [13, 19, 20]), ([21, 13], [13, 21]), ([18, 22, 13], [13, 18, 22]), ([13], [13]), ([13], [13]), ([25, 13], [13, 25]), ([24, 26, 13], [13, 24, 26]), ([27, 13], [13, 27]), ([23, 28, 13], [13, 23, 28]), ([13, 29], [13, 29])])
def mapmakerref38_From.B19 : List Nat := [0, 0, 3, 7, 15, 31, 63, 63, 191, 511, 1023, 2047, 4095, 8191, 16383, 16383, 49151, 131071, 262143, 16383, 16383, 1589247, 3686399, 8388607, 16383, 16383, 33570815, 117456895, 251674623, 536870911, 1073741823]
theorem mapmakerref38_From.tab19 : rtab .any (opsOf Try.f22 19) = mapmakerref38_From.T19 := by kernel_rfl
theorem mapmakerref38_From.bits19 : waitsOk mapmakerref38_From.T19.2 mapmakerref38_From.B19 = true := by kernel_rfl
def mapmakerref38_From.T20 : Bool × List (List Nat × List Nat) := (true, [([], []), ([], []), ([1], [1]), ([], []), ([], []), ([4], [4]), ([3, 5], [3, 5]), ([6], [6]), ([], []), ([], []), ([8, 9], [8, 9]), ([10], [10]), ([7, 11], [7, 11]), ([0, 2, 0, 1, 2, 3, 4, 5, 6, 7, 8, 9, 10, 11, 12], [0, 2]), ([13, 12, 0, 1, 2, 3, 4, 5, 6, 7, 8, 9, 10, 11, 12], [12, 13])])
def mapmakerref38_From.B20 : List Nat := [0, 0, 2, 0, 0, 16, 56, 120, 0, 0, 768, 1792, 4088, 8191, 16383]
theorem mapmakerref38_From.tab20 : rtab .any (opsOf Try.f22 20) = mapmakerref38_From.T20 := by kernel_rfl
theorem mapmakerref38_From.bits20 : waitsOk mapmakerref38_From.T20.2 mapmakerref38_From.B20 = true := by kernel_rfl
set_option maxHeartbeats 8000000 in
set_option maxRecDepth 100000 in
theorem mapmakerref38_From.calls (k : Nat) (a0_0 : Int) (A0_1 : Option Addr) (c0_1 : Nat) (l0_1 : List (S92)) (A1 : Option Addr) (c1 : Nat) (l1 : List Int) (a2 : Int) (r1 : List Int) (r2 : Int) (w : World) (hr0_1 : Kd.C k92 w A0_1 l0_1.length l0_1) (hc0_1 : l0_1.length ≤ c0_1) (hr1 : Kd.C (Kd.int .i64) w A1 l1.length l1) (hc1 : l1.length ≤ c1) (h : mapmakerref38_From.f k a0_0 l0_1 l1 a2 = some (r1, r2)) :
  Calls Try.prog 22 #[.agg #[.int .i64 a0_0, .slice A0_1 l0_1.length c0_1], .slice A1 l1.length c1, .int .i64 a2] w fun e w' => ∃ v0_ : Value, e = .returned (.tuple #[v0_, .int .i64 r2]) ∧ Kd.R (Kd.int .i64) 3 w' w.heap.size (fun _ => True) v0_ r1 ∧ Below w.heap.size w w' := by
 have hu51 := Try.underlying51; have hu92 := Try.underlying92; have HR0_1 := Aside0.mk hr0_1; have HC0_1 := Aside0.mk hc0_1; clear hr0_1 hc0_1; have HR1 := Aside0.mk hr1; have HC1 := Aside0.mk hc1; clear hr1 hc1; have HB := Aside0.mk (Below.refl w.heap.size w)
 have H : ((mapmakerref38_Check.f k a0_0 l0_1 l1).bind fun t273 => (if t273 = 0 then (if a2 < 0 then (mapmakerref38_From.j0 k l1 a2 true a0_0 l0_1) else (mapmakerref38_From.j0 k l1 a2 (decide (a2 ≥ a0_0)) a0_0 l0_1)) else (some (([] : List Int), t273)))) = some (r1, r2) := h
 clear h
 replace H := Option.bind_eq_some_iff.mp H
 obtain ⟨t273, A40, H⟩ := H
 replace H : (if t273 = 0 then (if a2 < 0 then (mapmakerref38_From.j0 k l1 a2 true a0_0 l0_1) else (mapmakerref38_From.j0 k l1 a2 (decide (a2 ≥ a0_0)) a0_0 l0_1)) else (some (([] : List Int), t273))) = some (r1, r2) := H
 have A4 := Aside0.mk A40; clear A40
 by_cases c5 : t273 = 0
 ·rw [if_pos c5] at H
  have c5b0 : (t273 == 0) = true := beq_iff_eq.mpr c5
  have c5b1 : (t273 != 0) = false := bne_eq_false_iff_eq.mpr c5
  clear c5; have HC6 := Aside0.mk H; clear H
  go_enter Try.func22, Try.ntmps22
  go_upto_region 4 with (first | ((with_reducible refine gate_dst (N := 3) rfl ?_); refine box_event ?hg (N := 3) ?hd (cs := #[.int .i64 a0_0, .slice A0_1 l0_1.length c0_1]) (t := 51) ?hr ?_; (case hd => rfl); (case hg => rfl); (case hr => first | (go_simp; done) | (go_simp; rfl)); intro gb272 hg w7 hbox hb; have n0_ := Aside0.mk (below_step (byB HB.out) hb); have n1_ := Aside0.mk (hbox); have n2_ := Aside0.mk ((by rw [hg]; exact (below_size (byB HB.out)) : w.heap.size ≤ gb272)); have n3_ := Aside0.mk ((by rw [hg]; exact (below_size (byB HB.out)) : w.heap.size ≤ gb272)); clear HB; have HB := n0_; have BK272 := n1_; have GW272 := n2_; have GE272 := n3_; clear n0_ n1_ n2_ n3_ hb hbox hg; have hcz8_0 : w7.cell? ⟨gb272, 0, none⟩ = some (.int .i64 a0_0) := (blk_cell BK272.out 0).trans rfl; have hcz8_1 : w7.cell? ⟨gb272, 1, none⟩ = some (.slice A0_1 l0_1.length c0_1) := (blk_cell BK272.out 1).trans rfl; have hfz8_0 := blk_frozen BK272.out 0; have hfz8_1 := blk_frozen BK272.out 1) | ((with_reducible refine gate_callee (f := 41) rfl ?_); refine goesL_ (some 16) rfl rfl Try.func41 (by kernel_rfl) rfl #[.agg #[.int .i64 a0_0, .slice A0_1 l0_1.length c0_1], .slice A1 l1.length c1] rfl byL ?_; (with_reducible refine (mapmakerref38_Check.calls k a0_0 _ _ l0_1 _ _ l1 t273 _ ?side1 ?side2 ?side3 ?side4 A4.out).mono ?_); (case side1 => exact byC (Kd.C_below HR0_1.out HB.out)); (case side2 => exact HC0_1.out); (case side3 => exact byC (Kd.C_below HR1.out HB.out)); (case side4 => exact HC1.out); rintro e w9 ⟨rfl, hb⟩; refine ⟨_, rfl, ?_⟩; have n0_ := Aside0.mk (blk_below (g := gb272) (o := .cells #[.int .i64 a0_0, .slice A0_1 l0_1.length c0_1] 51 (0, 0)) (byK BK272.out) hb); have n1_ := Aside0.mk (below_step (byB1 HB.out GE272.out) hb); clear BK272 HB; have BK272 := n0_; have HB := n1_; clear n0_ n1_; (try clear hb); (try clear hb2); (try clear hk); (try clear hi)))
  (try simp only [Act.put, List.setIfInBounds_toArray, List.set_cons_zero, List.set_cons_succ])
  go_cut [27] (fun v27 wc => ∃ (kq : Nat) (x27_5 : Bool), v27 = .bool x27_5 ∧ Aside0 (mapmakerref38_From.j0 kq l1 a2 x27_5 a0_0 l0_1 = some (r1, r2)) ∧ Aside0 (kq ≤ k) ∧ Aside0 (wc.heap[gb272]? = some (.cells #[.int .i64 a0_0, (.slice A0_1 l0_1.length c0_1)] 51 (0, 0))) ∧ Aside0 (Below w.heap.size w wc))
  case first =>
   have H := HC6.out; clear HC6
   by_cases c10 : a2 < 0
   ·rw [if_pos c10] at H
    have c10b0 : decide (a2 < 0) = true := decide_eq_true c10
    clear c10
    (first | rw [c10b0] | (simp only [i64_w, i32_w]; rw [c10b0]) | skip)
    have H' := Aside0.mk H
    clear H
    go_wp2
    go_meet
    case rel => exact ⟨_, (true), byF, H', ⟨by first | omega | exact Nat.le_refl _⟩, ⟨by (with_reducible repeat (first | refine blk_drewN ?_ _ | refine blk_drew ?_ | refine blk_alloc ?_ _)); exact BK272.out⟩, ⟨byB1 HB.out GE272.out⟩⟩
   ·rw [if_neg c10] at H
    have c10b0 : decide (a2 < 0) = false := decide_eq_false c10
    clear c10
    (first | rw [c10b0] | (simp only [i64_w, i32_w]; rw [c10b0]) | skip)
    have H' := Aside0.mk H
    clear H
    have hcz11_0 : w9.cell? ⟨gb272, 0, none⟩ = some (.int .i64 a0_0) := (blk_cell BK272.out 0).trans rfl
    have hcz11_1 : w9.cell? ⟨gb272, 1, none⟩ = some (.slice A0_1 l0_1.length c0_1) := (blk_cell BK272.out 1).trans rfl
    have hfz11_0 := blk_frozen BK272.out 0; have hfz11_1 := blk_frozen BK272.out 1
    go_wp2
    go_meet
    case rel => exact ⟨_, (decide (a2 ≥ a0_0)), byF, H', ⟨by first | omega | exact Nat.le_refl _⟩, ⟨by (with_reducible repeat (first | refine blk_drewN ?_ _ | refine blk_drew ?_ | refine blk_alloc ?_ _)); exact BK272.out⟩, ⟨byB1 HB.out GE272.out⟩⟩
  case rest =>
   clear HC6
   try clear c1
   try clear c2
   try clear p2
   try clear c4
   try clear c5
   try clear c5b0
   try clear c5b1
   try clear c10
   try clear c10b0
   try clear hcz11_0
   try clear hcz11_1
   try clear hcz8_0
   try clear hcz8_1
   try clear hfz11_0
   try clear hfz11_1
   try clear hfz8_0
   try clear hfz8_1
   obtain ⟨kq, x27_5, rfl, HA, HJ5, BK272, HB⟩ := hcut
   cases kq with
   | zero => exact absurd HA.out (by simp [mapmakerref38_From.j0])
   | succ kj5 =>
    have H := HA.out; clear HA
    simp only [mapmakerref38_From.j0] at H
    by_cases c12 : x27_5 = true
    ·subst c12
     have H1 : (some (([] : List Int), 2)) = some (r1, r2) := by rw [if_pos rfl] at H; exact H
     clear H; have H := H1; clear H1
     simp only [Option.some.injEq, Prod.mk.injEq] at H
     obtain ⟨rfl, rfl⟩ := H
     go_wp2
     go_ret2
     exact ⟨_, byE, by first | exact Kd.R_nil _ _ _ _ _ | exact Kd.N_nil _ _ _ _ _ | exact Kd.V_nil _ _ _ _ _ | exact Kd.Q_nil _ _ _ _ _ | exact Kd.S_nil _ _ _ _ _, byB1 HB.out GE272.out⟩
    ·replace c12 := Bool.eq_false_iff.mpr c12
     subst c12
     have H1 : (mapmakerref38_From.l0 kj5 l1 a2 ([] : List Int) 0 a0_0 l0_1) = some (r1, r2) := by rw [if_neg (show ¬ (false = true) by decide)] at H; exact H
     clear H; have H := H1; clear H1
     have H' := Aside0.mk H
     clear H
     go_wp2
     go_loopg [9, 10] kj5 (fun kq v9 v10 w' => ∃ (x9_2 : List Int) (x10_2 : Int), v10 = .int .i64 x10_2 ∧ Aside0 (mapmakerref38_From.l0 kq l1 a2 x9_2 x10_2 a0_0 l0_1 = some (r1, r2)) ∧ Aside0 (kq ≤ kj5) ∧ Aside0 (Kd.R (Kd.int .i64) 3 w' w.heap.size (fun _ => True) v9 x9_2) ∧ Aside0 (w'.heap[gb272]? = some (.cells #[.int .i64 a0_0, (.slice A0_1 l0_1.length c0_1)] 51 (0, 0))) ∧ Aside0 (Below w.heap.size w w'))
     case atStart => exact ⟨(([] : List Int)), (0), byF, H', ⟨Nat.le_refl _⟩, ⟨by first | exact Kd.R_nil _ _ _ _ _ | exact Kd.N_nil _ _ _ _ _ | exact Kd.V_nil _ _ _ _ _ | exact Kd.Q_nil _ _ _ _ _ | exact Kd.S_nil _ _ _ _ _⟩, ⟨by (with_reducible repeat (first | refine blk_drewN ?_ _ | refine blk_drew ?_ | refine blk_alloc ?_ _)); exact BK272.out⟩, ⟨byB1 HB.out GE272.out⟩⟩
     case round =>
      clear H'
      try clear c1
      try clear c2
      try clear p2
      try clear c4
      try clear c5
      try clear c5b0
      try clear c5b1
      try clear c10
      try clear c10b0
      try clear c12
      try clear hcz11_0
      try clear hcz11_1
      try clear hcz8_0
      try clear hcz8_1
      try clear hfz11_0
      try clear hfz11_1
      try clear hfz8_0
      try clear hfz8_1
      try clear p2
      obtain ⟨x9_2, x10_2, rfl, HA, HK2, HO_9, BK272, HB⟩ := hrel
      cases gk with
      | zero => exact absurd HA.out (by simp [mapmakerref38_From.l0])
      | succ k2 =>
       have H := HA.out; clear HA
       simp only [mapmakerref38_From.l0] at H
       by_cases c13 : x10_2 < a0_0
       ·rw [if_pos c13] at H
        have c13b0 : decide (x10_2 < a0_0) = true := decide_eq_true c13
        clear c13
        by_cases c14 : x9_2.length < 17592186044416
        ·rw [if_pos c14] at H
         have LMc14 := Aside0.mk c14; clear c14
         obtain ⟨y274, hy274⟩ : ∃ y_ : List Int, y_ = (x9_2 ++ [1152921504606846976]) := ⟨_, rfl⟩
         replace H : (mapmakerref38_From.l0 k2 l1 a2 y274 (wrap64 (x10_2 + 1)) a0_0 l0_1) = some (r1, r2) := by first | (rw [hy274]; with_reducible exact H) | (have H2_ := (Option.bind_some _ _).symm.trans H; rw [hy274]; with_reducible exact H2_) | (have H2_ := (Option.bind_some _ _).symm.trans H; with_reducible exact H2_) | with_reducible exact H | (rw [hy274]; exact H) | exact H
         have Ny274 := Aside0.mk hy274; clear hy274
         have H' := Aside0.mk H
         clear H
         have hcz15_0 : wr.cell? ⟨gb272, 0, none⟩ = some (.int .i64 a0_0) := (blk_cell BK272.out 0).trans rfl
         have hcz15_1 : wr.cell? ⟨gb272, 1, none⟩ = some (.slice A0_1 l0_1.length c0_1) := (blk_cell BK272.out 1).trans rfl
         have hfz15_0 := blk_frozen BK272.out 0; have hfz15_1 := blk_frozen BK272.out 1
         go_wp2_with (first | ((with_reducible refine gate_builtin (b := .append) (xs := #[.tmp 34, .tmp 35]) rfl ?_); at_builtin; refine Kd.R_append (Kd.int .i64) (w0 := w) w.heap.size rfl (.tmp 34) (.tmp 35) 33 3 (.int .i64 0) 8 rfl Try.underlying33 info3 rfl (by decide) (by omega) u9 x9_2 1152921504606846976 [.int .i64 1152921504606846976] (fun _ => True) (fun _ => False) rfl rfl ?aP (fun _ hk => hk.elim) ?aF ?aO ?aB ?aS ?aL ?_; (case aP => exact rfl); (case aB => exact (byB1 HB.out GE272.out)); (case aF => exact (fun _ _ => trivial)); (case aO => exact (byR HO_9.out)); (case aS => exact (below_size (byB1 HB.out GE272.out))); (case aL => have := LMc14.out; omega); intro v275 w16 ho hb hg hat; rw [← Ny274.out] at ho; have n0_ := Aside0.mk (blk_grown (g := gb272) (o := .cells #[.int .i64 a0_0, .slice A0_1 l0_1.length c0_1] 51 (0, 0)) (byK BK272.out) hg (Kd.R_ne HO_9.out BK272.out (by decide))); have n1_ := Aside0.mk (hb); have n2_ := Aside0.mk (ho); clear BK272 HB HO_9; have BK272 := n0_; have HB := n1_; have HO276 := n2_; clear n0_ n1_ n2_ ho hb hg hat))
         go_roundg k2
         case measure => have := HJ5.out; have := HK2.out; omega
         case rel => exact ⟨(y274), (wrap64 (x10_2 + 1)), byF, H', ⟨by have := HJ5.out; have := HK2.out; omega⟩, ⟨by (with_reducible repeat (first | apply Kd.R_alloc | apply Kd.R_drewN | apply Kd.R_drew)); exact HO276.out⟩, ⟨by (with_reducible repeat (first | refine blk_drewN ?_ _ | refine blk_drew ?_ | refine blk_alloc ?_ _)); exact BK272.out⟩, ⟨byB1 HB.out GE272.out⟩⟩
        ·rw [if_neg c14] at H
         exact absurd H (by simp)
       ·rw [if_neg c13] at H
        have c13b0 : decide (x10_2 < a0_0) = false := decide_eq_false c13
        clear c13
        by_cases c17 : 0 ≤ a2
        ·rw [if_pos c17] at H
         have c17b0 : decide (0 ≤ a2) = true := decide_eq_true c17
         clear c17
         by_cases c18 : a2 < (x9_2.length : Int)
         ·rw [if_pos c18] at H
          have c18b0 : decide (a2 < (x9_2.length : Int)) = true := decide_eq_true c18
          clear c18
          obtain ⟨y277, hy277⟩ : ∃ y_ : List Int, y_ = (x9_2.set (a2 : Int).toNat 0) := ⟨_, rfl⟩
          replace H : (mapmakerref38_From.l1 k2 l1 y277 true a0_0 l0_1) = some (r1, r2) := by first | (rw [hy277]; with_reducible exact H) | (have H2_ := (Option.bind_some _ _).symm.trans H; rw [hy277]; with_reducible exact H2_) | (have H2_ := (Option.bind_some _ _).symm.trans H; with_reducible exact H2_) | with_reducible exact H | (rw [hy277]; exact H) | exact H
          have Ny277 := Aside0.mk hy277; clear hy277
          have H' := Aside0.mk H
          clear H
          have hcz20_0 : wr.cell? ⟨gb272, 0, none⟩ = some (.int .i64 a0_0) := (blk_cell BK272.out 0).trans rfl
          have hcz20_1 : wr.cell? ⟨gb272, 1, none⟩ = some (.slice A0_1 l0_1.length c0_1) := (blk_cell BK272.out 1).trans rfl
          have hfz20_0 := blk_frozen BK272.out 0; have hfz20_1 := blk_frozen BK272.out 1
          have p19 : 0 ≤ (a2 : Int) := odt
          have q19 : (a2 : Int) < ((x9_2.length : Int) : Int) := odt
          obtain ⟨go19, co19, eo19, gb19, gl19, cl19, HG19⟩ := Kd.R_form HO_9.out (by omega)
          (first | cases eo19 | (injection eo19 with ea_ en_ ec_; (first | subst ea_ | (injection ea_ with ea_; subst ea_)); subst ec_; clear en_))
          have GB19 := Aside0.mk gb19; have GG19 := Aside0.mk HG19; clear gb19 gl19 HG19
          obtain ⟨hx19_0, hf19_0⟩ := Kd.R_celln 0 HO_9.out (a2 : Int) p19 q19
          replace p19 := eq_true p19; replace q19 := eq_true q19
          have HP21 := Kd.R_putg HO_9.out (a2 : Int) 0
          go_wp2_with (first | ((with_reducible refine gate_store (t := 3) (p := 39) rfl ?_); refine store_event (t := 3) (p := 39) (v := ?vo_w22) (w1 := (wr.setCell ⟨go19, (a2 : Int).toNat, none⟩ (.int .i64 0))) ?hg ?ho ?hn ?hr ?_; (case ho => rfl); (case hg => rfl); (case hn => rfl); (case hr => first | (go_simp; done) | (go_simp; rfl)); intro w22 hw; have hg : wr.grownBy w22 (some go19) := (by rw [hw]; exact HP21.2); have hp_ : Kd.R (Kd.int .i64) 3 w22 w.heap.size (fun _ => True) (.slice (some ⟨go19, 0, none⟩) x9_2.length co19) y277 := (by rw [hw, Ny277.out]; exact HP21.1); clear HP21; have n0_ := Aside0.mk (hp_); have n1_ := Aside0.mk (blk_grown (g := gb272) (o := .cells #[.int .i64 a0_0, .slice A0_1 l0_1.length c0_1] 51 (0, 0)) (byK BK272.out) hg (Kd.R_ne HO_9.out BK272.out (by decide))); have n2_ := Aside0.mk ((by rw [hw]; exact below_set (HB.out) GB19.out : Below w.heap.size w w22)); clear HO_9 BK272 HB; have HO_9 := n0_; have BK272 := n1_; have HB := n2_; clear n0_ n1_ n2_ hg hw hp_))
          go_loopg [11] k2 (fun kq v11 w' => ∃ (x9_3 : List Int) (x11_3 : Bool), v11 = .bool x11_3 ∧ Aside0 (mapmakerref38_From.l1 kq l1 x9_3 x11_3 a0_0 l0_1 = some (r1, r2)) ∧ Aside0 (kq ≤ k2) ∧ Aside0 (Kd.R (Kd.int .i64) 3 w' w.heap.size (fun _ => True) (.slice (some ⟨go19, 0, none⟩) x9_2.length co19) x9_3) ∧ Aside0 (w'.heap[gb272]? = some (.cells #[.int .i64 a0_0, (.slice A0_1 l0_1.length c0_1)] 51 (0, 0))) ∧ Aside0 (Below w.heap.size w w'))
          case atStart => exact ⟨(y277), (true), byF, H', ⟨Nat.le_refl _⟩, ⟨by (with_reducible repeat (first | apply Kd.R_alloc | apply Kd.R_drewN | apply Kd.R_drew)); exact HO_9.out⟩, ⟨by (with_reducible repeat (first | refine blk_drewN ?_ _ | refine blk_drew ?_ | refine blk_alloc ?_ _)); exact BK272.out⟩, ⟨byB1 HB.out GE272.out⟩⟩
          case round =>
           clear H'
           try clear c1
           try clear p1
           try clear q1
           try clear hx1
           try clear c2
           try clear p2
           try clear c4
           try clear c5
           try clear c5b0
           try clear c5b1
           try clear p6
           try clear c10
           try clear c10b0
           try clear c12
           try clear c13
           try clear c13b0
           try clear c14
           try clear c17
           try clear c17b0
           try clear c18
           try clear c18b0
           try clear p19
           try clear q19
           try clear hx19
           try clear hf19
           try clear c22
           try clear hcz11_0
           try clear hcz11_1
           try clear hcz15_0
           try clear hcz15_1
           try clear hcz20_0
           try clear hcz20_1
           try clear hcz8_0
           try clear hcz8_1
           try clear hfz11_0
           try clear hfz11_1
           try clear hfz15_0
           try clear hfz15_1
           try clear hfz20_0
           try clear hfz20_1
           try clear hfz8_0
           try clear hfz8_1
           try clear hx19_0
           try clear p19
           try clear p2
           try clear q19
           obtain ⟨x9_3, x11_3, rfl, HA, HK3, HO_9, BK272, HB⟩ := hrel
           have hl9_3 := (Kd.R_reads' HO_9.out).1
           rw [hl9_3] at HO_9
           (try simp only [hl9_3])
           (try simp only [hl9_3] at BK272)
           cases gk with
           | zero => exact absurd HA.out (by simp [mapmakerref38_From.l1])
           | succ k3 =>
            have H := HA.out; clear HA
            simp only [mapmakerref38_From.l1] at H
            by_cases c23 : x11_3 = true
            ·subst c23
             have H1 : (mapmakerref38_From.l2 k3 l1 x9_3 false 0 a0_0 l0_1) = some (r1, r2) := by rw [if_pos rfl] at H; exact H
             clear H; have H := H1; clear H1
             have H' := Aside0.mk H
             clear H
             go_wp2
             go_loopg [11, 12] k3 (fun kq v11 v12 w' => ∃ (x9_4 : List Int) (x11_4 : Bool) (x12_4 : Int), v11 = .bool x11_4 ∧ v12 = .int .i64 x12_4 ∧ Aside0 (mapmakerref38_From.l2 kq l1 x9_4 x11_4 x12_4 a0_0 l0_1 = some (r1, r2)) ∧ Aside0 (kq ≤ k3) ∧ Aside0 (Kd.R (Kd.int .i64) 3 w' w.heap.size (fun _ => True) (.slice (some ⟨go19, 0, none⟩) x9_3.length co19) x9_4) ∧ Aside0 (w'.heap[gb272]? = some (.cells #[.int .i64 a0_0, (.slice A0_1 l0_1.length c0_1)] 51 (0, 0))) ∧ Aside0 (Below w.heap.size w w'))
             case atStart => exact ⟨(x9_3), (false), (0), byF, byF, H', ⟨Nat.le_refl _⟩, ⟨by (try simp only [hl9_3]); (with_reducible repeat (first | apply Kd.R_alloc | apply Kd.R_drewN | apply Kd.R_drew)); exact HO_9.out⟩, ⟨by (try simp only [hl9_3]); (with_reducible repeat (first | refine blk_drewN ?_ _ | refine blk_drew ?_ | refine blk_alloc ?_ _)); exact BK272.out⟩, ⟨byB1 HB.out GE272.out⟩⟩
             case round =>
              clear H'
              try clear c1
              try clear p1
              try clear q1
              try clear hx1
              try clear c2
              try clear p2
              try clear c4
              try clear c5
              try clear c5b0
              try clear c5b1
              try clear p6
              try clear c10
              try clear c10b0
              try clear c12
              try clear c13
              try clear c13b0
              try clear c14
              try clear c17
              try clear c17b0
              try clear c18
              try clear c18b0
              try clear p19
              try clear q19
              try clear hx19
              try clear hf19
              try clear c22
              try clear c23
              try clear hcz11_0
              try clear hcz11_1
              try clear hcz15_0
              try clear hcz15_1
              try clear hcz20_0
              try clear hcz20_1
              try clear hcz8_0
              try clear hcz8_1
              try clear hfz11_0
              try clear hfz11_1
              try clear hfz15_0
              try clear hfz15_1
              try clear hfz20_0
              try clear hfz20_1
              try clear hfz8_0
              try clear hfz8_1
              try clear hx19_0
              try clear p1
              try clear p19
              try clear p2
              try clear p6
              try clear q1
              try clear q19
              obtain ⟨x9_4, x11_4, x12_4, rfl, rfl, HA, HK4, HO_9, BK272, HB⟩ := hrel
              have hl9_4 := (Kd.R_reads' HO_9.out).1
              rw [hl9_4] at HO_9
              (try simp only [hl9_4])
              (try simp only [hl9_4] at BK272)
              cases gk with
              | zero => exact absurd HA.out (by simp [mapmakerref38_From.l2])
              | succ k4 =>
               have H := HA.out; clear HA
               simp only [mapmakerref38_From.l2] at H
               by_cases c24 : x12_4 < (l0_1.length : Int)
               ·rw [if_pos c24] at H
                have c24b0 : decide (x12_4 < (l0_1.length : Int)) = true := decide_eq_true c24
                (try simp only [hl9_3] at c24b0)
                (try simp only [hl9_4] at c24b0)
                clear c24
                by_cases c25 : 0 ≤ x12_4
                ·rw [if_pos c25] at H
                 have c25b0 : decide (0 ≤ x12_4) = true := decide_eq_true c25
                 (try simp only [hl9_3] at c25b0)
                 (try simp only [hl9_4] at c25b0)
                 clear c25
                 by_cases c26 : x12_4 < (l1.length : Int)
                 ·rw [if_pos c26] at H
                  have c26b0 : decide (x12_4 < (l1.length : Int)) = true := decide_eq_true c26
                  (try simp only [hl9_3] at c26b0)
                  (try simp only [hl9_4] at c26b0)
                  clear c26
                  by_cases c27 : (rd l1 x12_4) ≥ 0
                  ·rw [if_pos c27] at H
                   have c27b0 : decide (0 ≤ (rd l1 x12_4)) = true := decide_eq_true c27
                   (try simp only [hl9_3] at c27b0)
                   (try simp only [hl9_4] at c27b0)
                   clear c27
                   by_cases c28 : 0 ≤ ((rd_T92 l0_1 x12_4).f0)
                   ·rw [if_pos c28] at H
                    have c28b0 : decide (0 ≤ ((rd_T92 l0_1 x12_4).f0)) = true := decide_eq_true c28
                    (try simp only [hl9_3] at c28b0)
                    (try simp only [hl9_4] at c28b0)
                    clear c28
                    by_cases c29 : ((rd_T92 l0_1 x12_4).f0) < (x9_4.length : Int)
                    ·rw [if_pos c29] at H
                     have c29b0 : decide (((rd_T92 l0_1 x12_4).f0) < (x9_4.length : Int)) = true := decide_eq_true c29
                     (try simp only [hl9_3] at c29b0)
                     (try simp only [hl9_4] at c29b0)
                     clear c29
                     by_cases c30 : (rd x9_4 ((rd_T92 l0_1 x12_4).f0)) < 1152921504606846976
                     ·rw [if_pos c30] at H
                      have c30b0 : decide ((rd x9_4 ((rd_T92 l0_1 x12_4).f0)) < 1152921504606846976) = true := decide_eq_true c30
                      (try simp only [hl9_3] at c30b0)
                      (try simp only [hl9_4] at c30b0)
                      clear c30
                      by_cases c31 : 0 ≤ ((rd_T92 l0_1 x12_4).f1)
                      ·rw [if_pos c31] at H
                       have c31b0 : decide (0 ≤ ((rd_T92 l0_1 x12_4).f1)) = true := decide_eq_true c31
                       (try simp only [hl9_3] at c31b0)
                       (try simp only [hl9_4] at c31b0)
                       clear c31
                       by_cases c32 : ((rd_T92 l0_1 x12_4).f1) < (x9_4.length : Int)
                       ·rw [if_pos c32] at H
                        have c32b0 : decide (((rd_T92 l0_1 x12_4).f1) < (x9_4.length : Int)) = true := decide_eq_true c32
                        (try simp only [hl9_3] at c32b0)
                        (try simp only [hl9_4] at c32b0)
                        clear c32
                        by_cases c33 : (wrap64 ((rd x9_4 ((rd_T92 l0_1 x12_4).f0)) + (rd l1 x12_4))) < (rd x9_4 ((rd_T92 l0_1 x12_4).f1))
                        ·rw [if_pos c33] at H
                         have c33b0 : decide ((wrap64 ((rd x9_4 ((rd_T92 l0_1 x12_4).f0)) + (rd l1 x12_4))) < (rd x9_4 ((rd_T92 l0_1 x12_4).f1))) = true := decide_eq_true c33
                         (try simp only [hl9_3] at c33b0)
                         (try simp only [hl9_4] at c33b0)
                         clear c33
                         obtain ⟨y287, hy287⟩ : ∃ y_ : List Int, y_ = (x9_4.set (((rd_T92 l0_1 x12_4).f1) : Int).toNat (wrap64 ((rd x9_4 ((rd_T92 l0_1 x12_4).f0)) + (rd l1 x12_4)))) := ⟨_, rfl⟩
                         replace H : (mapmakerref38_From.l2 k4 l1 y287 true (wrap64 (x12_4 + 1)) a0_0 l0_1) = some (r1, r2) := by first | (rw [hy287]; with_reducible exact H) | (have H2_ := (Option.bind_some _ _).symm.trans H; rw [hy287]; with_reducible exact H2_) | (have H2_ := (Option.bind_some _ _).symm.trans H; with_reducible exact H2_) | with_reducible exact H | (rw [hy287]; exact H) | exact H
                         have Ny287 := Aside0.mk hy287; clear hy287
                         have H' := Aside0.mk H
                         clear H
                         have hcz35_0 : wr.cell? ⟨gb272, 0, none⟩ = some (.int .i64 a0_0) := (blk_cell BK272.out 0).trans rfl
                         have hcz35_1 : wr.cell? ⟨gb272, 1, none⟩ = some (.slice A0_1 l0_1.length c0_1) := (blk_cell BK272.out 1).trans rfl
                         have hfz35_0 := blk_frozen BK272.out 0; have hfz35_1 := blk_frozen BK272.out 1
                         have p278 : 0 ≤ (x12_4 : Int) := odt
                         have q278 : x12_4 < (l0_1.length : Int) := odt
                         obtain ⟨ad278, e278, hx278_0, hx278_1⟩ := at_T92 HR0_1.out x12_4 p278 q278
                         cases e278
                         replace hx278_0 := (HB.out.cell (World.block_lt_of_cell? w _ hx278_0)).trans hx278_0
                         replace hx278_1 := (HB.out.cell (World.block_lt_of_cell? w _ hx278_1)).trans hx278_1
                         replace p278 := eq_true p278; replace q278 := eq_true q278
                         try go_wp2_with (first | ((with_reducible refine gate_dst (N := 13) rfl ?_); refine box_event ?hg (N := 13) ?hd (cs := #[.int .i64 0, .int .i64 0]) (t := 92) ?hr ?_; (case hd => rfl); (case hg => rfl); (case hr => first | (go_simp; done) | (go_simp; rfl)); intro gb279 hg w36 hbox hb; have n0_ := Aside0.mk (Kd.R_below (byR HO_9.out) hb); have n1_ := Aside0.mk (blk_below (g := gb272) (o := .cells #[.int .i64 a0_0, .slice (some ad278) l0_1.length c0_1] 51 (0, 0)) (byK BK272.out) hb); have n2_ := Aside0.mk (below_step (byB1 HB.out GE272.out) hb); have n3_ := Aside0.mk (hbox); have n4_ := Aside0.mk ((by rw [hg]; exact (below_size (byB1 HB.out GE272.out)) : w.heap.size ≤ gb279)); have n5_ := Aside0.mk ((by rw [hg]; exact (below_size (byB1 HB.out GE272.out)) : w.heap.size ≤ gb279)); have n6_ := Aside0.mk ((by rw [hg]; exact Nat.ne_of_lt (blk_lt (g := gb272) (o := .cells #[.int .i64 a0_0, .slice (some ad278) l0_1.length c0_1] 51 (0, 0)) (byK BK272.out)) : gb272 ≠ gb279)); have n7_ := Aside0.mk ((by rw [hg]; exact Nat.ne_of_gt (blk_lt (g := gb272) (o := .cells #[.int .i64 a0_0, .slice (some ad278) l0_1.length c0_1] 51 (0, 0)) (byK BK272.out)) : gb279 ≠ gb272)); clear HO_9 BK272 HB; have HO_9 := n0_; have BK272 := n1_; have HB := n2_; have BK279 := n3_; have GW279 := n4_; have GE279 := n5_; have NB272_279 := n6_; have NB279_272 := n7_; clear n0_ n1_ n2_ n3_ n4_ n5_ n6_ n7_ hb hbox hg; have hnb37 := NB279_272.out; have hnc37 := NB272_279.out; have hcz38_0 : w36.cell? ⟨gb279, 0, none⟩ = some (.int .i64 0) := (blk_cell BK279.out 0).trans rfl; have hcz38_1 : w36.cell? ⟨gb279, 1, none⟩ = some (.int .i64 0) := (blk_cell BK279.out 1).trans rfl; have hfz38_0 := blk_frozen BK279.out 0; have hfz38_1 := blk_frozen BK279.out 1))
                         have n0_ : Aside0 (Kd.R (Kd.int .i64) 3 ((w36.setCell ⟨gb279, 0, none⟩ (.int .i64 ((rd_T92 l0_1 x12_4).f0))).setCell ⟨gb279, 1, none⟩ (.int .i64 ((rd_T92 l0_1 x12_4).f1))) w.heap.size (fun _ => True) (.slice (some ⟨go19, 0, none⟩) x9_4.length co19) x9_4) := ⟨by (with_reducible repeat (first | apply Kd.R_alloc | apply Kd.R_drewN | apply Kd.R_drew)); exact Kd.R_mono (Kd.R_far (p := ⟨gb279, 1, none⟩) (Kd.R_far (p := ⟨gb279, 0, none⟩) (Kd.R_types HO_9.out BK279.out (by decide)) (fun _ hk => hk.2) (.int .i64 ((rd_T92 l0_1 x12_4).f0))) (fun _ hk => hk.2) (.int .i64 ((rd_T92 l0_1 x12_4).f1))) (fun _ hk => trivial)⟩
                         have n1_ : Aside0 (((w36.setCell ⟨gb279, 0, none⟩ (.int .i64 ((rd_T92 l0_1 x12_4).f0))).setCell ⟨gb279, 1, none⟩ (.int .i64 ((rd_T92 l0_1 x12_4).f1))).heap[gb272]? = some (.cells #[.int .i64 a0_0, .slice (some ad278) l0_1.length c0_1] 51 (0, 0))) := ⟨by (with_reducible repeat (first | refine blk_drewN ?_ _ | refine blk_drew ?_ | refine blk_alloc ?_ _)); refine blk_far ?_ NB272_279.out _; (with_reducible repeat (first | refine blk_drewN ?_ _ | refine blk_drew ?_ | refine blk_alloc ?_ _)); refine blk_far ?_ NB272_279.out _; (with_reducible repeat (first | refine blk_drewN ?_ _ | refine blk_drew ?_ | refine blk_alloc ?_ _)); exact BK272.out⟩
                         have n2_ : Aside0 (((w36.setCell ⟨gb279, 0, none⟩ (.int .i64 ((rd_T92 l0_1 x12_4).f0))).setCell ⟨gb279, 1, none⟩ (.int .i64 ((rd_T92 l0_1 x12_4).f1))).heap[gb279]? = some (.cells #[.int .i64 ((rd_T92 l0_1 x12_4).f0), .int .i64 ((rd_T92 l0_1 x12_4).f1)] 92 (0, 0))) := ⟨by (with_reducible repeat (first | refine blk_drewN ?_ _ | refine blk_drew ?_ | refine blk_alloc ?_ _)); refine blk_put (cs := #[.int .i64 ((rd_T92 l0_1 x12_4).f0), .int .i64 0]) ?_ 1 _ rfl; (with_reducible repeat (first | refine blk_drewN ?_ _ | refine blk_drew ?_ | refine blk_alloc ?_ _)); refine blk_put (cs := #[.int .i64 0, .int .i64 0]) ?_ 0 _ rfl; (with_reducible repeat (first | refine blk_drewN ?_ _ | refine blk_drew ?_ | refine blk_alloc ?_ _)); exact BK279.out⟩
                         have n3_ : Aside0 (Below w.heap.size w ((w36.setCell ⟨gb279, 0, none⟩ (.int .i64 ((rd_T92 l0_1 x12_4).f0))).setCell ⟨gb279, 1, none⟩ (.int .i64 ((rd_T92 l0_1 x12_4).f1)))) := ⟨byB2 HB.out GE272.out GE279.out⟩
                         (try clear HO_9)
                         (try clear BK272)
                         (try clear BK279)
                         (try clear HB)
                         generalize ((w36.setCell ⟨gb279, 0, none⟩ (.int .i64 ((rd_T92 l0_1 x12_4).f0))).setCell ⟨gb279, 1, none⟩ (.int .i64 ((rd_T92 l0_1 x12_4).f1))) = w39 at n0_ n1_ n2_ n3_ ⊢
                         have HO_9 := n0_; have BK272 := n1_; have BK279 := n2_; have HB := n3_; clear n0_ n1_ n2_ n3_; have n0_ := Aside0.mk (Kd.R_drew HO_9.out); have n1_ := Aside0.mk (blk_drew BK272.out); have n2_ := Aside0.mk (blk_drew BK279.out); have n3_ := Aside0.mk (below_drew1 HB.out); clear HO_9 BK272 BK279 HB; have HO_9 := n0_; have BK272 := n1_; have BK279 := n2_; have HB := n3_; clear n0_ n1_ n2_ n3_
                         have p280 : 0 ≤ (x12_4 : Int) := odt
                         have q280 : x12_4 < (l1.length : Int) := odt
                         obtain ⟨ad280, e280, hx280_0⟩ := Kd.at_int HR1.out x12_4 p280 q280
                         have hw280_0 := hx280_0
                         cases e280
                         replace hx280_0 := (HB.out.cell (World.block_lt_of_cell? w _ hx280_0)).trans hx280_0
                         replace p280 := eq_true p280; replace q280 := eq_true q280
                         have p281 : 0 ≤ (((rd_T92 l0_1 x12_4).f0) : Int) := odt
                         have q281 : ((rd_T92 l0_1 x12_4).f0) < (x9_4.length : Int) := odt
                         obtain ⟨ad281, e281, hx281_0⟩ := Kd.at_int (Kd.R_reads' HO_9.out).2.2 ((rd_T92 l0_1 x12_4).f0) p281 q281
                         obtain rfl : (⟨go19, 0, none⟩ : Addr) = ad281 := (by injection e281)
                         (first | simp only [add_plain] at hx281_0 | simp only [add_at] at hx281_0 | simp only [Addr.add, Nat.zero_add] at hx281_0 | skip)
                         replace p281 := eq_true p281; replace q281 := eq_true q281
                         have p282 : 0 ≤ (((rd_T92 l0_1 x12_4).f0) : Int) := odt
                         have q282 : ((rd_T92 l0_1 x12_4).f0) < (x9_4.length : Int) := odt
                         obtain ⟨ad282, e282, hx282_0⟩ := Kd.at_int (Kd.R_reads' HO_9.out).2.2 ((rd_T92 l0_1 x12_4).f0) p282 q282
                         obtain rfl : (⟨go19, 0, none⟩ : Addr) = ad282 := (by injection e282)
                         (first | simp only [add_plain] at hx282_0 | simp only [add_at] at hx282_0 | simp only [Addr.add, Nat.zero_add] at hx282_0 | skip)
                         replace p282 := eq_true p282; replace q282 := eq_true q282
                         have p283 : 0 ≤ (x12_4 : Int) := odt
                         have q283 : x12_4 < (l1.length : Int) := odt
                         obtain ⟨ad283, e283, hx283_0⟩ := Kd.at_int HR1.out x12_4 p283 q283
                         have hw283_0 := hx283_0
                         obtain rfl : ad280 = ad283 := (by injection e283)
                         replace hx283_0 := (HB.out.cell (World.block_lt_of_cell? w _ hx283_0)).trans hx283_0
                         replace p283 := eq_true p283; replace q283 := eq_true q283
                         have p284 : 0 ≤ (((rd_T92 l0_1 x12_4).f1) : Int) := odt
                         have q284 : ((rd_T92 l0_1 x12_4).f1) < (x9_4.length : Int) := odt
                         obtain ⟨ad284, e284, hx284_0⟩ := Kd.at_int (Kd.R_reads' HO_9.out).2.2 ((rd_T92 l0_1 x12_4).f1) p284 q284
                         obtain rfl : (⟨go19, 0, none⟩ : Addr) = ad284 := (by injection e284)
                         (first | simp only [add_plain] at hx284_0 | simp only [add_at] at hx284_0 | simp only [Addr.add, Nat.zero_add] at hx284_0 | skip)
                         replace p284 := eq_true p284; replace q284 := eq_true q284
                         refine start_ (n := 31) (S := fun w' => w'.cell? ⟨gb279, 0, none⟩ = some (.int .i64 ((rd_T92 l0_1 x12_4).f0)) ∧ w'.cell? ⟨gb279, 1, none⟩ = some (.int .i64 ((rd_T92 l0_1 x12_4).f1)) ∧ w'.cell? (ad280.add (x12_4).toNat) = some (.int .i64 (rd l1 x12_4)) ∧ w'.cell? ⟨go19, (((rd_T92 l0_1 x12_4).f0)).toNat, none⟩ = some (.int .i64 (rd x9_4 ((rd_T92 l0_1 x12_4).f0))) ∧ w'.cell? ⟨go19, (((rd_T92 l0_1 x12_4).f0)).toNat, none⟩ = some (.int .i64 (rd x9_4 ((rd_T92 l0_1 x12_4).f0))) ∧ w'.cell? (ad280.add (x12_4).toNat) = some (.int .i64 (rd l1 x12_4)) ∧ w'.cell? ⟨go19, (((rd_T92 l0_1 x12_4).f1)).toNat, none⟩ = some (.int .i64 (rd x9_4 ((rd_T92 l0_1 x12_4).f1)))) (ds := []) (bits 31 0) (by kernel_rfl) rfl rfl ⟨(blk_cell BK279.out 0).trans rfl, (blk_cell BK279.out 1).trans rfl, ((HB.out.cell (World.block_lt_of_cell? w _ hw280_0)).trans hw280_0), hx281_0, hx282_0, ((HB.out.cell (World.block_lt_of_cell? w _ hw283_0)).trans hw283_0), hx284_0⟩ (fun hHeld => ?_); refine with_tabW mapmakerref38_From.tab19 mapmakerref38_From.bits19 (fun HT_ HW_ => ?_)
                         generalize w39.drew = w40 at HO_9 BK272 BK279 HB hx280_0 hx281_0 hx282_0 hx283_0 hx284_0 hHeld ⊢
                         refine q_ 0 53 HT_ ?_; refine q_ 1 54 HT_ ?_; refine q_ 2 55 HT_ ?_; refine r7_ 3 56 HT_ HW_ hHeld ?_; refine q_ 4 57 HT_ ?_; refine q_ 5 58 HT_ ?_; refine q_ 6 59 HT_ ?_; refine q_ 7 60 HT_ ?_; refine r7_ 8 61 HT_ HW_ hHeld ?_; refine q_ 9 62 HT_ ?_; refine r7_ 10 63 HT_ HW_ hHeld ?_; refine q_ 11 64 HT_ ?_; refine q_ 12 65 HT_ ?_; refine q_ 13 66 HT_ ?_; refine q_ 14 67 HT_ ?_; refine q_ 15 68 HT_ ?_; refine q_ 19 72 HT_ ?_; refine q_ 20 73 HT_ ?_; refine q_ 21 74 HT_ ?_; refine q_ 24 77 HT_ ?_; refine q_ 25 78 HT_ ?_; refine r7_ 16 69 HT_ HW_ hHeld ?_; refine q_ 17 70 HT_ ?_; refine r7_ 18 71 HT_ HW_ hHeld ?_; refine r7_ 22 75 HT_ HW_ hHeld ?_; refine q_ 23 76 HT_ ?_; refine r7_ 26 79 HT_ HW_ hHeld ?_; refine q_ 27 80 HT_ ?_; refine r7_ 28 81 HT_ HW_ hHeld ?_; refine q_ 29 82 HT_ ?_; refine q_ 30 83 HT_ ?_
                         refine done_ (done_of HT_.out (by kernel_rfl)) ?_
                         try go_wp2
                         have n0_ := Aside0.mk (Kd.R_drew HO_9.out); have n1_ := Aside0.mk (blk_drew BK272.out); have n2_ := Aside0.mk (blk_drew BK279.out); have n3_ := Aside0.mk (below_drew1 HB.out); clear HO_9 BK272 BK279 HB; have HO_9 := n0_; have BK272 := n1_; have BK279 := n2_; have HB := n3_; clear n0_ n1_ n2_ n3_
                         have p285 : 0 ≤ (((rd_T92 l0_1 x12_4).f0) : Int) := odt
                         have q285 : ((rd_T92 l0_1 x12_4).f0) < (x9_4.length : Int) := odt
                         obtain ⟨ad285, e285, hx285_0⟩ := Kd.at_int (Kd.R_reads' HO_9.out).2.2 ((rd_T92 l0_1 x12_4).f0) p285 q285
                         obtain rfl : (⟨go19, 0, none⟩ : Addr) = ad285 := (by injection e285)
                         (first | simp only [add_plain] at hx285_0 | simp only [add_at] at hx285_0 | simp only [Addr.add, Nat.zero_add] at hx285_0 | skip)
                         replace p285 := eq_true p285; replace q285 := eq_true q285
                         have p286 : 0 ≤ (x12_4 : Int) := odt
                         have q286 : x12_4 < (l1.length : Int) := odt
                         obtain ⟨ad286, e286, hx286_0⟩ := Kd.at_int HR1.out x12_4 p286 q286
                         have hw286_0 := hx286_0
                         obtain rfl : ad280 = ad286 := (by injection e286)
                         replace hx286_0 := (HB.out.cell (World.block_lt_of_cell? w _ hx286_0)).trans hx286_0
                         replace p286 := eq_true p286; replace q286 := eq_true q286
                         have p34 : 0 ≤ (((rd_T92 l0_1 x12_4).f1) : Int) := odt
                         have q34 : (((rd_T92 l0_1 x12_4).f1) : Int) < ((x9_4.length : Int) : Int) := odt
                         obtain ⟨hx34_0, hf34_0⟩ := Kd.R_celln 0 HO_9.out (((rd_T92 l0_1 x12_4).f1) : Int) p34 q34
                         replace p34 := eq_true p34; replace q34 := eq_true q34
                         have HP42 := Kd.R_putn HO_9.out (((rd_T92 l0_1 x12_4).f1) : Int) (wrap64 ((rd x9_4 ((rd_T92 l0_1 x12_4).f0)) + (rd l1 x12_4)))
                         rw [← Ny287.out] at HP42
                         have HQ42 := Aside0.mk HP42; clear HP42
                         refine start_ (n := 15) (S := fun w' => w'.cell? ⟨gb279, 0, none⟩ = some (.int .i64 ((rd_T92 l0_1 x12_4).f0)) ∧ w'.cell? ⟨gb279, 1, none⟩ = some (.int .i64 ((rd_T92 l0_1 x12_4).f1)) ∧ w'.cell? ⟨go19, (((rd_T92 l0_1 x12_4).f0)).toNat, none⟩ = some (.int .i64 (rd x9_4 ((rd_T92 l0_1 x12_4).f0))) ∧ w'.cell? (ad280.add (x12_4).toNat) = some (.int .i64 (rd l1 x12_4))) (ds := [14]) (bits 15 0) (by kernel_rfl) rfl rfl ⟨(blk_cell BK279.out 0).trans rfl, (blk_cell BK279.out 1).trans rfl, hx285_0, ((HB.out.cell (World.block_lt_of_cell? w _ hw286_0)).trans hw286_0)⟩ (fun hHeld => ?_); refine with_tabW mapmakerref38_From.tab20 mapmakerref38_From.bits20 (fun HT_ HW_ => ?_)
                         generalize w40.drew = w41 at HO_9 BK272 BK279 HB HQ42 hf34_0 hx285_0 hx286_0 hx34_0 hHeld ⊢
                         refine q_ 0 84 HT_ ?_; refine q_ 1 85 HT_ ?_; refine q_ 3 87 HT_ ?_; refine q_ 4 88 HT_ ?_; refine q_ 8 92 HT_ ?_; refine q_ 9 93 HT_ ?_; refine q_ 10 94 HT_ ?_; refine r4_ 2 86 HT_ HW_ hHeld ?_; refine r4_ 5 89 HT_ HW_ hHeld ?_; refine q_ 6 90 HT_ ?_; refine r4_ 7 91 HT_ HW_ hHeld ?_; refine r4_ 11 95 HT_ HW_ hHeld ?_; refine q_ 12 96 HT_ ?_; refine q_ 13 97 HT_ ?_
                         refine last_ (i := 14) (N := none) (bits 15 32767) rfl rfl (one_of HT_.out (by kernel_rfl)) (by decide) (fun K hK => ?_)
                         refine skip_ (w1 := ?_) (by rfl) rfl ?_ ?_
                         rotate_left; (·go_simp; rfl)
                         refine hK.out _ _ ?_
                         clear hK K
                         refine done_ (done_of HT_.out (by kernel_rfl)) ?_
                         try go_wp2
                         (try simp only [← hl9_4])
                         go_roundg k4
                         case measure => have := HJ5.out; have := HK2.out; have := HK3.out; have := HK4.out; omega
                         case rel => exact ⟨(y287), (true), (wrap64 (x12_4 + 1)), byF, byF, H', ⟨by have := HJ5.out; have := HK2.out; have := HK3.out; have := HK4.out; omega⟩, ⟨by (try simp only [hl9_3]); (try simp only [hl9_4]); (with_reducible repeat (first | apply Kd.R_alloc | apply Kd.R_drewN | apply Kd.R_drew)); exact HQ42.out⟩, ⟨by (try simp only [hl9_3]); (try simp only [hl9_4]); (with_reducible repeat (first | refine blk_drewN ?_ _ | refine blk_drew ?_ | refine blk_alloc ?_ _)); refine blk_far ?_ (by have h_ := Kd.R_ne HO_9.out BK272.out (by decide); intro e_; exact h_ (by rw [e_]; rfl)) _; (with_reducible repeat (first | refine blk_drewN ?_ _ | refine blk_drew ?_ | refine blk_alloc ?_ _)); exact BK272.out⟩, ⟨byB3 HB.out GB19.out GE272.out GE279.out⟩⟩
                        ·rw [if_neg c33] at H
                         have c33b0 : decide ((wrap64 ((rd x9_4 ((rd_T92 l0_1 x12_4).f0)) + (rd l1 x12_4))) < (rd x9_4 ((rd_T92 l0_1 x12_4).f1))) = false := decide_eq_false c33
                         (try simp only [hl9_3] at c33b0)
                         (try simp only [hl9_4] at c33b0)
                         clear c33
                         have H' := Aside0.mk H
                         clear H
                         have hcz43_0 : wr.cell? ⟨gb272, 0, none⟩ = some (.int .i64 a0_0) := (blk_cell BK272.out 0).trans rfl
                         have hcz43_1 : wr.cell? ⟨gb272, 1, none⟩ = some (.slice A0_1 l0_1.length c0_1) := (blk_cell BK272.out 1).trans rfl
                         have hfz43_0 := blk_frozen BK272.out 0; have hfz43_1 := blk_frozen BK272.out 1
                         have p278 : 0 ≤ (x12_4 : Int) := odt
                         have q278 : x12_4 < (l0_1.length : Int) := odt
                         obtain ⟨ad278, e278, hx278_0, hx278_1⟩ := at_T92 HR0_1.out x12_4 p278 q278
                         cases e278
                         replace hx278_0 := (HB.out.cell (World.block_lt_of_cell? w _ hx278_0)).trans hx278_0
                         replace hx278_1 := (HB.out.cell (World.block_lt_of_cell? w _ hx278_1)).trans hx278_1
                         replace p278 := eq_true p278; replace q278 := eq_true q278
                         try go_wp2_with (first | ((with_reducible refine gate_dst (N := 13) rfl ?_); refine box_event ?hg (N := 13) ?hd (cs := #[.int .i64 0, .int .i64 0]) (t := 92) ?hr ?_; (case hd => rfl); (case hg => rfl); (case hr => first | (go_simp; done) | (go_simp; rfl)); intro gb279 hg w44 hbox hb; have n0_ := Aside0.mk (Kd.R_below (byR HO_9.out) hb); have n1_ := Aside0.mk (blk_below (g := gb272) (o := .cells #[.int .i64 a0_0, .slice (some ad278) l0_1.length c0_1] 51 (0, 0)) (byK BK272.out) hb); have n2_ := Aside0.mk (below_step (byB1 HB.out GE272.out) hb); have n3_ := Aside0.mk (hbox); have n4_ := Aside0.mk ((by rw [hg]; exact (below_size (byB1 HB.out GE272.out)) : w.heap.size ≤ gb279)); have n5_ := Aside0.mk ((by rw [hg]; exact (below_size (byB1 HB.out GE272.out)) : w.heap.size ≤ gb279)); have n6_ := Aside0.mk ((by rw [hg]; exact Nat.ne_of_lt (blk_lt (g := gb272) (o := .cells #[.int .i64 a0_0, .slice (some ad278) l0_1.length c0_1] 51 (0, 0)) (byK BK272.out)) : gb272 ≠ gb279)); have n7_ := Aside0.mk ((by rw [hg]; exact Nat.ne_of_gt (blk_lt (g := gb272) (o := .cells #[.int .i64 a0_0, .slice (some ad278) l0_1.length c0_1] 51 (0, 0)) (byK BK272.out)) : gb279 ≠ gb272)); clear HO_9 BK272 HB; have HO_9 := n0_; have BK272 := n1_; have HB := n2_; have BK279 := n3_; have GW279 := n4_; have GE279 := n5_; have NB272_279 := n6_; have NB279_272 := n7_; clear n0_ n1_ n2_ n3_ n4_ n5_ n6_ n7_ hb hbox hg; have hnb45 := NB279_272.out; have hnc45 := NB272_279.out; have hcz46_0 : w44.cell? ⟨gb279, 0, none⟩ = some (.int .i64 0) := (blk_cell BK279.out 0).trans rfl; have hcz46_1 : w44.cell? ⟨gb279, 1, none⟩ = some (.int .i64 0) := (blk_cell BK279.out 1).trans rfl; have hfz46_0 := blk_frozen BK279.out 0; have hfz46_1 := blk_frozen BK279.out 1))
                         have n0_ : Aside0 (Kd.R (Kd.int .i64) 3 ((w44.setCell ⟨gb279, 0, none⟩ (.int .i64 ((rd_T92 l0_1 x12_4).f0))).setCell ⟨gb279, 1, none⟩ (.int .i64 ((rd_T92 l0_1 x12_4).f1))) w.heap.size (fun _ => True) (.slice (some ⟨go19, 0, none⟩) x9_4.length co19) x9_4) := ⟨by (with_reducible repeat (first | apply Kd.R_alloc | apply Kd.R_drewN | apply Kd.R_drew)); exact Kd.R_mono (Kd.R_far (p := ⟨gb279, 1, none⟩) (Kd.R_far (p := ⟨gb279, 0, none⟩) (Kd.R_types HO_9.out BK279.out (by decide)) (fun _ hk => hk.2) (.int .i64 ((rd_T92 l0_1 x12_4).f0))) (fun _ hk => hk.2) (.int .i64 ((rd_T92 l0_1 x12_4).f1))) (fun _ hk => trivial)⟩
                         have n1_ : Aside0 (((w44.setCell ⟨gb279, 0, none⟩ (.int .i64 ((rd_T92 l0_1 x12_4).f0))).setCell ⟨gb279, 1, none⟩ (.int .i64 ((rd_T92 l0_1 x12_4).f1))).heap[gb272]? = some (.cells #[.int .i64 a0_0, .slice (some ad278) l0_1.length c0_1] 51 (0, 0))) := ⟨by (with_reducible repeat (first | refine blk_drewN ?_ _ | refine blk_drew ?_ | refine blk_alloc ?_ _)); refine blk_far ?_ NB272_279.out _; (with_reducible repeat (first | refine blk_drewN ?_ _ | refine blk_drew ?_ | refine blk_alloc ?_ _)); refine blk_far ?_ NB272_279.out _; (with_reducible repeat (first | refine blk_drewN ?_ _ | refine blk_drew ?_ | refine blk_alloc ?_ _)); exact BK272.out⟩
                         have n2_ : Aside0 (((w44.setCell ⟨gb279, 0, none⟩ (.int .i64 ((rd_T92 l0_1 x12_4).f0))).setCell ⟨gb279, 1, none⟩ (.int .i64 ((rd_T92 l0_1 x12_4).f1))).heap[gb279]? = some (.cells #[.int .i64 ((rd_T92 l0_1 x12_4).f0), .int .i64 ((rd_T92 l0_1 x12_4).f1)] 92 (0, 0))) := ⟨by (with_reducible repeat (first | refine blk_drewN ?_ _ | refine blk_drew ?_ | refine blk_alloc ?_ _)); refine blk_put (cs := #[.int .i64 ((rd_T92 l0_1 x12_4).f0), .int .i64 0]) ?_ 1 _ rfl; (with_reducible repeat (first | refine blk_drewN ?_ _ | refine blk_drew ?_ | refine blk_alloc ?_ _)); refine blk_put (cs := #[.int .i64 0, .int .i64 0]) ?_ 0 _ rfl; (with_reducible repeat (first | refine blk_drewN ?_ _ | refine blk_drew ?_ | refine blk_alloc ?_ _)); exact BK279.out⟩
                         have n3_ : Aside0 (Below w.heap.size w ((w44.setCell ⟨gb279, 0, none⟩ (.int .i64 ((rd_T92 l0_1 x12_4).f0))).setCell ⟨gb279, 1, none⟩ (.int .i64 ((rd_T92 l0_1 x12_4).f1)))) := ⟨byB2 HB.out GE272.out GE279.out⟩
                         (try clear HO_9)
                         (try clear BK272)
                         (try clear BK279)
                         (try clear HB)
                         generalize ((w44.setCell ⟨gb279, 0, none⟩ (.int .i64 ((rd_T92 l0_1 x12_4).f0))).setCell ⟨gb279, 1, none⟩ (.int .i64 ((rd_T92 l0_1 x12_4).f1))) = w47 at n0_ n1_ n2_ n3_ ⊢
                         have HO_9 := n0_; have BK272 := n1_; have BK279 := n2_; have HB := n3_; clear n0_ n1_ n2_ n3_; have n0_ := Aside0.mk (Kd.R_drew HO_9.out); have n1_ := Aside0.mk (blk_drew BK272.out); have n2_ := Aside0.mk (blk_drew BK279.out); have n3_ := Aside0.mk (below_drew1 HB.out); clear HO_9 BK272 BK279 HB; have HO_9 := n0_; have BK272 := n1_; have BK279 := n2_; have HB := n3_; clear n0_ n1_ n2_ n3_
                         have p280 : 0 ≤ (x12_4 : Int) := odt
                         have q280 : x12_4 < (l1.length : Int) := odt
                         obtain ⟨ad280, e280, hx280_0⟩ := Kd.at_int HR1.out x12_4 p280 q280
                         have hw280_0 := hx280_0
                         cases e280
                         replace hx280_0 := (HB.out.cell (World.block_lt_of_cell? w _ hx280_0)).trans hx280_0
                         replace p280 := eq_true p280; replace q280 := eq_true q280
                         have p281 : 0 ≤ (((rd_T92 l0_1 x12_4).f0) : Int) := odt
                         have q281 : ((rd_T92 l0_1 x12_4).f0) < (x9_4.length : Int) := odt
                         obtain ⟨ad281, e281, hx281_0⟩ := Kd.at_int (Kd.R_reads' HO_9.out).2.2 ((rd_T92 l0_1 x12_4).f0) p281 q281
                         obtain rfl : (⟨go19, 0, none⟩ : Addr) = ad281 := (by injection e281)
                         (first | simp only [add_plain] at hx281_0 | simp only [add_at] at hx281_0 | simp only [Addr.add, Nat.zero_add] at hx281_0 | skip)
                         replace p281 := eq_true p281; replace q281 := eq_true q281
                         have p282 : 0 ≤ (((rd_T92 l0_1 x12_4).f0) : Int) := odt
                         have q282 : ((rd_T92 l0_1 x12_4).f0) < (x9_4.length : Int) := odt
                         obtain ⟨ad282, e282, hx282_0⟩ := Kd.at_int (Kd.R_reads' HO_9.out).2.2 ((rd_T92 l0_1 x12_4).f0) p282 q282
                         obtain rfl : (⟨go19, 0, none⟩ : Addr) = ad282 := (by injection e282)
                         (first | simp only [add_plain] at hx282_0 | simp only [add_at] at hx282_0 | simp only [Addr.add, Nat.zero_add] at hx282_0 | skip)
                         replace p282 := eq_true p282; replace q282 := eq_true q282
                         have p283 : 0 ≤ (x12_4 : Int) := odt
                         have q283 : x12_4 < (l1.length : Int) := odt
                         obtain ⟨ad283, e283, hx283_0⟩ := Kd.at_int HR1.out x12_4 p283 q283
                         have hw283_0 := hx283_0
                         obtain rfl : ad280 = ad283 := (by injection e283)
                         replace hx283_0 := (HB.out.cell (World.block_lt_of_cell? w _ hx283_0)).trans hx283_0
                         replace p283 := eq_true p283; replace q283 := eq_true q283
                         have p284 : 0 ≤ (((rd_T92 l0_1 x12_4).f1) : Int) := odt
                         have q284 : ((rd_T92 l0_1 x12_4).f1) < (x9_4.length : Int) := odt
                         obtain ⟨ad284, e284, hx284_0⟩ := Kd.at_int (Kd.R_reads' HO_9.out).2.2 ((rd_T92 l0_1 x12_4).f1) p284 q284
                         obtain rfl : (⟨go19, 0, none⟩ : Addr) = ad284 := (by injection e284)
                         (first | simp only [add_plain] at hx284_0 | simp only [add_at] at hx284_0 | simp only [Addr.add, Nat.zero_add] at hx284_0 | skip)
                         replace p284 := eq_true p284; replace q284 := eq_true q284
                         refine start_ (n := 31) (S := fun w' => w'.cell? ⟨gb279, 0, none⟩ = some (.int .i64 ((rd_T92 l0_1 x12_4).f0)) ∧ w'.cell? ⟨gb279, 1, none⟩ = some (.int .i64 ((rd_T92 l0_1 x12_4).f1)) ∧ w'.cell? (ad280.add (x12_4).toNat) = some (.int .i64 (rd l1 x12_4)) ∧ w'.cell? ⟨go19, (((rd_T92 l0_1 x12_4).f0)).toNat, none⟩ = some (.int .i64 (rd x9_4 ((rd_T92 l0_1 x12_4).f0))) ∧ w'.cell? ⟨go19, (((rd_T92 l0_1 x12_4).f0)).toNat, none⟩ = some (.int .i64 (rd x9_4 ((rd_T92 l0_1 x12_4).f0))) ∧ w'.cell? (ad280.add (x12_4).toNat) = some (.int .i64 (rd l1 x12_4)) ∧ w'.cell? ⟨go19, (((rd_T92 l0_1 x12_4).f1)).toNat, none⟩ = some (.int .i64 (rd x9_4 ((rd_T92 l0_1 x12_4).f1)))) (ds := []) (bits 31 0) (by kernel_rfl) rfl rfl ⟨(blk_cell BK279.out 0).trans rfl, (blk_cell BK279.out 1).trans rfl, ((HB.out.cell (World.block_lt_of_cell? w _ hw280_0)).trans hw280_0), hx281_0, hx282_0, ((HB.out.cell (World.block_lt_of_cell? w _ hw283_0)).trans hw283_0), hx284_0⟩ (fun hHeld => ?_); refine with_tabW mapmakerref38_From.tab19 mapmakerref38_From.bits19 (fun HT_ HW_ => ?_)
                         generalize w47.drew = w48 at HO_9 BK272 BK279 HB hx280_0 hx281_0 hx282_0 hx283_0 hx284_0 hHeld ⊢
                         refine q_ 0 53 HT_ ?_; refine q_ 1 54 HT_ ?_; refine q_ 2 55 HT_ ?_; refine r7_ 3 56 HT_ HW_ hHeld ?_; refine q_ 4 57 HT_ ?_; refine q_ 5 58 HT_ ?_; refine q_ 6 59 HT_ ?_; refine q_ 7 60 HT_ ?_; refine r7_ 8 61 HT_ HW_ hHeld ?_; refine q_ 9 62 HT_ ?_; refine r7_ 10 63 HT_ HW_ hHeld ?_; refine q_ 11 64 HT_ ?_; refine q_ 12 65 HT_ ?_; refine q_ 13 66 HT_ ?_; refine q_ 14 67 HT_ ?_; refine q_ 15 68 HT_ ?_; refine q_ 19 72 HT_ ?_; refine q_ 20 73 HT_ ?_; refine q_ 21 74 HT_ ?_; refine q_ 24 77 HT_ ?_; refine q_ 25 78 HT_ ?_; refine r7_ 16 69 HT_ HW_ hHeld ?_; refine q_ 17 70 HT_ ?_; refine r7_ 18 71 HT_ HW_ hHeld ?_; refine r7_ 22 75 HT_ HW_ hHeld ?_; refine q_ 23 76 HT_ ?_; refine r7_ 26 79 HT_ HW_ hHeld ?_; refine q_ 27 80 HT_ ?_; refine r7_ 28 81 HT_ HW_ hHeld ?_; refine q_ 29 82 HT_ ?_; refine q_ 30 83 HT_ ?_
                         refine done_ (done_of HT_.out (by kernel_rfl)) ?_
                         try go_wp2
                         (try simp only [← hl9_4])
                         go_roundg k4
                         case measure => have := HJ5.out; have := HK2.out; have := HK3.out; have := HK4.out; omega
                         case rel => exact ⟨(x9_4), (x11_4), (wrap64 (x12_4 + 1)), byF, byF, H', ⟨by have := HJ5.out; have := HK2.out; have := HK3.out; have := HK4.out; omega⟩, ⟨by (try simp only [hl9_3]); (try simp only [hl9_4]); (with_reducible repeat (first | apply Kd.R_alloc | apply Kd.R_drewN | apply Kd.R_drew)); exact HO_9.out⟩, ⟨by (try simp only [hl9_3]); (try simp only [hl9_4]); (with_reducible repeat (first | refine blk_drewN ?_ _ | refine blk_drew ?_ | refine blk_alloc ?_ _)); exact BK272.out⟩, ⟨byB2 HB.out GE272.out GE279.out⟩⟩
                       ·rw [if_neg c32] at H
                        exact absurd H (by simp)
                      ·rw [if_neg c31] at H
                       exact absurd H (by simp)
                     ·rw [if_neg c30] at H
                      have c30b0 : decide ((rd x9_4 ((rd_T92 l0_1 x12_4).f0)) < 1152921504606846976) = false := decide_eq_false c30
                      (try simp only [hl9_3] at c30b0)
                      (try simp only [hl9_4] at c30b0)
                      clear c30
                      have H' := Aside0.mk H
                      clear H
                      have hcz49_0 : wr.cell? ⟨gb272, 0, none⟩ = some (.int .i64 a0_0) := (blk_cell BK272.out 0).trans rfl
                      have hcz49_1 : wr.cell? ⟨gb272, 1, none⟩ = some (.slice A0_1 l0_1.length c0_1) := (blk_cell BK272.out 1).trans rfl
                      have hfz49_0 := blk_frozen BK272.out 0; have hfz49_1 := blk_frozen BK272.out 1
                      have p278 : 0 ≤ (x12_4 : Int) := odt
                      have q278 : x12_4 < (l0_1.length : Int) := odt
                      obtain ⟨ad278, e278, hx278_0, hx278_1⟩ := at_T92 HR0_1.out x12_4 p278 q278
                      cases e278
                      replace hx278_0 := (HB.out.cell (World.block_lt_of_cell? w _ hx278_0)).trans hx278_0
                      replace hx278_1 := (HB.out.cell (World.block_lt_of_cell? w _ hx278_1)).trans hx278_1
                      replace p278 := eq_true p278; replace q278 := eq_true q278
                      try go_wp2_with (first | ((with_reducible refine gate_dst (N := 13) rfl ?_); refine box_event ?hg (N := 13) ?hd (cs := #[.int .i64 0, .int .i64 0]) (t := 92) ?hr ?_; (case hd => rfl); (case hg => rfl); (case hr => first | (go_simp; done) | (go_simp; rfl)); intro gb279 hg w50 hbox hb; have n0_ := Aside0.mk (Kd.R_below (byR HO_9.out) hb); have n1_ := Aside0.mk (blk_below (g := gb272) (o := .cells #[.int .i64 a0_0, .slice (some ad278) l0_1.length c0_1] 51 (0, 0)) (byK BK272.out) hb); have n2_ := Aside0.mk (below_step (byB1 HB.out GE272.out) hb); have n3_ := Aside0.mk (hbox); have n4_ := Aside0.mk ((by rw [hg]; exact (below_size (byB1 HB.out GE272.out)) : w.heap.size ≤ gb279)); have n5_ := Aside0.mk ((by rw [hg]; exact (below_size (byB1 HB.out GE272.out)) : w.heap.size ≤ gb279)); have n6_ := Aside0.mk ((by rw [hg]; exact Nat.ne_of_lt (blk_lt (g := gb272) (o := .cells #[.int .i64 a0_0, .slice (some ad278) l0_1.length c0_1] 51 (0, 0)) (byK BK272.out)) : gb272 ≠ gb279)); have n7_ := Aside0.mk ((by rw [hg]; exact Nat.ne_of_gt (blk_lt (g := gb272) (o := .cells #[.int .i64 a0_0, .slice (some ad278) l0_1.length c0_1] 51 (0, 0)) (byK BK272.out)) : gb279 ≠ gb272)); clear HO_9 BK272 HB; have HO_9 := n0_; have BK272 := n1_; have HB := n2_; have BK279 := n3_; have GW279 := n4_; have GE279 := n5_; have NB272_279 := n6_; have NB279_272 := n7_; clear n0_ n1_ n2_ n3_ n4_ n5_ n6_ n7_ hb hbox hg; have hnb51 := NB279_272.out; have hnc51 := NB272_279.out; have hcz52_0 : w50.cell? ⟨gb279, 0, none⟩ = some (.int .i64 0) := (blk_cell BK279.out 0).trans rfl; have hcz52_1 : w50.cell? ⟨gb279, 1, none⟩ = some (.int .i64 0) := (blk_cell BK279.out 1).trans rfl; have hfz52_0 := blk_frozen BK279.out 0; have hfz52_1 := blk_frozen BK279.out 1))
                      have n0_ : Aside0 (Kd.R (Kd.int .i64) 3 ((w50.setCell ⟨gb279, 0, none⟩ (.int .i64 ((rd_T92 l0_1 x12_4).f0))).setCell ⟨gb279, 1, none⟩ (.int .i64 ((rd_T92 l0_1 x12_4).f1))) w.heap.size (fun _ => True) (.slice (some ⟨go19, 0, none⟩) x9_4.length co19) x9_4) := ⟨by (with_reducible repeat (first | apply Kd.R_alloc | apply Kd.R_drewN | apply Kd.R_drew)); exact Kd.R_mono (Kd.R_far (p := ⟨gb279, 1, none⟩) (Kd.R_far (p := ⟨gb279, 0, none⟩) (Kd.R_types HO_9.out BK279.out (by decide)) (fun _ hk => hk.2) (.int .i64 ((rd_T92 l0_1 x12_4).f0))) (fun _ hk => hk.2) (.int .i64 ((rd_T92 l0_1 x12_4).f1))) (fun _ hk => trivial)⟩
                      have n1_ : Aside0 (((w50.setCell ⟨gb279, 0, none⟩ (.int .i64 ((rd_T92 l0_1 x12_4).f0))).setCell ⟨gb279, 1, none⟩ (.int .i64 ((rd_T92 l0_1 x12_4).f1))).heap[gb272]? = some (.cells #[.int .i64 a0_0, .slice (some ad278) l0_1.length c0_1] 51 (0, 0))) := ⟨by (with_reducible repeat (first | refine blk_drewN ?_ _ | refine blk_drew ?_ | refine blk_alloc ?_ _)); refine blk_far ?_ NB272_279.out _; (with_reducible repeat (first | refine blk_drewN ?_ _ | refine blk_drew ?_ | refine blk_alloc ?_ _)); refine blk_far ?_ NB272_279.out _; (with_reducible repeat (first | refine blk_drewN ?_ _ | refine blk_drew ?_ | refine blk_alloc ?_ _)); exact BK272.out⟩
                      have n2_ : Aside0 (((w50.setCell ⟨gb279, 0, none⟩ (.int .i64 ((rd_T92 l0_1 x12_4).f0))).setCell ⟨gb279, 1, none⟩ (.int .i64 ((rd_T92 l0_1 x12_4).f1))).heap[gb279]? = some (.cells #[.int .i64 ((rd_T92 l0_1 x12_4).f0), .int .i64 ((rd_T92 l0_1 x12_4).f1)] 92 (0, 0))) := ⟨by (with_reducible repeat (first | refine blk_drewN ?_ _ | refine blk_drew ?_ | refine blk_alloc ?_ _)); refine blk_put (cs := #[.int .i64 ((rd_T92 l0_1 x12_4).f0), .int .i64 0]) ?_ 1 _ rfl; (with_reducible repeat (first | refine blk_drewN ?_ _ | refine blk_drew ?_ | refine blk_alloc ?_ _)); refine blk_put (cs := #[.int .i64 0, .int .i64 0]) ?_ 0 _ rfl; (with_reducible repeat (first | refine blk_drewN ?_ _ | refine blk_drew ?_ | refine blk_alloc ?_ _)); exact BK279.out⟩
                      have n3_ : Aside0 (Below w.heap.size w ((w50.setCell ⟨gb279, 0, none⟩ (.int .i64 ((rd_T92 l0_1 x12_4).f0))).setCell ⟨gb279, 1, none⟩ (.int .i64 ((rd_T92 l0_1 x12_4).f1)))) := ⟨byB2 HB.out GE272.out GE279.out⟩
                      (try clear HO_9)
                      (try clear BK272)
                      (try clear BK279)
                      (try clear HB)
                      generalize ((w50.setCell ⟨gb279, 0, none⟩ (.int .i64 ((rd_T92 l0_1 x12_4).f0))).setCell ⟨gb279, 1, none⟩ (.int .i64 ((rd_T92 l0_1 x12_4).f1))) = w53 at n0_ n1_ n2_ n3_ ⊢
                      have HO_9 := n0_; have BK272 := n1_; have BK279 := n2_; have HB := n3_; clear n0_ n1_ n2_ n3_; have n0_ := Aside0.mk (Kd.R_drew HO_9.out); have n1_ := Aside0.mk (blk_drew BK272.out); have n2_ := Aside0.mk (blk_drew BK279.out); have n3_ := Aside0.mk (below_drew1 HB.out); clear HO_9 BK272 BK279 HB; have HO_9 := n0_; have BK272 := n1_; have BK279 := n2_; have HB := n3_; clear n0_ n1_ n2_ n3_
                      have p280 : 0 ≤ (x12_4 : Int) := odt
                      have q280 : x12_4 < (l1.length : Int) := odt
                      obtain ⟨ad280, e280, hx280_0⟩ := Kd.at_int HR1.out x12_4 p280 q280
                      have hw280_0 := hx280_0
                      cases e280
                      replace hx280_0 := (HB.out.cell (World.block_lt_of_cell? w _ hx280_0)).trans hx280_0
                      replace p280 := eq_true p280; replace q280 := eq_true q280
                      have p281 : 0 ≤ (((rd_T92 l0_1 x12_4).f0) : Int) := odt
                      have q281 : ((rd_T92 l0_1 x12_4).f0) < (x9_4.length : Int) := odt
                      obtain ⟨ad281, e281, hx281_0⟩ := Kd.at_int (Kd.R_reads' HO_9.out).2.2 ((rd_T92 l0_1 x12_4).f0) p281 q281
                      obtain rfl : (⟨go19, 0, none⟩ : Addr) = ad281 := (by injection e281)
                      (first | simp only [add_plain] at hx281_0 | simp only [add_at] at hx281_0 | simp only [Addr.add, Nat.zero_add] at hx281_0 | skip)
                      replace p281 := eq_true p281; replace q281 := eq_true q281
                      refine start_ (n := 31) (S := fun w' => w'.cell? ⟨gb279, 0, none⟩ = some (.int .i64 ((rd_T92 l0_1 x12_4).f0)) ∧ w'.cell? ⟨gb279, 1, none⟩ = some (.int .i64 ((rd_T92 l0_1 x12_4).f1)) ∧ w'.cell? (ad280.add (x12_4).toNat) = some (.int .i64 (rd l1 x12_4)) ∧ w'.cell? ⟨go19, (((rd_T92 l0_1 x12_4).f0)).toNat, none⟩ = some (.int .i64 (rd x9_4 ((rd_T92 l0_1 x12_4).f0)))) (ds := []) (bits 31 0) (by kernel_rfl) rfl rfl ⟨(blk_cell BK279.out 0).trans rfl, (blk_cell BK279.out 1).trans rfl, ((HB.out.cell (World.block_lt_of_cell? w _ hw280_0)).trans hw280_0), hx281_0⟩ (fun hHeld => ?_); refine with_tabW mapmakerref38_From.tab19 mapmakerref38_From.bits19 (fun HT_ HW_ => ?_)
                      generalize w53.drew = w54 at HO_9 BK272 BK279 HB hx280_0 hx281_0 hHeld ⊢
                      refine q_ 0 53 HT_ ?_; refine q_ 1 54 HT_ ?_; refine q_ 2 55 HT_ ?_; refine r4_ 3 56 HT_ HW_ hHeld ?_; refine q_ 4 57 HT_ ?_; refine q_ 5 58 HT_ ?_; refine q_ 6 59 HT_ ?_; refine q_ 7 60 HT_ ?_; refine r4_ 8 61 HT_ HW_ hHeld ?_; refine q_ 9 62 HT_ ?_; refine r4_ 10 63 HT_ HW_ hHeld ?_; refine q_ 11 64 HT_ ?_; refine q_ 12 65 HT_ ?_; refine q_ 13 66 HT_ ?_; refine qu_ 14 67 HT_ ?_; refine qu_ 15 68 HT_ ?_; refine qu_ 16 69 HT_ ?_; refine qu_ 17 70 HT_ ?_; refine qu_ 18 71 HT_ ?_; refine qu_ 19 72 HT_ ?_; refine qu_ 20 73 HT_ ?_; refine qu_ 21 74 HT_ ?_; refine qu_ 22 75 HT_ ?_; refine qu_ 23 76 HT_ ?_; refine qu_ 24 77 HT_ ?_; refine qu_ 25 78 HT_ ?_; refine qu_ 26 79 HT_ ?_; refine qu_ 27 80 HT_ ?_; refine qu_ 28 81 HT_ ?_; refine qu_ 29 82 HT_ ?_; refine q_ 30 83 HT_ ?_
                      refine done_ (done_of HT_.out (by kernel_rfl)) ?_
                      try go_wp2
                      (try simp only [← hl9_4])
                      go_roundg k4
                      case measure => have := HJ5.out; have := HK2.out; have := HK3.out; have := HK4.out; omega
                      case rel => exact ⟨(x9_4), (x11_4), (wrap64 (x12_4 + 1)), byF, byF, H', ⟨by have := HJ5.out; have := HK2.out; have := HK3.out; have := HK4.out; omega⟩, ⟨by (try simp only [hl9_3]); (try simp only [hl9_4]); (with_reducible repeat (first | apply Kd.R_alloc | apply Kd.R_drewN | apply Kd.R_drew)); exact HO_9.out⟩, ⟨by (try simp only [hl9_3]); (try simp only [hl9_4]); (with_reducible repeat (first | refine blk_drewN ?_ _ | refine blk_drew ?_ | refine blk_alloc ?_ _)); exact BK272.out⟩, ⟨byB2 HB.out GE272.out GE279.out⟩⟩
                    ·rw [if_neg c29] at H
                     exact absurd H (by simp)
                   ·rw [if_neg c28] at H
                    exact absurd H (by simp)
                  ·rw [if_neg c27] at H
                   have c27b0 : decide (0 ≤ (rd l1 x12_4)) = false := decide_eq_false c27
                   (try simp only [hl9_3] at c27b0)
                   (try simp only [hl9_4] at c27b0)
                   clear c27
                   have H' := Aside0.mk H
                   clear H
                   have hcz55_0 : wr.cell? ⟨gb272, 0, none⟩ = some (.int .i64 a0_0) := (blk_cell BK272.out 0).trans rfl
                   have hcz55_1 : wr.cell? ⟨gb272, 1, none⟩ = some (.slice A0_1 l0_1.length c0_1) := (blk_cell BK272.out 1).trans rfl
                   have hfz55_0 := blk_frozen BK272.out 0; have hfz55_1 := blk_frozen BK272.out 1
                   have p278 : 0 ≤ (x12_4 : Int) := odt
                   have q278 : x12_4 < (l0_1.length : Int) := odt
                   obtain ⟨ad278, e278, hx278_0, hx278_1⟩ := at_T92 HR0_1.out x12_4 p278 q278
                   cases e278
                   replace hx278_0 := (HB.out.cell (World.block_lt_of_cell? w _ hx278_0)).trans hx278_0
                   replace hx278_1 := (HB.out.cell (World.block_lt_of_cell? w _ hx278_1)).trans hx278_1
                   replace p278 := eq_true p278; replace q278 := eq_true q278
                   try go_wp2_with (first | ((with_reducible refine gate_dst (N := 13) rfl ?_); refine box_event ?hg (N := 13) ?hd (cs := #[.int .i64 0, .int .i64 0]) (t := 92) ?hr ?_; (case hd => rfl); (case hg => rfl); (case hr => first | (go_simp; done) | (go_simp; rfl)); intro gb279 hg w56 hbox hb; have n0_ := Aside0.mk (Kd.R_below (byR HO_9.out) hb); have n1_ := Aside0.mk (blk_below (g := gb272) (o := .cells #[.int .i64 a0_0, .slice (some ad278) l0_1.length c0_1] 51 (0, 0)) (byK BK272.out) hb); have n2_ := Aside0.mk (below_step (byB1 HB.out GE272.out) hb); have n3_ := Aside0.mk (hbox); have n4_ := Aside0.mk ((by rw [hg]; exact (below_size (byB1 HB.out GE272.out)) : w.heap.size ≤ gb279)); have n5_ := Aside0.mk ((by rw [hg]; exact (below_size (byB1 HB.out GE272.out)) : w.heap.size ≤ gb279)); have n6_ := Aside0.mk ((by rw [hg]; exact Nat.ne_of_lt (blk_lt (g := gb272) (o := .cells #[.int .i64 a0_0, .slice (some ad278) l0_1.length c0_1] 51 (0, 0)) (byK BK272.out)) : gb272 ≠ gb279)); have n7_ := Aside0.mk ((by rw [hg]; exact Nat.ne_of_gt (blk_lt (g := gb272) (o := .cells #[.int .i64 a0_0, .slice (some ad278) l0_1.length c0_1] 51 (0, 0)) (byK BK272.out)) : gb279 ≠ gb272)); clear HO_9 BK272 HB; have HO_9 := n0_; have BK272 := n1_; have HB := n2_; have BK279 := n3_; have GW279 := n4_; have GE279 := n5_; have NB272_279 := n6_; have NB279_272 := n7_; clear n0_ n1_ n2_ n3_ n4_ n5_ n6_ n7_ hb hbox hg; have hnb57 := NB279_272.out; have hnc57 := NB272_279.out; have hcz58_0 : w56.cell? ⟨gb279, 0, none⟩ = some (.int .i64 0) := (blk_cell BK279.out 0).trans rfl; have hcz58_1 : w56.cell? ⟨gb279, 1, none⟩ = some (.int .i64 0) := (blk_cell BK279.out 1).trans rfl; have hfz58_0 := blk_frozen BK279.out 0; have hfz58_1 := blk_frozen BK279.out 1))
                   have n0_ : Aside0 (Kd.R (Kd.int .i64) 3 ((w56.setCell ⟨gb279, 0, none⟩ (.int .i64 ((rd_T92 l0_1 x12_4).f0))).setCell ⟨gb279, 1, none⟩ (.int .i64 ((rd_T92 l0_1 x12_4).f1))) w.heap.size (fun _ => True) (.slice (some ⟨go19, 0, none⟩) x9_4.length co19) x9_4) := ⟨by (with_reducible repeat (first | apply Kd.R_alloc | apply Kd.R_drewN | apply Kd.R_drew)); exact Kd.R_mono (Kd.R_far (p := ⟨gb279, 1, none⟩) (Kd.R_far (p := ⟨gb279, 0, none⟩) (Kd.R_types HO_9.out BK279.out (by decide)) (fun _ hk => hk.2) (.int .i64 ((rd_T92 l0_1 x12_4).f0))) (fun _ hk => hk.2) (.int .i64 ((rd_T92 l0_1 x12_4).f1))) (fun _ hk => trivial)⟩
                   have n1_ : Aside0 (((w56.setCell ⟨gb279, 0, none⟩ (.int .i64 ((rd_T92 l0_1 x12_4).f0))).setCell ⟨gb279, 1, none⟩ (.int .i64 ((rd_T92 l0_1 x12_4).f1))).heap[gb272]? = some (.cells #[.int .i64 a0_0, .slice (some ad278) l0_1.length c0_1] 51 (0, 0))) := ⟨by (with_reducible repeat (first | refine blk_drewN ?_ _ | refine blk_drew ?_ | refine blk_alloc ?_ _)); refine blk_far ?_ NB272_279.out _; (with_reducible repeat (first | refine blk_drewN ?_ _ | refine blk_drew ?_ | refine blk_alloc ?_ _)); refine blk_far ?_ NB272_279.out _; (with_reducible repeat (first | refine blk_drewN ?_ _ | refine blk_drew ?_ | refine blk_alloc ?_ _)); exact BK272.out⟩
                   have n2_ : Aside0 (((w56.setCell ⟨gb279, 0, none⟩ (.int .i64 ((rd_T92 l0_1 x12_4).f0))).setCell ⟨gb279, 1, none⟩ (.int .i64 ((rd_T92 l0_1 x12_4).f1))).heap[gb279]? = some (.cells #[.int .i64 ((rd_T92 l0_1 x12_4).f0), .int .i64 ((rd_T92 l0_1 x12_4).f1)] 92 (0, 0))) := ⟨by (with_reducible repeat (first | refine blk_drewN ?_ _ | refine blk_drew ?_ | refine blk_alloc ?_ _)); refine blk_put (cs := #[.int .i64 ((rd_T92 l0_1 x12_4).f0), .int .i64 0]) ?_ 1 _ rfl; (with_reducible repeat (first | refine blk_drewN ?_ _ | refine blk_drew ?_ | refine blk_alloc ?_ _)); refine blk_put (cs := #[.int .i64 0, .int .i64 0]) ?_ 0 _ rfl; (with_reducible repeat (first | refine blk_drewN ?_ _ | refine blk_drew ?_ | refine blk_alloc ?_ _)); exact BK279.out⟩
                   have n3_ : Aside0 (Below w.heap.size w ((w56.setCell ⟨gb279, 0, none⟩ (.int .i64 ((rd_T92 l0_1 x12_4).f0))).setCell ⟨gb279, 1, none⟩ (.int .i64 ((rd_T92 l0_1 x12_4).f1)))) := ⟨byB2 HB.out GE272.out GE279.out⟩
                   (try clear HO_9)
                   (try clear BK272)
                   (try clear BK279)
                   (try clear HB)
                   generalize ((w56.setCell ⟨gb279, 0, none⟩ (.int .i64 ((rd_T92 l0_1 x12_4).f0))).setCell ⟨gb279, 1, none⟩ (.int .i64 ((rd_T92 l0_1 x12_4).f1))) = w59 at n0_ n1_ n2_ n3_ ⊢
                   have HO_9 := n0_; have BK272 := n1_; have BK279 := n2_; have HB := n3_; clear n0_ n1_ n2_ n3_; have n0_ := Aside0.mk (Kd.R_drew HO_9.out); have n1_ := Aside0.mk (blk_drew BK272.out); have n2_ := Aside0.mk (blk_drew BK279.out); have n3_ := Aside0.mk (below_drew1 HB.out); clear HO_9 BK272 BK279 HB; have HO_9 := n0_; have BK272 := n1_; have BK279 := n2_; have HB := n3_; clear n0_ n1_ n2_ n3_
                   have p280 : 0 ≤ (x12_4 : Int) := odt
                   have q280 : x12_4 < (l1.length : Int) := odt
                   obtain ⟨ad280, e280, hx280_0⟩ := Kd.at_int HR1.out x12_4 p280 q280
                   have hw280_0 := hx280_0
                   cases e280
                   replace hx280_0 := (HB.out.cell (World.block_lt_of_cell? w _ hx280_0)).trans hx280_0
                   replace p280 := eq_true p280; replace q280 := eq_true q280
                   refine start_ (n := 31) (S := fun w' => w'.cell? (ad280.add (x12_4).toNat) = some (.int .i64 (rd l1 x12_4))) (ds := []) (bits 31 0) (by kernel_rfl) rfl rfl (((HB.out.cell (World.block_lt_of_cell? w _ hw280_0)).trans hw280_0)) (fun hHeld => ?_); refine with_tabW mapmakerref38_From.tab19 mapmakerref38_From.bits19 (fun HT_ HW_ => ?_)
                   generalize w59.drew = w60 at HO_9 BK272 BK279 HB hx280_0 hHeld ⊢
                   refine q_ 0 53 HT_ ?_; refine q_ 1 54 HT_ ?_; refine q_ 2 55 HT_ ?_; refine r1_ 3 56 HT_ HW_ hHeld ?_; refine q_ 4 57 HT_ ?_; refine q_ 5 58 HT_ ?_; refine qu_ 6 59 HT_ ?_; refine qu_ 7 60 HT_ ?_; refine qu_ 8 61 HT_ ?_; refine qu_ 9 62 HT_ ?_; refine qu_ 10 63 HT_ ?_; refine qu_ 11 64 HT_ ?_; refine q_ 12 65 HT_ ?_; refine q_ 13 66 HT_ ?_; refine qu_ 14 67 HT_ ?_; refine qu_ 15 68 HT_ ?_; refine qu_ 16 69 HT_ ?_; refine qu_ 17 70 HT_ ?_; refine qu_ 18 71 HT_ ?_; refine qu_ 19 72 HT_ ?_; refine qu_ 20 73 HT_ ?_; refine qu_ 21 74 HT_ ?_; refine qu_ 22 75 HT_ ?_; refine qu_ 23 76 HT_ ?_; refine qu_ 24 77 HT_ ?_; refine qu_ 25 78 HT_ ?_; refine qu_ 26 79 HT_ ?_; refine qu_ 27 80 HT_ ?_; refine qu_ 28 81 HT_ ?_; refine qu_ 29 82 HT_ ?_; refine q_ 30 83 HT_ ?_
                   refine done_ (done_of HT_.out (by kernel_rfl)) ?_
                   try go_wp2
                   (try simp only [← hl9_4])
                   go_roundg k4
                   case measure => have := HJ5.out; have := HK2.out; have := HK3.out; have := HK4.out; omega
                   case rel => exact ⟨(x9_4), (x11_4), (wrap64 (x12_4 + 1)), byF, byF, H', ⟨by have := HJ5.out; have := HK2.out; have := HK3.out; have := HK4.out; omega⟩, ⟨by (try simp only [hl9_3]); (try simp only [hl9_4]); (with_reducible repeat (first | apply Kd.R_alloc | apply Kd.R_drewN | apply Kd.R_drew)); exact HO_9.out⟩, ⟨by (try simp only [hl9_3]); (try simp only [hl9_4]); (with_reducible repeat (first | refine blk_drewN ?_ _ | refine blk_drew ?_ | refine blk_alloc ?_ _)); exact BK272.out⟩, ⟨byB2 HB.out GE272.out GE279.out⟩⟩
                 ·rw [if_neg c26] at H
                  exact absurd H (by simp)
                ·rw [if_neg c25] at H
                 exact absurd H (by simp)
               ·rw [if_neg c24] at H
                have c24b0 : decide (x12_4 < (l0_1.length : Int)) = false := decide_eq_false c24
                (try simp only [hl9_3] at c24b0)
                (try simp only [hl9_4] at c24b0)
                clear c24
                have H' := Aside0.mk H
                clear H
                have hcz61_0 : wr.cell? ⟨gb272, 0, none⟩ = some (.int .i64 a0_0) := (blk_cell BK272.out 0).trans rfl
                have hcz61_1 : wr.cell? ⟨gb272, 1, none⟩ = some (.slice A0_1 l0_1.length c0_1) := (blk_cell BK272.out 1).trans rfl
                have hfz61_0 := blk_frozen BK272.out 0; have hfz61_1 := blk_frozen BK272.out 1
                go_wp2
                (try simp only [← hl9_3, ← hl9_4])
                go_roundg k4
                case measure => have := HJ5.out; have := HK2.out; have := HK3.out; have := HK4.out; omega
                case rel => exact ⟨(x9_4), (x11_4), byF, H', ⟨by have := HJ5.out; have := HK2.out; have := HK3.out; have := HK4.out; omega⟩, ⟨by (try simp only [hl9_3]); (try simp only [hl9_4]); (with_reducible repeat (first | apply Kd.R_alloc | apply Kd.R_drewN | apply Kd.R_drew)); exact HO_9.out⟩, ⟨by (try simp only [hl9_3]); (try simp only [hl9_4]); (with_reducible repeat (first | refine blk_drewN ?_ _ | refine blk_drew ?_ | refine blk_alloc ?_ _)); exact BK272.out⟩, ⟨byB1 HB.out GE272.out⟩⟩
            ·replace c23 := Bool.eq_false_iff.mpr c23
             subst c23
             have H1 : (some (x9_3, 0)) = some (r1, r2) := by rw [if_neg (show ¬ (false = true) by decide)] at H; exact H
             clear H; have H := H1; clear H1
             simp only [Option.some.injEq, Prod.mk.injEq] at H
             obtain ⟨rfl, rfl⟩ := H
             go_wp2
             go_ret2
             exact ⟨_, byE, by (with_reducible repeat (first | apply Kd.R_alloc | apply Kd.R_drewN | apply Kd.R_drew)); exact HO_9.out, byB1 HB.out GE272.out⟩
         ·rw [if_neg c18] at H
          exact absurd H (by simp)
        ·rw [if_neg c17] at H
         exact absurd H (by simp)
 ·rw [if_neg c5] at H
  have c5b0 : (t273 == 0) = false := beq_eq_false_iff_ne.mpr c5
  have c5b1 : (t273 != 0) = true := bne_iff_ne.mpr c5
  simp only [Option.some.injEq, Prod.mk.injEq] at H
  obtain ⟨rfl, rfl⟩ := H
  go_enter Try.func22, Try.ntmps22
  go_wp2_with (first | ((with_reducible refine gate_dst (N := 3) rfl ?_); refine box_event ?hg (N := 3) ?hd (cs := #[.int .i64 a0_0, .slice A0_1 l0_1.length c0_1]) (t := 51) ?hr ?_; (case hd => rfl); (case hg => rfl); (case hr => first | (go_simp; done) | (go_simp; rfl)); intro gb272 hg w62 hbox hb; have n0_ := Aside0.mk (below_step (byB HB.out) hb); have n1_ := Aside0.mk (hbox); have n2_ := Aside0.mk ((by rw [hg]; exact (below_size (byB HB.out)) : w.heap.size ≤ gb272)); have n3_ := Aside0.mk ((by rw [hg]; exact (below_size (byB HB.out)) : w.heap.size ≤ gb272)); clear HB; have HB := n0_; have BK272 := n1_; have GW272 := n2_; have GE272 := n3_; clear n0_ n1_ n2_ n3_ hb hbox hg; have hcz63_0 : w62.cell? ⟨gb272, 0, none⟩ = some (.int .i64 a0_0) := (blk_cell BK272.out 0).trans rfl; have hcz63_1 : w62.cell? ⟨gb272, 1, none⟩ = some (.slice A0_1 l0_1.length c0_1) := (blk_cell BK272.out 1).trans rfl; have hfz63_0 := blk_frozen BK272.out 0; have hfz63_1 := blk_frozen BK272.out 1) | ((with_reducible refine gate_callee (f := 41) rfl ?_); refine goesL_ (some 16) rfl rfl Try.func41 (by kernel_rfl) rfl #[.agg #[.int .i64 a0_0, .slice A0_1 l0_1.length c0_1], .slice A1 l1.length c1] rfl byL ?_; (with_reducible refine (mapmakerref38_Check.calls k a0_0 _ _ l0_1 _ _ l1 t273 _ ?side1 ?side2 ?side3 ?side4 A4.out).mono ?_); (case side1 => exact byC (Kd.C_below HR0_1.out HB.out)); (case side2 => exact HC0_1.out); (case side3 => exact byC (Kd.C_below HR1.out HB.out)); (case side4 => exact HC1.out); rintro e w64 ⟨rfl, hb⟩; refine ⟨_, rfl, ?_⟩; have n0_ := Aside0.mk (blk_below (g := gb272) (o := .cells #[.int .i64 a0_0, .slice A0_1 l0_1.length c0_1] 51 (0, 0)) (byK BK272.out) hb); have n1_ := Aside0.mk (below_step (byB1 HB.out GE272.out) hb); clear BK272 HB; have BK272 := n0_; have HB := n1_; clear n0_ n1_; (try clear hb); (try clear hb2); (try clear hk); (try clear hi)))
  go_ret2
  exact ⟨_, byE, by first | exact Kd.R_nil _ _ _ _ _ | exact Kd.N_nil _ _ _ _ _ | exact Kd.V_nil _ _ _ _ _ | exact Kd.Q_nil _ _ _ _ _ | exact Kd.S_nil _ _ _ _ _, byB1 HB.out GE272.out⟩
end Go.Proofs.Ytaodlehnfjalnaa.Print
