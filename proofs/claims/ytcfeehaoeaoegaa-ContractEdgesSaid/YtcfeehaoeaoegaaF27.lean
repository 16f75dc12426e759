/- Written by a program of this claim's author (xprint.py, over the kit's print.py): the call of mapmaker/mapmakerref40.Lower comes to what the Lean function of its name says. -/
import Derived.Test.YtcfeehaoeaoegaaPrint0
import Derived.Test.YtcfeehaoeaoegaaF21
import Derived.Test.YtcfeehaoeaoegaaF33
import Derived.Test.YtcfeehaoeaoegaaHKREdges
import Derived.Test.YtcfeehaoeaoegaaHXShort
namespace Go.Proofs.Ytcfeehaoeaoegaa.Print
open Go.RowKit Go.Proofs.YtcfeehaoeaoegaaW.PrintWords Go.Proofs.YtcfeehaoeaoegaaW.PrintLast Go.Proofs.YtcfeehaoeaoegaaW.PrintMore
attribute [local go_sem] max2_int min2_int max_two min_two max_three min_three max_four min_four   -- for this text's walks alone
set_option linter.unusedVariables false
set_option linter.unusedSimpArgs false

/-! ### mapmakerref40_Lower: function 27 -/
mutual
def mapmakerref40_Lower.j0 : Nat → List Int → Int → List (S38) → List Int → Bool → Int → List (S38) → Option (List Int)
 | 0, _, _, _, _, _, _, _ => none
 | k + 1, x1, x2, x7, x8, x24, x163000, x163001 => if x24 = true then (some ([] : List Int)) else (mapmakerref40_Lower.l0 k x1 x2 x7 x8 0 x163000 x163001)
def mapmakerref40_Lower.l0 : Nat → List Int → Int → List (S38) → List Int → Int → Int → List (S38) → Option (List Int)
 | 0, _, _, _, _, _, _, _ => none
 | k + 1, x1, x2, x7, x8, x9, x163000, x163001 => if 0 ≤ x2 then (if x2 < (x7.length : Int) then ((mapmakerref40_Rank.f k x1 ((rd_T38 x7 x2).f0)).bind fun t167 => (if x9 < t167 then (if 0 ≤ x9 then (if x9 < (x1.length : Int) then ((mapmakerref40_Find.f k x163000 x163001 x1 (rd x1 x9) ((rd_T38 x7 x2).f0)).bind fun bt170 => ((mapmakerref40_Find.f k x163000 x163001 x1 (rd x1 x9) ((rd_T38 x7 x2).f1)).bind fun bt174 => (if bt170.2 = true then (if bt174.2 = true then (if x8.length < 17592186044416 then (mapmakerref40_Lower.l0 k x1 x2 x7 (x8 ++ [rd x1 x9]) (wrap64 (x9 + 1)) x163000 x163001) else (none)) else (mapmakerref40_Lower.l0 k x1 x2 x7 x8 (wrap64 (x9 + 1)) x163000 x163001)) else (mapmakerref40_Lower.l0 k x1 x2 x7 x8 (wrap64 (x9 + 1)) x163000 x163001)))) else (none)) else (none)) else (some x8))) else (none)) else (none)
end
def mapmakerref40_Lower.f (k : Nat) (a0_0 : Int) (l0_1 : List (S38)) (l1 : List Int) (a2 : Int) : Option (List Int) := (mapmakerref40_Edges.f a0_0 l0_1 l1).bind fun t163 => (if a2 < 0 then (mapmakerref40_Lower.j0 k l1 a2 t163 ([] : List Int) true a0_0 l0_1) else (mapmakerref40_Lower.j0 k l1 a2 t163 ([] : List Int) (decide (a2 ≥ (t163.length : Int))) a0_0 l0_1))
theorem mapmakerref40_Lower.mono_l : ∀ k, (∀ y0 y1 y2 y3 y4 y5 y6, LeO (mapmakerref40_Lower.j0 k y0 y1 y2 y3 y4 y5 y6) (mapmakerref40_Lower.j0 (k + 1) y0 y1 y2 y3 y4 y5 y6)) ∧ (∀ y0 y1 y2 y3 y4 y5 y6, LeO (mapmakerref40_Lower.l0 k y0 y1 y2 y3 y4 y5 y6) (mapmakerref40_Lower.l0 (k + 1) y0 y1 y2 y3 y4 y5 y6))
 | 0 => ⟨fun _ _ _ _ _ _ _ r h => by simp [mapmakerref40_Lower.j0] at h, fun _ _ _ _ _ _ _ r h => by simp [mapmakerref40_Lower.l0] at h⟩
 | k + 1 => by
  obtain ⟨ih0, ih1⟩ := mapmakerref40_Lower.mono_l k
  refine ⟨?_, ?_⟩
  ·intro y0 y1 y2 y3 y4 y5 y6
   unfold mapmakerref40_Lower.j0
   repeat' first
   | (with_reducible exact ih0 _ _ _ _ _ _ _)
   | (with_reducible exact ih1 _ _ _ _ _ _ _)
   | (with_reducible exact mapmakerref40_Find.mono _ _ _ _ _ _)
   | (with_reducible exact mapmakerref40_Rank.mono _ _ _)
   | (with_reducible exact LeO.refl _)
   | (with_reducible exact LeO.none _)
   | (with_reducible refine LeO.ite ?_ ?_)
   | (with_reducible refine LeO.bind ?_ (fun _ => ?_))
   | exact ih0 _ _ _ _ _ _ _
   | exact ih1 _ _ _ _ _ _ _
   | exact mapmakerref40_Find.mono _ _ _ _ _ _
   | exact mapmakerref40_Rank.mono _ _ _
   | exact LeO.none _
   | refine LeO.ite ?_ ?_
   | refine LeO.bind ?_ (fun _ => ?_)
  ·intro y0 y1 y2 y3 y4 y5 y6
   unfold mapmakerref40_Lower.l0
   repeat' first
   | (with_reducible exact ih0 _ _ _ _ _ _ _)
   | (with_reducible exact ih1 _ _ _ _ _ _ _)
   | (with_reducible exact mapmakerref40_Find.mono _ _ _ _ _ _)
   | (with_reducible exact mapmakerref40_Rank.mono _ _ _)
   | (with_reducible exact LeO.refl _)
   | (with_reducible exact LeO.none _)
   | (with_reducible refine LeO.ite ?_ ?_)
   | (with_reducible refine LeO.bind ?_ (fun _ => ?_))
   | exact ih0 _ _ _ _ _ _ _
   | exact ih1 _ _ _ _ _ _ _
   | exact mapmakerref40_Find.mono _ _ _ _ _ _
   | exact mapmakerref40_Rank.mono _ _ _
   | exact LeO.none _
   | refine LeO.ite ?_ ?_
   | refine LeO.bind ?_ (fun _ => ?_)
theorem mapmakerref40_Lower.mono : ∀ a0 a1 a2 a3 k, LeO (mapmakerref40_Lower.f k a0 a1 a2 a3) (mapmakerref40_Lower.f (k + 1) a0 a1 a2 a3) := by
 intro a0 a1 a2 a3 k
 obtain ⟨ih0, ih1⟩ := mapmakerref40_Lower.mono_l k
 unfold mapmakerref40_Lower.f
 repeat' first
   | (with_reducible exact ih0 _ _ _ _ _ _ _)
   | (with_reducible exact ih1 _ _ _ _ _ _ _)
   | (with_reducible exact mapmakerref40_Find.mono _ _ _ _ _ _)
   | (with_reducible exact mapmakerref40_Rank.mono _ _ _)
   | (with_reducible exact LeO.refl _)
   | (with_reducible exact LeO.none _)
   | (with_reducible refine LeO.ite ?_ ?_)
   | (with_reducible refine LeO.bind ?_ (fun _ => ?_))
   | exact ih0 _ _ _ _ _ _ _
   | exact ih1 _ _ _ _ _ _ _
   | exact mapmakerref40_Find.mono _ _ _ _ _ _
   | exact mapmakerref40_Rank.mono _ _ _
   | exact LeO.none _
   | refine LeO.ite ?_ ?_
   | refine LeO.bind ?_ (fun _ => ?_)
def mapmakerref40_Lower.T8 : Bool × List (List Nat × List Nat) := (true, [([], []), ([], []), ([], []), ([], []), ([2, 3], [2, 3]), ([4], [4]), ([], []), ([], []), ([6, 7], [6, 7]), ([8], [8]), ([9], [9]), ([0, 1, 5, 10], [0, 1, 5, 10]), ([11], [11]), ([12], [12]), ([12], [12]), ([13, 11, 0, 1, 2, 3, 4, 5, 6, 7, 8, 9, 10, 11, 12, 13], [13]), ([14, 15, 0, 1, 2, 3, 4, 5, 6, 7, 8, 9, 10, 11, 12, 13, 14, 15], [14])])
def mapmakerref40_Lower.B8 : List Nat := [0, 0, 0, 0, 12, 28, 0, 0, 192, 448, 960, 2047, 4095, 8191, 8191, 16383, 65535]
theorem mapmakerref40_Lower.tab8 : rtab .any (opsOf Try.f27 8) = mapmakerref40_Lower.T8 := by kernel_rfl
theorem mapmakerref40_Lower.bits8 : waitsOk mapmakerref40_Lower.T8.2 mapmakerref40_Lower.B8 = true := by kernel_rfl
def mapmakerref40_Lower.T9 : Bool × List (List Nat × List Nat) := (true, [([], []), ([], []), ([], []), ([], []), ([2, 3], [2, 3]), ([4], [4]), ([], []), ([], []), ([6, 7], [6, 7]), ([8], [8]), ([9], [9]), ([0, 1, 5, 10], [0, 1, 5, 10]), ([11], [11]), ([12], [12]), ([12], [12]), ([13, 11, 0, 1, 2, 3, 4, 5, 6, 7, 8, 9, 10, 11, 12, 13], [13]), ([14, 15, 0, 1, 2, 3, 4, 5, 6, 7, 8, 9, 10, 11, 12, 13, 14, 15], [14])])
def mapmakerref40_Lower.B9 : List Nat := [0, 0, 0, 0, 12, 28, 0, 0, 192, 448, 960, 2047, 4095, 8191, 8191, 16383, 65535]
theorem mapmakerref40_Lower.tab9 : rtab .any (opsOf Try.f27 9) = mapmakerref40_Lower.T9 := by kernel_rfl
theorem mapmakerref40_Lower.bits9 : waitsOk mapmakerref40_Lower.T9.2 mapmakerref40_Lower.B9 = true := by kernel_rfl
set_option maxHeartbeats 8000000 in
set_option maxRecDepth 100000 in
theorem mapmakerref40_Lower.calls (k : Nat) (a0_0 : Int) (A0_1 : Option Addr) (c0_1 : Nat) (l0_1 : List (S38)) (A1 : Option Addr) (c1 : Nat) (l1 : List Int) (a2 : Int) (r : List Int) (w : World) (hr0_1 : Kd.C k38 w A0_1 l0_1.length l0_1) (hc0_1 : l0_1.length ≤ c0_1) (hr1 : Kd.C (Kd.int .i64) w A1 l1.length l1) (hc1 : l1.length ≤ c1) (h : mapmakerref40_Lower.f k a0_0 l0_1 l1 a2 = some r) :
  Calls Try.prog 27 #[.agg #[.int .i64 a0_0, .slice A0_1 l0_1.length c0_1], .slice A1 l1.length c1, .int .i64 a2] w fun e w' => ∃ v0_ : Value, e = .returned (v0_) ∧ Kd.R (Kd.int .i64) 3 w' w.heap.size (fun _ => True) v0_ r ∧ Below w.heap.size w w' := by
 have hu24 := Try.underlying24; have HR0_1 := Aside0.mk hr0_1; have HC0_1 := Aside0.mk hc0_1; clear hr0_1 hc0_1; have HR1 := Aside0.mk hr1; have HC1 := Aside0.mk hc1; clear hr1 hc1; have HB := Aside0.mk (Below.refl w.heap.size w)
 have H : ((mapmakerref40_Edges.f a0_0 l0_1 l1).bind fun t163 => (if a2 < 0 then (mapmakerref40_Lower.j0 k l1 a2 t163 ([] : List Int) true a0_0 l0_1) else (mapmakerref40_Lower.j0 k l1 a2 t163 ([] : List Int) (decide (a2 ≥ (t163.length : Int))) a0_0 l0_1))) = some r := h
 clear h
 replace H := Option.bind_eq_some_iff.mp H
 obtain ⟨t163, A40, H⟩ := H
 replace H : (if a2 < 0 then (mapmakerref40_Lower.j0 k l1 a2 t163 ([] : List Int) true a0_0 l0_1) else (mapmakerref40_Lower.j0 k l1 a2 t163 ([] : List Int) (decide (a2 ≥ (t163.length : Int))) a0_0 l0_1)) = some r := H
 have A4 := Aside0.mk A40; clear A40; have HC5 := Aside0.mk H; clear H
 go_enter Try.func27, Try.ntmps27
 go_upto_region 3 with (first | ((with_reducible refine gate_dst (N := 3) rfl ?_); (try (refine gate_guard (by rfl) ?_; dsimp only)); refine box_event ?hg (N := 3) ?hd (cs := #[.int .i64 a0_0, .slice A0_1 l0_1.length c0_1]) (t := 24) ?hr ?_; (case hd => rfl); (case hg => rfl); (case hr => first | (go_simp; done) | (go_simp; rfl)); intro gb162 hg w6 hbox hb; have n0_ := Aside0.mk (below_step (byB HB.out) hb); have n1_ := Aside0.mk (hbox); have n2_ := Aside0.mk ((by rw [hg]; exact (below_size (byB HB.out)) : w.heap.size ≤ gb162)); have n3_ := Aside0.mk ((by rw [hg]; exact (below_size (byB HB.out)) : w.heap.size ≤ gb162)); clear HB; have HB := n0_; have BK162 := n1_; have GW162 := n2_; have GE162 := n3_; clear n0_ n1_ n2_ n3_ hb hbox hg; have hcz7_0 : w6.cell? ⟨gb162, 0, none⟩ = some (.int .i64 a0_0) := (blk_cell BK162.out 0).trans rfl; have hcz7_1 : w6.cell? ⟨gb162, 1, none⟩ = some (.slice A0_1 l0_1.length c0_1) := (blk_cell BK162.out 1).trans rfl; have hfz7_0 := blk_frozen BK162.out 0; have hfz7_1 := blk_frozen BK162.out 1) | ((with_reducible refine gate_callee (f := 31) rfl ?_); refine goesL_ (some 16) rfl rfl Try.func31 (by kernel_rfl) rfl #[.agg #[.int .i64 a0_0, .slice A0_1 l0_1.length c0_1], .slice A1 l1.length c1] rfl byL ?_; (with_reducible refine (mapmakerref40_Edges.calls a0_0 _ _ l0_1 _ _ l1 t163 _ ?side1 ?side2 ?side3 ?side4 A4.out).mono ?_); (case side1 => exact byC (Kd.C_below HR0_1.out HB.out)); (case side2 => exact HC0_1.out); (case side3 => exact byC (Kd.C_below HR1.out HB.out)); (case side4 => exact HC1.out); rintro e w8 ⟨v164, rfl, ho0, hb⟩; refine ⟨_, rfl, ?_⟩; have n0_ := Aside0.mk (Kd.R_lower ho0 (below_size (byB1 HB.out GE162.out))); have n1_ := Aside0.mk (blk_below (g := gb162) (o := .cells #[.int .i64 a0_0, .slice A0_1 l0_1.length c0_1] 24 (0, 0)) (byK BK162.out) hb); have n2_ := Aside0.mk (below_step (byB1 HB.out GE162.out) hb); clear BK162 HB; have HO165 := n0_; have BK162 := n1_; have HB := n2_; clear n0_ n1_ n2_; (try clear hb); (try clear hb2); (try clear hk); (try clear hi); (try clear ho0)))
 (try simp only [Act.put, List.setIfInBounds_toArray, List.set_cons_zero, List.set_cons_succ])
 go_cut [24] (fun v24 wc => ∃ (kq : Nat) (x24_4 : Bool), v24 = .bool x24_4 ∧ Aside0 (mapmakerref40_Lower.j0 kq l1 a2 t163 ([] : List Int) x24_4 a0_0 l0_1 = some r) ∧ Aside0 (kq ≤ k) ∧ Aside0 (Kd.R k38 38 wc w.heap.size (fun _ => True) v164 t163) ∧ Aside0 (Kd.R (Kd.int .i64) 3 wc w.heap.size (fun _ => True) (.slice none 0 0) ([] : List Int)) ∧ Aside0 (wc.heap[gb162]? = some (.cells #[.int .i64 a0_0, (.slice A0_1 l0_1.length c0_1)] 24 (0, 0))) ∧ Aside0 (Below w.heap.size w wc))
 case first =>
  have H := HC5.out; clear HC5
  by_cases c9 : a2 < 0
  ·rw [if_pos c9] at H
   have c9b0 : decide (a2 < 0) = true := decide_eq_true c9
   clear c9
   (first | rw [c9b0] | (simp only [i64_w, i32_w]; rw [c9b0]) | skip)
   have H' := Aside0.mk H
   clear H
   go_wp2
   go_meet
   case rel => exact ⟨_, (true), (by first | rfl | (simp; done) | (simp [*]; done)), H', ⟨by first | omega | exact Nat.le_refl _⟩, ⟨by (with_reducible repeat (first | apply Kd.R_alloc | apply Kd.R_drewN | apply Kd.R_drew)); exact HO165.out⟩, ⟨by first | exact Kd.R_nil _ _ _ _ _ | exact Kd.N_nil _ _ _ _ _ | exact Kd.V_nil _ _ _ _ _ | exact Kd.Q_nil _ _ _ _ _ | exact Kd.S_nil _ _ _ _ _⟩, ⟨by (with_reducible repeat (first | refine blk_drewN ?_ _ | refine blk_drew ?_ | refine blk_alloc ?_ _)); exact BK162.out⟩, ⟨by repeat (first | (with_reducible first | exact HB.out | apply below_alloc | apply pw_below_drewN | apply below_drew1 | refine below_set ?_ GE162.out) | exact HB.out)⟩⟩
  ·rw [if_neg c9] at H
   have c9b0 : decide (a2 < 0) = false := decide_eq_false c9
   clear c9
   (first | rw [c9b0] | (simp only [i64_w, i32_w]; rw [c9b0]) | skip)
   have H' := Aside0.mk H
   clear H
   obtain ⟨Ao10, co10, eo10⟩ := Kd.R_slice HO165.out
   subst eo10
   go_wp2
   go_meet
   case rel => exact ⟨_, (decide (a2 ≥ (t163.length : Int))), (by first | rfl | (simp; done) | (simp [*]; done)), H', ⟨by first | omega | exact Nat.le_refl _⟩, ⟨by (with_reducible repeat (first | apply Kd.R_alloc | apply Kd.R_drewN | apply Kd.R_drew)); exact HO165.out⟩, ⟨by first | exact Kd.R_nil _ _ _ _ _ | exact Kd.N_nil _ _ _ _ _ | exact Kd.V_nil _ _ _ _ _ | exact Kd.Q_nil _ _ _ _ _ | exact Kd.S_nil _ _ _ _ _⟩, ⟨by (with_reducible repeat (first | refine blk_drewN ?_ _ | refine blk_drew ?_ | refine blk_alloc ?_ _)); exact BK162.out⟩, ⟨by repeat (first | (with_reducible first | exact HB.out | apply below_alloc | apply pw_below_drewN | apply below_drew1 | refine below_set ?_ GE162.out) | exact HB.out)⟩⟩
 case rest =>
  clear HC5
  try clear c1
  try clear c2
  try clear p2
  try clear c3
  try clear c9
  try clear c9b0
  try clear hcz7_0
  try clear hcz7_1
  try clear hfz7_0
  try clear hfz7_1
  obtain ⟨kq, x24_4, rfl, HA, HJ4, HO_7, HO_8, BK162, HB⟩ := hcut
  cases kq with
  | zero => exact absurd HA.out (by simp [mapmakerref40_Lower.j0])
  | succ kj4 =>
   have H := HA.out; clear HA
   simp only [mapmakerref40_Lower.j0] at H
   by_cases c11 : x24_4 = true
   ·subst c11
    have H1 : (some ([] : List Int)) = some r := by rw [if_pos rfl] at H; exact H
    clear H; have H := H1; clear H1
    obtain rfl := Option.some.inj H
    go_wp2
    go_ret
    exact ⟨_, by first | rfl | (simp [errW_none, errW_some] <;> rfl) | (simp [*, errW_none, errW_some] <;> rfl), by first | exact Kd.R_nil _ _ _ _ _ | exact Kd.N_nil _ _ _ _ _ | exact Kd.V_nil _ _ _ _ _ | exact Kd.Q_nil _ _ _ _ _ | exact Kd.S_nil _ _ _ _ _, by repeat (first | (with_reducible first | exact HB.out | apply below_alloc | apply pw_below_drewN | apply below_drew1 | refine below_set ?_ GE162.out) | exact HB.out)⟩
   ·replace c11 := Bool.eq_false_iff.mpr c11
    subst c11
    have H1 : (mapmakerref40_Lower.l0 kj4 l1 a2 t163 ([] : List Int) 0 a0_0 l0_1) = some r := by rw [if_neg (show ¬ (false = true) by decide)] at H; exact H
    clear H; have H := H1; clear H1
    have H' := Aside0.mk H
    clear H
    go_wp2
    go_loopg [8, 9] kj4 (fun kq v8 v9 w' => ∃ (x8_2 : List Int) (x9_2 : Int), v9 = .int .i64 x9_2 ∧ Aside0 (mapmakerref40_Lower.l0 kq l1 a2 t163 x8_2 x9_2 a0_0 l0_1 = some r) ∧ Aside0 (kq ≤ kj4) ∧ Aside0 (Kd.R k38 38 w' w.heap.size (fun _ => True) v164 t163) ∧ Aside0 (Kd.R (Kd.int .i64) 3 w' w.heap.size (fun _ => True) v8 x8_2) ∧ Aside0 (w'.heap[gb162]? = some (.cells #[.int .i64 a0_0, (.slice A0_1 l0_1.length c0_1)] 24 (0, 0))) ∧ Aside0 (Below w.heap.size w w'))
    case atStart => exact ⟨(([] : List Int)), (0), (by first | rfl | (simp; done) | (simp [*]; done)), H', ⟨Nat.le_refl _⟩, ⟨by (with_reducible repeat (first | apply Kd.R_alloc | apply Kd.R_drewN | apply Kd.R_drew)); exact HO_7.out⟩, ⟨by (with_reducible repeat (first | apply Kd.R_alloc | apply Kd.R_drewN | apply Kd.R_drew)); exact HO_8.out⟩, ⟨by (with_reducible repeat (first | refine blk_drewN ?_ _ | refine blk_drew ?_ | refine blk_alloc ?_ _)); exact BK162.out⟩, ⟨by repeat (first | (with_reducible first | exact HB.out | apply below_alloc | apply pw_below_drewN | apply below_drew1 | refine below_set ?_ GE162.out) | exact HB.out)⟩⟩
    case round =>
     clear H'
     try clear c1
     try clear c2
     try clear p2
     try clear c3
     try clear c9
     try clear c9b0
     try clear c11
     try clear hcz7_0
     try clear hcz7_1
     try clear hfz7_0
     try clear hfz7_1
     try clear p2
     obtain ⟨x8_2, x9_2, rfl, HA, HK2, HO_7, HO_8, BK162, HB⟩ := hrel
     cases gk with
     | zero => exact absurd HA.out (by simp [mapmakerref40_Lower.l0])
     | succ k2 =>
      have H := HA.out; clear HA
      simp only [mapmakerref40_Lower.l0] at H
      by_cases c12 : 0 ≤ a2
      ·rw [if_pos c12] at H
       have c12b0 : decide (0 ≤ a2) = true := decide_eq_true c12
       clear c12
       by_cases c13 : a2 < (t163.length : Int)
       ·rw [if_pos c13] at H
        have c13b0 : decide (a2 < (t163.length : Int)) = true := decide_eq_true c13
        clear c13
        replace H := Option.bind_eq_some_iff.mp H
        obtain ⟨t167, A140, H⟩ := H
        replace H : (if x9_2 < t167 then (if 0 ≤ x9_2 then (if x9_2 < (l1.length : Int) then ((mapmakerref40_Find.f k2 a0_0 l0_1 l1 (rd l1 x9_2) ((rd_T38 t163 a2).f0)).bind fun bt170 => ((mapmakerref40_Find.f k2 a0_0 l0_1 l1 (rd l1 x9_2) ((rd_T38 t163 a2).f1)).bind fun bt174 => (if bt170.2 = true then (if bt174.2 = true then (if x8_2.length < 17592186044416 then (mapmakerref40_Lower.l0 k2 l1 a2 t163 (x8_2 ++ [rd l1 x9_2]) (wrap64 (x9_2 + 1)) a0_0 l0_1) else (none)) else (mapmakerref40_Lower.l0 k2 l1 a2 t163 x8_2 (wrap64 (x9_2 + 1)) a0_0 l0_1)) else (mapmakerref40_Lower.l0 k2 l1 a2 t163 x8_2 (wrap64 (x9_2 + 1)) a0_0 l0_1)))) else (none)) else (none)) else (some x8_2)) = some r := H
        have A14 := Aside0.mk A140; clear A140
        by_cases c15 : x9_2 < t167
        ·rw [if_pos c15] at H
         have c15b0 : decide (x9_2 < t167) = true := decide_eq_true c15
         clear c15
         by_cases c16 : 0 ≤ x9_2
         ·rw [if_pos c16] at H
          have c16b0 : decide (0 ≤ x9_2) = true := decide_eq_true c16
          clear c16
          by_cases c17 : x9_2 < (l1.length : Int)
          ·rw [if_pos c17] at H
           have c17b0 : decide (x9_2 < (l1.length : Int)) = true := decide_eq_true c17
           clear c17
           replace H := Option.bind_eq_some_iff.mp H
           obtain ⟨⟨t170, t171⟩, A180, H⟩ := H
           replace H : ((mapmakerref40_Find.f k2 a0_0 l0_1 l1 (rd l1 x9_2) ((rd_T38 t163 a2).f1)).bind fun bt174 => (if t171 = true then (if bt174.2 = true then (if x8_2.length < 17592186044416 then (mapmakerref40_Lower.l0 k2 l1 a2 t163 (x8_2 ++ [rd l1 x9_2]) (wrap64 (x9_2 + 1)) a0_0 l0_1) else (none)) else (mapmakerref40_Lower.l0 k2 l1 a2 t163 x8_2 (wrap64 (x9_2 + 1)) a0_0 l0_1)) else (mapmakerref40_Lower.l0 k2 l1 a2 t163 x8_2 (wrap64 (x9_2 + 1)) a0_0 l0_1))) = some r := H
           have A18 := Aside0.mk A180; clear A180
           replace H := Option.bind_eq_some_iff.mp H
           obtain ⟨⟨t174, t175⟩, A190, H⟩ := H
           replace H : (if t171 = true then (if t175 = true then (if x8_2.length < 17592186044416 then (mapmakerref40_Lower.l0 k2 l1 a2 t163 (x8_2 ++ [rd l1 x9_2]) (wrap64 (x9_2 + 1)) a0_0 l0_1) else (none)) else (mapmakerref40_Lower.l0 k2 l1 a2 t163 x8_2 (wrap64 (x9_2 + 1)) a0_0 l0_1)) else (mapmakerref40_Lower.l0 k2 l1 a2 t163 x8_2 (wrap64 (x9_2 + 1)) a0_0 l0_1)) = some r := H
           have A19 := Aside0.mk A190; clear A190
           by_cases c20 : t171 = true
           ·subst c20
            have H1 : (if t175 = true then (if x8_2.length < 17592186044416 then (mapmakerref40_Lower.l0 k2 l1 a2 t163 (x8_2 ++ [rd l1 x9_2]) (wrap64 (x9_2 + 1)) a0_0 l0_1) else (none)) else (mapmakerref40_Lower.l0 k2 l1 a2 t163 x8_2 (wrap64 (x9_2 + 1)) a0_0 l0_1)) = some r := by rw [if_pos rfl] at H; exact H
            clear H; have H := H1; clear H1
            by_cases c21 : t175 = true
            ·subst c21
             have H1 : (if x8_2.length < 17592186044416 then (mapmakerref40_Lower.l0 k2 l1 a2 t163 (x8_2 ++ [rd l1 x9_2]) (wrap64 (x9_2 + 1)) a0_0 l0_1) else (none)) = some r := by rw [if_pos rfl] at H; exact H
             clear H; have H := H1; clear H1
             by_cases c22 : x8_2.length < 17592186044416
             ·rw [if_pos c22] at H
              have LMc22 := Aside0.mk c22; clear c22
              obtain ⟨y177, hy177⟩ : ∃ y_ : List Int, y_ = (x8_2 ++ [rd l1 x9_2]) := ⟨_, rfl⟩
              replace H : (mapmakerref40_Lower.l0 k2 l1 a2 t163 y177 (wrap64 (x9_2 + 1)) a0_0 l0_1) = some r := by first | (rw [hy177]; with_reducible exact H) | (have H2_ := (Option.bind_some _ _).symm.trans H; rw [hy177]; with_reducible exact H2_) | (have H2_ := (Option.bind_some _ _).symm.trans H; with_reducible exact H2_) | with_reducible exact H | (rw [hy177]; exact H) | exact H
              have Ny177 := Aside0.mk hy177; clear hy177
              have H' := Aside0.mk H
              clear H
              obtain ⟨Ao23, co23, eo23⟩ := Kd.R_slice HO_7.out
              subst eo23
              have p166 : 0 ≤ (a2 : Int) := of_decide_eq_true (by first | (with_reducible assumption) | assumption)
              have q166 : a2 < (t163.length : Int) := of_decide_eq_true (by first | (with_reducible assumption) | assumption)
              obtain ⟨ad166, e166, hx166_0, hx166_1⟩ := at_T38 (Kd.R_reads' HO_7.out).2.2 a2 p166 q166
              cases e166
              replace p166 := eq_true p166; replace q166 := eq_true q166
              try go_wp2_with (first | ((with_reducible refine gate_callee (f := 33) rfl ?_); refine goesL_ (some 32) rfl rfl Try.func33 (by kernel_rfl) rfl #[.slice A1 l1.length c1, .int .i64 ((rd_T38 t163 a2).f0)] rfl byL ?_; (with_reducible refine (mapmakerref40_Rank.calls k2 _ _ l1 ((rd_T38 t163 a2).f0) t167 _ ?side1 ?side2 A14.out).mono ?_); (case side1 => exact byC (Kd.C_below HR1.out HB.out)); (case side2 => exact HC1.out); rintro e w' ⟨rfl, ⟨nd, rfl⟩⟩; refine ⟨_, rfl, ?_⟩))
              (try (rw [drewN_self wr]; generalize hq_ : World.drewN wr _ = wr; have n0_ : Aside0 (Kd.R k38 38 wr w.heap.size (fun _ => True) (.slice (some ad166) t163.length co23) t163) := ⟨by rw [← hq_]; exact (byR HO_7.out)⟩; have n1_ : Aside0 (Kd.R (Kd.int .i64) 3 wr w.heap.size (fun _ => True) u8 x8_2) := ⟨by rw [← hq_]; exact (byR HO_8.out)⟩; have n2_ : Aside0 (wr.heap[gb162]? = some (.cells #[.int .i64 a0_0, .slice A0_1 l0_1.length c0_1] 24 (0, 0))) := ⟨by rw [← hq_]; exact (byK BK162.out)⟩; have n3_ : Aside0 (Below w.heap.size w wr) := ⟨by rw [← hq_]; exact (byB1 HB.out GE162.out)⟩; clear HO_7 HO_8 BK162 HB hq_; have HO_7 := n0_; have HO_8 := n1_; have BK162 := n2_; have HB := n3_; clear n0_ n1_ n2_ n3_))
              have n0_ := Aside0.mk (Kd.R_drew HO_7.out); have n1_ := Aside0.mk (Kd.R_drew HO_8.out); have n2_ := Aside0.mk (blk_drew BK162.out); have n3_ := Aside0.mk (below_drew1 HB.out); clear HO_7 HO_8 BK162 HB; have HO_7 := n0_; have HO_8 := n1_; have BK162 := n2_; have HB := n3_; clear n0_ n1_ n2_ n3_
              have p168 : 0 ≤ (x9_2 : Int) := of_decide_eq_true (by first | (with_reducible assumption) | assumption)
              have q168 : x9_2 < (l1.length : Int) := of_decide_eq_true (by first | (with_reducible assumption) | assumption)
              obtain ⟨ad168, e168, hx168_0⟩ := Kd.at_int HR1.out x9_2 p168 q168
              have hw168_0 := hx168_0
              cases e168
              replace hx168_0 := (HB.out.cell (World.block_lt_of_cell? w _ hx168_0)).trans hx168_0
              replace p168 := eq_true p168; replace q168 := eq_true q168
              have p169 : 0 ≤ (a2 : Int) := of_decide_eq_true (by first | (with_reducible assumption) | assumption)
              have q169 : a2 < (t163.length : Int) := of_decide_eq_true (by first | (with_reducible assumption) | assumption)
              obtain ⟨ad169, e169, hx169_0, hx169_1⟩ := at_T38 (Kd.R_reads' HO_7.out).2.2 a2 p169 q169
              obtain rfl : ad166 = ad169 := (by injection e169)
              replace p169 := eq_true p169; replace q169 := eq_true q169
              refine start_ (n := 17) (S := fun w' => w'.cell? ⟨gb162, 0, none⟩ = some (.int .i64 a0_0) ∧ w'.cell? ⟨gb162, 1, none⟩ = some (.slice A0_1 l0_1.length c0_1) ∧ w'.cell? (ad168.add (x9_2).toNat) = some (.int .i64 (rd l1 x9_2)) ∧ w'.cell? (ad166.add ((a2).toNat * 2)) = some (.int .i64 ((rd_T38 t163 a2).f0)) ∧ w'.cell? ⟨(ad166.add ((a2).toNat * 2)).block, (ad166.add ((a2).toNat * 2)).off + 1, none⟩ = some (.int .i64 ((rd_T38 t163 a2).f1))) (ds := []) #[yF,yF,yF,yF,yF,yF,yF,yF,yF,yF,yF,yF,yF,yF,yF,yF,yF] (by kernel_rfl) rfl rfl ⟨(blk_cell BK162.out 0).trans rfl, (blk_cell BK162.out 1).trans rfl, ((HB.out.cell (World.block_lt_of_cell? w _ hw168_0)).trans hw168_0), hx169_0, hx169_1⟩ (fun hHeld => ?_); refine with_tabW mapmakerref40_Lower.tab8 mapmakerref40_Lower.bits8 (fun HT_ HW_ => ?_)
              generalize wr.drew = w24 at HO_7 HO_8 BK162 HB hx168_0 hx169_0 hx169_1 hHeld ⊢
              refine pure_ (i := 1) (N := some 38) (v := ?_) (a' := ?_) #[yF,yT,yF,yF,yF,yF,yF,yF,yF,yF,yF,yF,yF,yF,yF,yF,yF] rfl rfl (any_of HT_.out (by kernel_rfl)) (fun _ _ _ h => h) (Or.inl ⟨by rfl, ?_⟩) ?_ ?_; rotate_left; (·intro w'; go_simp; with_reducible rfl); rotate_left; (·simp only [putW]; rfl); refine pure_ (i := 2) (N := some 39) (v := ?_) (a' := ?_) #[yF,yT,yT,yF,yF,yF,yF,yF,yF,yF,yF,yF,yF,yF,yF,yF,yF] rfl rfl (any_of HT_.out (by kernel_rfl)) (fun _ _ _ h => h) (Or.inl ⟨by rfl, ?_⟩) ?_ ?_; rotate_left; (·intro w'; go_simp; with_reducible rfl); rotate_left; (·simp only [putW]; rfl); refine pure_ (i := 3) (N := some 40) (v := ?_) (a' := ?_) #[yF,yT,yT,yT,yF,yF,yF,yF,yF,yF,yF,yF,yF,yF,yF,yF,yF] rfl rfl (any_of HT_.out (by kernel_rfl)) (fun _ _ _ h => h) (Or.inl ⟨by rfl, ?_⟩) ?_ ?_; rotate_left; (·intro w'; go_simp; with_reducible rfl); rotate_left; (·simp only [putW]; rfl); refine pure_ (i := 4) (N := some 41) (v := ?_) (a' := ?_) #[yF,yT,yT,yT,yT,yF,yF,yF,yF,yF,yF,yF,yF,yF,yF,yF,yF] rfl rfl (any_of HT_.out (by kernel_rfl)) (fun _ _ _ h => h) (Or.inl ⟨by rfl, ?_⟩) ?_ ?_; rotate_left; (·intro w'; go_simp; with_reducible rfl); rotate_left; (·simp only [putW]; rfl); refine pure_ (i := 6) (N := some 43) (v := ?_) (a' := ?_) #[yF,yT,yT,yT,yT,yF,yT,yF,yF,yF,yF,yF,yF,yF,yF,yF,yF] rfl rfl (any_of HT_.out (by kernel_rfl)) (fun _ _ _ h => h) (Or.inl ⟨by rfl, ?_⟩) ?_ ?_; rotate_left; (·intro w'; go_simp; with_reducible rfl); rotate_left; (·simp only [putW]; rfl); refine pure_ (i := 7) (N := some 44) (v := ?_) (a' := ?_) #[yF,yT,yT,yT,yT,yF,yT,yT,yF,yF,yF,yF,yF,yF,yF,yF,yF] rfl rfl (any_of HT_.out (by kernel_rfl)) (fun _ _ _ h => h) (Or.inl ⟨by rfl, ?_⟩) ?_ ?_; rotate_left; (·intro w'; go_simp; with_reducible rfl); rotate_left; (·simp only [putW]; rfl); refine pure_ (i := 8) (N := some 45) (v := ?_) (a' := ?_) #[yF,yT,yT,yT,yT,yF,yT,yT,yT,yF,yF,yF,yF,yF,yF,yF,yF] rfl rfl (any_of HT_.out (by kernel_rfl)) (fun _ _ _ h => h) (Or.inl ⟨by rfl, ?_⟩) ?_ ?_; rotate_left; (·intro w'; go_simp; with_reducible rfl); rotate_left; (·simp only [putW]; rfl); refine pure_ (i := 9) (N := some 46) (v := ?_) (a' := ?_) #[yF,yT,yT,yT,yT,yF,yT,yT,yT,yT,yF,yF,yF,yF,yF,yF,yF] rfl rfl (any_of HT_.out (by kernel_rfl)) (fun _ _ _ h => h) (Or.inl ⟨by rfl, ?_⟩) ?_ ?_; rotate_left; (·intro w'; go_simp; with_reducible rfl); rotate_left; (·simp only [putW]; rfl); refine take_ (i := 0) (N := some 37) (v := ?_) (a' := ?_) #[yT,yT,yT,yT,yT,yF,yT,yT,yT,yT,yF,yF,yF,yF,yF,yF,yF] rfl rfl (take_ofW HT_.out HW_.out (by kernel_rfl)) (fun _ _ _ h => h) (Or.inl ⟨by rfl, ?_⟩) hHeld ?_ ?_; rotate_left; (·rintro w' ⟨s0, s1, s2, s3, s4⟩; go_simp; with_reducible rfl); rotate_left; (·simp only [putW]; rfl); refine take_ (i := 5) (N := some 42) (v := ?_) (a' := ?_) #[yT,yT,yT,yT,yT,yT,yT,yT,yT,yT,yF,yF,yF,yF,yF,yF,yF] rfl rfl (take_ofW HT_.out HW_.out (by kernel_rfl)) (fun _ _ _ h => h) (Or.inl ⟨by rfl, ?_⟩) hHeld ?_ ?_; rotate_left; (·rintro w' ⟨s0, s1, s2, s3, s4⟩; go_simp; with_reducible rfl); rotate_left; (·simp only [putW]; rfl); refine take_ (i := 10) (N := some 47) (v := ?_) (a' := ?_) #[yT,yT,yT,yT,yT,yT,yT,yT,yT,yT,yT,yF,yF,yF,yF,yF,yF] rfl rfl (take_ofW HT_.out HW_.out (by kernel_rfl)) (fun _ _ _ h => h) (Or.inl ⟨by rfl, ?_⟩) hHeld ?_ ?_; rotate_left; (·rintro w' ⟨s0, s1, s2, s3, s4⟩; go_simp; with_reducible rfl); rotate_left; (·simp only [putW]; rfl); refine one_ (i := 11) (N := some 48) #[yT,yT,yT,yT,yT,yT,yT,yT,yT,yT,yT,yT,yF,yF,yF,yF,yF] rfl rfl (one_of HT_.out (by kernel_rfl)) (by decide) (fun K hK => ?_)
              refine goes_ Try.func21 (by kernel_rfl) rfl #[.agg #[.int .i64 a0_0, .slice A0_1 l0_1.length c0_1], .slice (some ad168) l1.length c1, .int .i64 (rd l1 x9_2), .int .i64 ((rd_T38 t163 a2).f0)] (by rfl) rfl rfl byL ?_
              with_reducible refine (mapmakerref40_Find.calls k2 a0_0 _ _ l0_1 _ _ l1 (rd l1 x9_2) ((rd_T38 t163 a2).f0) t170 true _ ?side1 ?side2 ?side3 ?side4 A18.out).mono ?_
              (case side1 => exact byC (Kd.C_below HR0_1.out HB.out))
              (case side2 => exact HC0_1.out)
              (case side3 => exact byC (Kd.C_below HR1.out HB.out))
              (case side4 => exact HC1.out)
              rintro e w25 ⟨rfl, hb⟩
              have HS3_ := (hb.cell (World.block_lt_of_cell? _ _ (hHeld.2.2.2.1))).trans (hHeld.2.2.2.1)
              have HS4_ := (hb.cell (World.block_lt_of_cell? _ _ (hHeld.2.2.2.2))).trans (hHeld.2.2.2.2)
              refine ⟨_, rfl, ?_⟩
              have n0_ := Aside0.mk (Kd.R_below (byR HO_7.out) hb); have n1_ := Aside0.mk (Kd.R_below (byR HO_8.out) hb); have n2_ := Aside0.mk (blk_below (g := gb162) (o := .cells #[.int .i64 a0_0, .slice A0_1 l0_1.length c0_1] 24 (0, 0)) (byK BK162.out) hb); have n3_ := Aside0.mk (below_step (byB1 HB.out GE162.out) hb); clear HO_7 HO_8 BK162 HB; have HO_7 := n0_; have HO_8 := n1_; have BK162 := n2_; have HB := n3_; clear n0_ n1_ n2_ n3_
              (try clear hb)
              (try clear hb2)
              (try clear hk)
              (try clear hi)
              refine hK.out _ _ ⟨(blk_cell BK162.out 0).trans rfl, (blk_cell BK162.out 1).trans rfl, ((HB.out.cell (World.block_lt_of_cell? w _ hw168_0)).trans hw168_0), HS3_, HS4_⟩ (fun hHeld => ?_)
              clear hK K
              refine norm_ (a' := ?_) ?_ ?_
              rotate_left
              ·show Act.put _ (some 48) _ = _
               simp only [putW]; rfl
              refine pure_ (i := 12) (N := some 36) (v := ?_) (a' := ?_) #[yT,yT,yT,yT,yT,yT,yT,yT,yT,yT,yT,yT,yT,yF,yF,yF,yF] rfl rfl (any_of HT_.out (by kernel_rfl)) (fun _ _ _ h => h) (Or.inl ⟨by rfl, ?_⟩) ?_ ?_; rotate_left; (·intro w'; go_simp; with_reducible rfl); rotate_left; (·simp only [putW]; rfl); refine pure_ (i := 13) (N := some 49) (v := ?_) (a' := ?_) #[yT,yT,yT,yT,yT,yT,yT,yT,yT,yT,yT,yT,yT,yT,yF,yF,yF] rfl rfl (any_of HT_.out (by kernel_rfl)) (fun _ _ _ h => h) (Or.inl ⟨by rfl, ?_⟩) ?_ ?_; rotate_left; (·intro w'; go_simp; with_reducible rfl); rotate_left; (·simp only [putW]; rfl); refine pure_ (i := 14) (N := some 50) (v := ?_) (a' := ?_) #[yT,yT,yT,yT,yT,yT,yT,yT,yT,yT,yT,yT,yT,yT,yT,yF,yF] rfl rfl (any_of HT_.out (by kernel_rfl)) (fun _ _ _ h => h) (Or.inl ⟨by rfl, ?_⟩) ?_ ?_; rotate_left; (·intro w'; go_simp; with_reducible rfl); rotate_left; (·simp only [putW]; rfl); refine pure_ (i := 15) (N := some 10) (v := ?_) (a' := ?_) #[yT,yT,yT,yT,yT,yT,yT,yT,yT,yT,yT,yT,yT,yT,yT,yT,yF] rfl rfl (any_of HT_.out (by kernel_rfl)) (fun _ _ _ h => h) (Or.inl ⟨by rfl, ?_⟩) ?_ ?_; rotate_left; (·intro w'; go_simp; with_reducible rfl); rotate_left; (·simp only [putW]; rfl); refine pure_ (i := 16) (N := some 11) (v := ?_) (a' := ?_) #[yT,yT,yT,yT,yT,yT,yT,yT,yT,yT,yT,yT,yT,yT,yT,yT,yT] rfl rfl (any_of HT_.out (by kernel_rfl)) (fun _ _ _ h => h) (Or.inl ⟨by rfl, ?_⟩) ?_ ?_; rotate_left; (·intro w'; go_simp; with_reducible rfl); rotate_left; (·simp only [putW]; rfl)
              refine done_ (done_of HT_.out (by kernel_rfl)) ?_
              try go_wp2
              have n0_ := Aside0.mk (Kd.R_drew HO_7.out); have n1_ := Aside0.mk (Kd.R_drew HO_8.out); have n2_ := Aside0.mk (blk_drew BK162.out); have n3_ := Aside0.mk (below_drew1 HB.out); clear HO_7 HO_8 BK162 HB; have HO_7 := n0_; have HO_8 := n1_; have BK162 := n2_; have HB := n3_; clear n0_ n1_ n2_ n3_
              have p172 : 0 ≤ (x9_2 : Int) := of_decide_eq_true (by first | (with_reducible assumption) | assumption)
              have q172 : x9_2 < (l1.length : Int) := of_decide_eq_true (by first | (with_reducible assumption) | assumption)
              obtain ⟨ad172, e172, hx172_0⟩ := Kd.at_int HR1.out x9_2 p172 q172
              have hw172_0 := hx172_0
              obtain rfl : ad168 = ad172 := (by injection e172)
              replace hx172_0 := (HB.out.cell (World.block_lt_of_cell? w _ hx172_0)).trans hx172_0
              replace p172 := eq_true p172; replace q172 := eq_true q172
              have p173 : 0 ≤ (a2 : Int) := of_decide_eq_true (by first | (with_reducible assumption) | assumption)
              have q173 : a2 < (t163.length : Int) := of_decide_eq_true (by first | (with_reducible assumption) | assumption)
              obtain ⟨ad173, e173, hx173_0, hx173_1⟩ := at_T38 (Kd.R_reads' HO_7.out).2.2 a2 p173 q173
              obtain rfl : ad166 = ad173 := (by injection e173)
              replace p173 := eq_true p173; replace q173 := eq_true q173
              refine start_ (n := 17) (S := fun w' => w'.cell? ⟨gb162, 0, none⟩ = some (.int .i64 a0_0) ∧ w'.cell? ⟨gb162, 1, none⟩ = some (.slice A0_1 l0_1.length c0_1) ∧ w'.cell? (ad168.add (x9_2).toNat) = some (.int .i64 (rd l1 x9_2)) ∧ w'.cell? (ad166.add ((a2).toNat * 2)) = some (.int .i64 ((rd_T38 t163 a2).f0)) ∧ w'.cell? ⟨(ad166.add ((a2).toNat * 2)).block, (ad166.add ((a2).toNat * 2)).off + 1, none⟩ = some (.int .i64 ((rd_T38 t163 a2).f1))) (ds := []) #[yF,yF,yF,yF,yF,yF,yF,yF,yF,yF,yF,yF,yF,yF,yF,yF,yF] (by kernel_rfl) rfl rfl ⟨(blk_cell BK162.out 0).trans rfl, (blk_cell BK162.out 1).trans rfl, ((HB.out.cell (World.block_lt_of_cell? w _ hw172_0)).trans hw172_0), hx173_0, hx173_1⟩ (fun hHeld => ?_); refine with_tabW mapmakerref40_Lower.tab9 mapmakerref40_Lower.bits9 (fun HT_ HW_ => ?_)
              generalize w25.drew = w26 at HO_7 HO_8 BK162 HB hx172_0 hx173_0 hx173_1 hHeld ⊢
              refine pure_ (i := 1) (N := some 53) (v := ?_) (a' := ?_) #[yF,yT,yF,yF,yF,yF,yF,yF,yF,yF,yF,yF,yF,yF,yF,yF,yF] rfl rfl (any_of HT_.out (by kernel_rfl)) (fun _ _ _ h => h) (Or.inl ⟨by rfl, ?_⟩) ?_ ?_; rotate_left; (·intro w'; go_simp; with_reducible rfl); rotate_left; (·simp only [putW]; rfl); refine pure_ (i := 2) (N := some 54) (v := ?_) (a' := ?_) #[yF,yT,yT,yF,yF,yF,yF,yF,yF,yF,yF,yF,yF,yF,yF,yF,yF] rfl rfl (any_of HT_.out (by kernel_rfl)) (fun _ _ _ h => h) (Or.inl ⟨by rfl, ?_⟩) ?_ ?_; rotate_left; (·intro w'; go_simp; with_reducible rfl); rotate_left; (·simp only [putW]; rfl); refine pure_ (i := 3) (N := some 55) (v := ?_) (a' := ?_) #[yF,yT,yT,yT,yF,yF,yF,yF,yF,yF,yF,yF,yF,yF,yF,yF,yF] rfl rfl (any_of HT_.out (by kernel_rfl)) (fun _ _ _ h => h) (Or.inl ⟨by rfl, ?_⟩) ?_ ?_; rotate_left; (·intro w'; go_simp; with_reducible rfl); rotate_left; (·simp only [putW]; rfl); refine pure_ (i := 4) (N := some 56) (v := ?_) (a' := ?_) #[yF,yT,yT,yT,yT,yF,yF,yF,yF,yF,yF,yF,yF,yF,yF,yF,yF] rfl rfl (any_of HT_.out (by kernel_rfl)) (fun _ _ _ h => h) (Or.inl ⟨by rfl, ?_⟩) ?_ ?_; rotate_left; (·intro w'; go_simp; with_reducible rfl); rotate_left; (·simp only [putW]; rfl); refine pure_ (i := 6) (N := some 58) (v := ?_) (a' := ?_) #[yF,yT,yT,yT,yT,yF,yT,yF,yF,yF,yF,yF,yF,yF,yF,yF,yF] rfl rfl (any_of HT_.out (by kernel_rfl)) (fun _ _ _ h => h) (Or.inl ⟨by rfl, ?_⟩) ?_ ?_; rotate_left; (·intro w'; go_simp; with_reducible rfl); rotate_left; (·simp only [putW]; rfl); refine pure_ (i := 7) (N := some 59) (v := ?_) (a' := ?_) #[yF,yT,yT,yT,yT,yF,yT,yT,yF,yF,yF,yF,yF,yF,yF,yF,yF] rfl rfl (any_of HT_.out (by kernel_rfl)) (fun _ _ _ h => h) (Or.inl ⟨by rfl, ?_⟩) ?_ ?_; rotate_left; (·intro w'; go_simp; with_reducible rfl); rotate_left; (·simp only [putW]; rfl); refine pure_ (i := 8) (N := some 60) (v := ?_) (a' := ?_) #[yF,yT,yT,yT,yT,yF,yT,yT,yT,yF,yF,yF,yF,yF,yF,yF,yF] rfl rfl (any_of HT_.out (by kernel_rfl)) (fun _ _ _ h => h) (Or.inl ⟨by rfl, ?_⟩) ?_ ?_; rotate_left; (·intro w'; go_simp; with_reducible rfl); rotate_left; (·simp only [putW]; rfl); refine pure_ (i := 9) (N := some 61) (v := ?_) (a' := ?_) #[yF,yT,yT,yT,yT,yF,yT,yT,yT,yT,yF,yF,yF,yF,yF,yF,yF] rfl rfl (any_of HT_.out (by kernel_rfl)) (fun _ _ _ h => h) (Or.inl ⟨by rfl, ?_⟩) ?_ ?_; rotate_left; (·intro w'; go_simp; with_reducible rfl); rotate_left; (·simp only [putW]; rfl); refine take_ (i := 0) (N := some 52) (v := ?_) (a' := ?_) #[yT,yT,yT,yT,yT,yF,yT,yT,yT,yT,yF,yF,yF,yF,yF,yF,yF] rfl rfl (take_ofW HT_.out HW_.out (by kernel_rfl)) (fun _ _ _ h => h) (Or.inl ⟨by rfl, ?_⟩) hHeld ?_ ?_; rotate_left; (·rintro w' ⟨s0, s1, s2, s3, s4⟩; go_simp; with_reducible rfl); rotate_left; (·simp only [putW]; rfl); refine take_ (i := 5) (N := some 57) (v := ?_) (a' := ?_) #[yT,yT,yT,yT,yT,yT,yT,yT,yT,yT,yF,yF,yF,yF,yF,yF,yF] rfl rfl (take_ofW HT_.out HW_.out (by kernel_rfl)) (fun _ _ _ h => h) (Or.inl ⟨by rfl, ?_⟩) hHeld ?_ ?_; rotate_left; (·rintro w' ⟨s0, s1, s2, s3, s4⟩; go_simp; with_reducible rfl); rotate_left; (·simp only [putW]; rfl); refine take_ (i := 10) (N := some 62) (v := ?_) (a' := ?_) #[yT,yT,yT,yT,yT,yT,yT,yT,yT,yT,yT,yF,yF,yF,yF,yF,yF] rfl rfl (take_ofW HT_.out HW_.out (by kernel_rfl)) (fun _ _ _ h => h) (Or.inl ⟨by rfl, ?_⟩) hHeld ?_ ?_; rotate_left; (·rintro w' ⟨s0, s1, s2, s3, s4⟩; go_simp; with_reducible rfl); rotate_left; (·simp only [putW]; rfl); refine one_ (i := 11) (N := some 63) #[yT,yT,yT,yT,yT,yT,yT,yT,yT,yT,yT,yT,yF,yF,yF,yF,yF] rfl rfl (one_of HT_.out (by kernel_rfl)) (by decide) (fun K hK => ?_)
              refine goes_ Try.func21 (by kernel_rfl) rfl #[.agg #[.int .i64 a0_0, .slice A0_1 l0_1.length c0_1], .slice (some ad168) l1.length c1, .int .i64 (rd l1 x9_2), .int .i64 ((rd_T38 t163 a2).f1)] (by rfl) rfl rfl byL ?_
              with_reducible refine (mapmakerref40_Find.calls k2 a0_0 _ _ l0_1 _ _ l1 (rd l1 x9_2) ((rd_T38 t163 a2).f1) t174 true _ ?side1 ?side2 ?side3 ?side4 A19.out).mono ?_
              (case side1 => exact byC (Kd.C_below HR0_1.out HB.out))
              (case side2 => exact HC0_1.out)
              (case side3 => exact byC (Kd.C_below HR1.out HB.out))
              (case side4 => exact HC1.out)
              rintro e w27 ⟨rfl, hb⟩
              have HS3_ := (hb.cell (World.block_lt_of_cell? _ _ (hHeld.2.2.2.1))).trans (hHeld.2.2.2.1)
              have HS4_ := (hb.cell (World.block_lt_of_cell? _ _ (hHeld.2.2.2.2))).trans (hHeld.2.2.2.2)
              refine ⟨_, rfl, ?_⟩
              have n0_ := Aside0.mk (Kd.R_below (byR HO_7.out) hb); have n1_ := Aside0.mk (Kd.R_below (byR HO_8.out) hb); have n2_ := Aside0.mk (blk_below (g := gb162) (o := .cells #[.int .i64 a0_0, .slice A0_1 l0_1.length c0_1] 24 (0, 0)) (byK BK162.out) hb); have n3_ := Aside0.mk (below_step (byB1 HB.out GE162.out) hb); clear HO_7 HO_8 BK162 HB; have HO_7 := n0_; have HO_8 := n1_; have BK162 := n2_; have HB := n3_; clear n0_ n1_ n2_ n3_
              (try clear hb)
              (try clear hb2)
              (try clear hk)
              (try clear hi)
              refine hK.out _ _ ⟨(blk_cell BK162.out 0).trans rfl, (blk_cell BK162.out 1).trans rfl, ((HB.out.cell (World.block_lt_of_cell? w _ hw172_0)).trans hw172_0), HS3_, HS4_⟩ (fun hHeld => ?_)
              clear hK K
              refine norm_ (a' := ?_) ?_ ?_
              rotate_left
              ·show Act.put _ (some 63) _ = _
               simp only [putW]; rfl
              refine pure_ (i := 12) (N := some 51) (v := ?_) (a' := ?_) #[yT,yT,yT,yT,yT,yT,yT,yT,yT,yT,yT,yT,yT,yF,yF,yF,yF] rfl rfl (any_of HT_.out (by kernel_rfl)) (fun _ _ _ h => h) (Or.inl ⟨by rfl, ?_⟩) ?_ ?_; rotate_left; (·intro w'; go_simp; with_reducible rfl); rotate_left; (·simp only [putW]; rfl); refine pure_ (i := 13) (N := some 64) (v := ?_) (a' := ?_) #[yT,yT,yT,yT,yT,yT,yT,yT,yT,yT,yT,yT,yT,yT,yF,yF,yF] rfl rfl (any_of HT_.out (by kernel_rfl)) (fun _ _ _ h => h) (Or.inl ⟨by rfl, ?_⟩) ?_ ?_; rotate_left; (·intro w'; go_simp; with_reducible rfl); rotate_left; (·simp only [putW]; rfl); refine pure_ (i := 14) (N := some 65) (v := ?_) (a' := ?_) #[yT,yT,yT,yT,yT,yT,yT,yT,yT,yT,yT,yT,yT,yT,yT,yF,yF] rfl rfl (any_of HT_.out (by kernel_rfl)) (fun _ _ _ h => h) (Or.inl ⟨by rfl, ?_⟩) ?_ ?_; rotate_left; (·intro w'; go_simp; with_reducible rfl); rotate_left; (·simp only [putW]; rfl); refine pure_ (i := 15) (N := some 12) (v := ?_) (a' := ?_) #[yT,yT,yT,yT,yT,yT,yT,yT,yT,yT,yT,yT,yT,yT,yT,yT,yF] rfl rfl (any_of HT_.out (by kernel_rfl)) (fun _ _ _ h => h) (Or.inl ⟨by rfl, ?_⟩) ?_ ?_; rotate_left; (·intro w'; go_simp; with_reducible rfl); rotate_left; (·simp only [putW]; rfl); refine pure_ (i := 16) (N := some 13) (v := ?_) (a' := ?_) #[yT,yT,yT,yT,yT,yT,yT,yT,yT,yT,yT,yT,yT,yT,yT,yT,yT] rfl rfl (any_of HT_.out (by kernel_rfl)) (fun _ _ _ h => h) (Or.inl ⟨by rfl, ?_⟩) ?_ ?_; rotate_left; (·intro w'; go_simp; with_reducible rfl); rotate_left; (·simp only [putW]; rfl)
              refine done_ (done_of HT_.out (by kernel_rfl)) ?_
              have p176 : 0 ≤ (x9_2 : Int) := of_decide_eq_true (by first | (with_reducible assumption) | assumption)
              have q176 : x9_2 < (l1.length : Int) := of_decide_eq_true (by first | (with_reducible assumption) | assumption)
              obtain ⟨ad176, e176, hx176_0⟩ := Kd.at_int HR1.out x9_2 p176 q176
              obtain rfl : ad168 = ad176 := (by injection e176)
              replace hx176_0 := (HB.out.cell (World.block_lt_of_cell? w _ hx176_0)).trans hx176_0
              replace p176 := eq_true p176; replace q176 := eq_true q176
              try go_wp2_with (first | ((with_reducible refine gate_builtin (b := .append) (xs := #[.tmp 70, .tmp 75]) rfl ?_); (try (refine gate_guard (by rfl) ?_; dsimp only)); at_builtin; refine Kd.R_append (Kd.int .i64) (w0 := w) w.heap.size rfl (.tmp 70) (.tmp 75) 25 3 (.int .i64 0) 8 rfl Try.underlying25 info3 rfl (by decide) (by omega) u8 x8_2 (rd l1 x9_2) [.int .i64 (rd l1 x9_2)] (fun _ => True) (fun _ => False) rfl rfl ?aP (fun _ hk => hk.elim) ?aF ?aO ?aB ?aS ?aL ?_; (case aP => exact rfl); (case aB => exact (byB1 HB.out GE162.out)); (case aF => exact (fun _ _ => trivial)); (case aO => exact (byR HO_8.out)); (case aS => exact (below_size (byB1 HB.out GE162.out))); (case aL => have := LMc22.out; omega); intro v178 w28 ho hb hg hat; rw [← Ny177.out] at ho; have n0_ := Aside0.mk (Kd.R_over' (byR HO_7.out) (Kd.R_typed (byR HO_8.out)) (by decide) hg); have n1_ := Aside0.mk (blk_grown (g := gb162) (o := .cells #[.int .i64 a0_0, .slice A0_1 l0_1.length c0_1] 24 (0, 0)) (byK BK162.out) hg (Kd.R_ne HO_8.out BK162.out (by decide))); have n2_ := Aside0.mk (hb); have n3_ := Aside0.mk (ho); clear HO_7 BK162 HB HO_8; have HO_7 := n0_; have BK162 := n1_; have HB := n2_; have HO179 := n3_; clear n0_ n1_ n2_ n3_ ho hb hg hat))
              go_roundg k2
              case measure => have := HJ4.out; have := HK2.out; omega
              case rel => exact ⟨(y177), (wrap64 (x9_2 + 1)), (by first | rfl | (simp; done) | (simp [*]; done)), H', ⟨by have := HJ4.out; have := HK2.out; omega⟩, ⟨by (with_reducible repeat (first | apply Kd.R_alloc | apply Kd.R_drewN | apply Kd.R_drew)); exact HO_7.out⟩, ⟨by (with_reducible repeat (first | apply Kd.R_alloc | apply Kd.R_drewN | apply Kd.R_drew)); exact HO179.out⟩, ⟨by (with_reducible repeat (first | refine blk_drewN ?_ _ | refine blk_drew ?_ | refine blk_alloc ?_ _)); exact BK162.out⟩, ⟨by repeat (first | (with_reducible first | exact HB.out | apply below_alloc | apply pw_below_drewN | apply below_drew1 | refine below_set ?_ GE162.out) | exact HB.out)⟩⟩
             ·rw [if_neg c22] at H
              exact absurd H (by simp)
            ·replace c21 := Bool.eq_false_iff.mpr c21
             subst c21
             have H1 : (mapmakerref40_Lower.l0 k2 l1 a2 t163 x8_2 (wrap64 (x9_2 + 1)) a0_0 l0_1) = some r := by rw [if_neg (show ¬ (false = true) by decide)] at H; exact H
             clear H; have H := H1; clear H1
             have H' := Aside0.mk H
             clear H
             obtain ⟨Ao29, co29, eo29⟩ := Kd.R_slice HO_7.out
             subst eo29
             have p166 : 0 ≤ (a2 : Int) := of_decide_eq_true (by first | (with_reducible assumption) | assumption)
             have q166 : a2 < (t163.length : Int) := of_decide_eq_true (by first | (with_reducible assumption) | assumption)
             obtain ⟨ad166, e166, hx166_0, hx166_1⟩ := at_T38 (Kd.R_reads' HO_7.out).2.2 a2 p166 q166
             cases e166
             replace p166 := eq_true p166; replace q166 := eq_true q166
             try go_wp2_with (first | ((with_reducible refine gate_callee (f := 33) rfl ?_); refine goesL_ (some 32) rfl rfl Try.func33 (by kernel_rfl) rfl #[.slice A1 l1.length c1, .int .i64 ((rd_T38 t163 a2).f0)] rfl byL ?_; (with_reducible refine (mapmakerref40_Rank.calls k2 _ _ l1 ((rd_T38 t163 a2).f0) t167 _ ?side1 ?side2 A14.out).mono ?_); (case side1 => exact byC (Kd.C_below HR1.out HB.out)); (case side2 => exact HC1.out); rintro e w' ⟨rfl, ⟨nd, rfl⟩⟩; refine ⟨_, rfl, ?_⟩))
             (try (rw [drewN_self wr]; generalize hq_ : World.drewN wr _ = wr; have n0_ : Aside0 (Kd.R k38 38 wr w.heap.size (fun _ => True) (.slice (some ad166) t163.length co29) t163) := ⟨by rw [← hq_]; exact (byR HO_7.out)⟩; have n1_ : Aside0 (Kd.R (Kd.int .i64) 3 wr w.heap.size (fun _ => True) u8 x8_2) := ⟨by rw [← hq_]; exact (byR HO_8.out)⟩; have n2_ : Aside0 (wr.heap[gb162]? = some (.cells #[.int .i64 a0_0, .slice A0_1 l0_1.length c0_1] 24 (0, 0))) := ⟨by rw [← hq_]; exact (byK BK162.out)⟩; have n3_ : Aside0 (Below w.heap.size w wr) := ⟨by rw [← hq_]; exact (byB1 HB.out GE162.out)⟩; clear HO_7 HO_8 BK162 HB hq_; have HO_7 := n0_; have HO_8 := n1_; have BK162 := n2_; have HB := n3_; clear n0_ n1_ n2_ n3_))
             have n0_ := Aside0.mk (Kd.R_drew HO_7.out); have n1_ := Aside0.mk (Kd.R_drew HO_8.out); have n2_ := Aside0.mk (blk_drew BK162.out); have n3_ := Aside0.mk (below_drew1 HB.out); clear HO_7 HO_8 BK162 HB; have HO_7 := n0_; have HO_8 := n1_; have BK162 := n2_; have HB := n3_; clear n0_ n1_ n2_ n3_
             have p168 : 0 ≤ (x9_2 : Int) := of_decide_eq_true (by first | (with_reducible assumption) | assumption)
             have q168 : x9_2 < (l1.length : Int) := of_decide_eq_true (by first | (with_reducible assumption) | assumption)
             obtain ⟨ad168, e168, hx168_0⟩ := Kd.at_int HR1.out x9_2 p168 q168
             have hw168_0 := hx168_0
             cases e168
             replace hx168_0 := (HB.out.cell (World.block_lt_of_cell? w _ hx168_0)).trans hx168_0
             replace p168 := eq_true p168; replace q168 := eq_true q168
             have p169 : 0 ≤ (a2 : Int) := of_decide_eq_true (by first | (with_reducible assumption) | assumption)
             have q169 : a2 < (t163.length : Int) := of_decide_eq_true (by first | (with_reducible assumption) | assumption)
             obtain ⟨ad169, e169, hx169_0, hx169_1⟩ := at_T38 (Kd.R_reads' HO_7.out).2.2 a2 p169 q169
             obtain rfl : ad166 = ad169 := (by injection e169)
             replace p169 := eq_true p169; replace q169 := eq_true q169
             refine start_ (n := 17) (S := fun w' => w'.cell? ⟨gb162, 0, none⟩ = some (.int .i64 a0_0) ∧ w'.cell? ⟨gb162, 1, none⟩ = some (.slice A0_1 l0_1.length c0_1) ∧ w'.cell? (ad168.add (x9_2).toNat) = some (.int .i64 (rd l1 x9_2)) ∧ w'.cell? (ad166.add ((a2).toNat * 2)) = some (.int .i64 ((rd_T38 t163 a2).f0)) ∧ w'.cell? ⟨(ad166.add ((a2).toNat * 2)).block, (ad166.add ((a2).toNat * 2)).off + 1, none⟩ = some (.int .i64 ((rd_T38 t163 a2).f1))) (ds := []) #[yF,yF,yF,yF,yF,yF,yF,yF,yF,yF,yF,yF,yF,yF,yF,yF,yF] (by kernel_rfl) rfl rfl ⟨(blk_cell BK162.out 0).trans rfl, (blk_cell BK162.out 1).trans rfl, ((HB.out.cell (World.block_lt_of_cell? w _ hw168_0)).trans hw168_0), hx169_0, hx169_1⟩ (fun hHeld => ?_); refine with_tabW mapmakerref40_Lower.tab8 mapmakerref40_Lower.bits8 (fun HT_ HW_ => ?_)
             generalize wr.drew = w30 at HO_7 HO_8 BK162 HB hx168_0 hx169_0 hx169_1 hHeld ⊢
             refine pure_ (i := 1) (N := some 38) (v := ?_) (a' := ?_) #[yF,yT,yF,yF,yF,yF,yF,yF,yF,yF,yF,yF,yF,yF,yF,yF,yF] rfl rfl (any_of HT_.out (by kernel_rfl)) (fun _ _ _ h => h) (Or.inl ⟨by rfl, ?_⟩) ?_ ?_; rotate_left; (·intro w'; go_simp; with_reducible rfl); rotate_left; (·simp only [putW]; rfl); refine pure_ (i := 2) (N := some 39) (v := ?_) (a' := ?_) #[yF,yT,yT,yF,yF,yF,yF,yF,yF,yF,yF,yF,yF,yF,yF,yF,yF] rfl rfl (any_of HT_.out (by kernel_rfl)) (fun _ _ _ h => h) (Or.inl ⟨by rfl, ?_⟩) ?_ ?_; rotate_left; (·intro w'; go_simp; with_reducible rfl); rotate_left; (·simp only [putW]; rfl); refine pure_ (i := 3) (N := some 40) (v := ?_) (a' := ?_) #[yF,yT,yT,yT,yF,yF,yF,yF,yF,yF,yF,yF,yF,yF,yF,yF,yF] rfl rfl (any_of HT_.out (by kernel_rfl)) (fun _ _ _ h => h) (Or.inl ⟨by rfl, ?_⟩) ?_ ?_; rotate_left; (·intro w'; go_simp; with_reducible rfl); rotate_left; (·simp only [putW]; rfl); refine pure_ (i := 4) (N := some 41) (v := ?_) (a' := ?_) #[yF,yT,yT,yT,yT,yF,yF,yF,yF,yF,yF,yF,yF,yF,yF,yF,yF] rfl rfl (any_of HT_.out (by kernel_rfl)) (fun _ _ _ h => h) (Or.inl ⟨by rfl, ?_⟩) ?_ ?_; rotate_left; (·intro w'; go_simp; with_reducible rfl); rotate_left; (·simp only [putW]; rfl); refine pure_ (i := 6) (N := some 43) (v := ?_) (a' := ?_) #[yF,yT,yT,yT,yT,yF,yT,yF,yF,yF,yF,yF,yF,yF,yF,yF,yF] rfl rfl (any_of HT_.out (by kernel_rfl)) (fun _ _ _ h => h) (Or.inl ⟨by rfl, ?_⟩) ?_ ?_; rotate_left; (·intro w'; go_simp; with_reducible rfl); rotate_left; (·simp only [putW]; rfl); refine pure_ (i := 7) (N := some 44) (v := ?_) (a' := ?_) #[yF,yT,yT,yT,yT,yF,yT,yT,yF,yF,yF,yF,yF,yF,yF,yF,yF] rfl rfl (any_of HT_.out (by kernel_rfl)) (fun _ _ _ h => h) (Or.inl ⟨by rfl, ?_⟩) ?_ ?_; rotate_left; (·intro w'; go_simp; with_reducible rfl); rotate_left; (·simp only [putW]; rfl); refine pure_ (i := 8) (N := some 45) (v := ?_) (a' := ?_) #[yF,yT,yT,yT,yT,yF,yT,yT,yT,yF,yF,yF,yF,yF,yF,yF,yF] rfl rfl (any_of HT_.out (by kernel_rfl)) (fun _ _ _ h => h) (Or.inl ⟨by rfl, ?_⟩) ?_ ?_; rotate_left; (·intro w'; go_simp; with_reducible rfl); rotate_left; (·simp only [putW]; rfl); refine pure_ (i := 9) (N := some 46) (v := ?_) (a' := ?_) #[yF,yT,yT,yT,yT,yF,yT,yT,yT,yT,yF,yF,yF,yF,yF,yF,yF] rfl rfl (any_of HT_.out (by kernel_rfl)) (fun _ _ _ h => h) (Or.inl ⟨by rfl, ?_⟩) ?_ ?_; rotate_left; (·intro w'; go_simp; with_reducible rfl); rotate_left; (·simp only [putW]; rfl); refine take_ (i := 0) (N := some 37) (v := ?_) (a' := ?_) #[yT,yT,yT,yT,yT,yF,yT,yT,yT,yT,yF,yF,yF,yF,yF,yF,yF] rfl rfl (take_ofW HT_.out HW_.out (by kernel_rfl)) (fun _ _ _ h => h) (Or.inl ⟨by rfl, ?_⟩) hHeld ?_ ?_; rotate_left; (·rintro w' ⟨s0, s1, s2, s3, s4⟩; go_simp; with_reducible rfl); rotate_left; (·simp only [putW]; rfl); refine take_ (i := 5) (N := some 42) (v := ?_) (a' := ?_) #[yT,yT,yT,yT,yT,yT,yT,yT,yT,yT,yF,yF,yF,yF,yF,yF,yF] rfl rfl (take_ofW HT_.out HW_.out (by kernel_rfl)) (fun _ _ _ h => h) (Or.inl ⟨by rfl, ?_⟩) hHeld ?_ ?_; rotate_left; (·rintro w' ⟨s0, s1, s2, s3, s4⟩; go_simp; with_reducible rfl); rotate_left; (·simp only [putW]; rfl); refine take_ (i := 10) (N := some 47) (v := ?_) (a' := ?_) #[yT,yT,yT,yT,yT,yT,yT,yT,yT,yT,yT,yF,yF,yF,yF,yF,yF] rfl rfl (take_ofW HT_.out HW_.out (by kernel_rfl)) (fun _ _ _ h => h) (Or.inl ⟨by rfl, ?_⟩) hHeld ?_ ?_; rotate_left; (·rintro w' ⟨s0, s1, s2, s3, s4⟩; go_simp; with_reducible rfl); rotate_left; (·simp only [putW]; rfl); refine one_ (i := 11) (N := some 48) #[yT,yT,yT,yT,yT,yT,yT,yT,yT,yT,yT,yT,yF,yF,yF,yF,yF] rfl rfl (one_of HT_.out (by kernel_rfl)) (by decide) (fun K hK => ?_)
             refine goes_ Try.func21 (by kernel_rfl) rfl #[.agg #[.int .i64 a0_0, .slice A0_1 l0_1.length c0_1], .slice (some ad168) l1.length c1, .int .i64 (rd l1 x9_2), .int .i64 ((rd_T38 t163 a2).f0)] (by rfl) rfl rfl byL ?_
             with_reducible refine (mapmakerref40_Find.calls k2 a0_0 _ _ l0_1 _ _ l1 (rd l1 x9_2) ((rd_T38 t163 a2).f0) t170 true _ ?side1 ?side2 ?side3 ?side4 A18.out).mono ?_
             (case side1 => exact byC (Kd.C_below HR0_1.out HB.out))
             (case side2 => exact HC0_1.out)
             (case side3 => exact byC (Kd.C_below HR1.out HB.out))
             (case side4 => exact HC1.out)
             rintro e w31 ⟨rfl, hb⟩
             have HS3_ := (hb.cell (World.block_lt_of_cell? _ _ (hHeld.2.2.2.1))).trans (hHeld.2.2.2.1)
             have HS4_ := (hb.cell (World.block_lt_of_cell? _ _ (hHeld.2.2.2.2))).trans (hHeld.2.2.2.2)
             refine ⟨_, rfl, ?_⟩
             have n0_ := Aside0.mk (Kd.R_below (byR HO_7.out) hb); have n1_ := Aside0.mk (Kd.R_below (byR HO_8.out) hb); have n2_ := Aside0.mk (blk_below (g := gb162) (o := .cells #[.int .i64 a0_0, .slice A0_1 l0_1.length c0_1] 24 (0, 0)) (byK BK162.out) hb); have n3_ := Aside0.mk (below_step (byB1 HB.out GE162.out) hb); clear HO_7 HO_8 BK162 HB; have HO_7 := n0_; have HO_8 := n1_; have BK162 := n2_; have HB := n3_; clear n0_ n1_ n2_ n3_
             (try clear hb)
             (try clear hb2)
             (try clear hk)
             (try clear hi)
             refine hK.out _ _ ⟨(blk_cell BK162.out 0).trans rfl, (blk_cell BK162.out 1).trans rfl, ((HB.out.cell (World.block_lt_of_cell? w _ hw168_0)).trans hw168_0), HS3_, HS4_⟩ (fun hHeld => ?_)
             clear hK K
             refine norm_ (a' := ?_) ?_ ?_
             rotate_left
             ·show Act.put _ (some 48) _ = _
              simp only [putW]; rfl
             refine pure_ (i := 12) (N := some 36) (v := ?_) (a' := ?_) #[yT,yT,yT,yT,yT,yT,yT,yT,yT,yT,yT,yT,yT,yF,yF,yF,yF] rfl rfl (any_of HT_.out (by kernel_rfl)) (fun _ _ _ h => h) (Or.inl ⟨by rfl, ?_⟩) ?_ ?_; rotate_left; (·intro w'; go_simp; with_reducible rfl); rotate_left; (·simp only [putW]; rfl); refine pure_ (i := 13) (N := some 49) (v := ?_) (a' := ?_) #[yT,yT,yT,yT,yT,yT,yT,yT,yT,yT,yT,yT,yT,yT,yF,yF,yF] rfl rfl (any_of HT_.out (by kernel_rfl)) (fun _ _ _ h => h) (Or.inl ⟨by rfl, ?_⟩) ?_ ?_; rotate_left; (·intro w'; go_simp; with_reducible rfl); rotate_left; (·simp only [putW]; rfl); refine pure_ (i := 14) (N := some 50) (v := ?_) (a' := ?_) #[yT,yT,yT,yT,yT,yT,yT,yT,yT,yT,yT,yT,yT,yT,yT,yF,yF] rfl rfl (any_of HT_.out (by kernel_rfl)) (fun _ _ _ h => h) (Or.inl ⟨by rfl, ?_⟩) ?_ ?_; rotate_left; (·intro w'; go_simp; with_reducible rfl); rotate_left; (·simp only [putW]; rfl); refine pure_ (i := 15) (N := some 10) (v := ?_) (a' := ?_) #[yT,yT,yT,yT,yT,yT,yT,yT,yT,yT,yT,yT,yT,yT,yT,yT,yF] rfl rfl (any_of HT_.out (by kernel_rfl)) (fun _ _ _ h => h) (Or.inl ⟨by rfl, ?_⟩) ?_ ?_; rotate_left; (·intro w'; go_simp; with_reducible rfl); rotate_left; (·simp only [putW]; rfl); refine pure_ (i := 16) (N := some 11) (v := ?_) (a' := ?_) #[yT,yT,yT,yT,yT,yT,yT,yT,yT,yT,yT,yT,yT,yT,yT,yT,yT] rfl rfl (any_of HT_.out (by kernel_rfl)) (fun _ _ _ h => h) (Or.inl ⟨by rfl, ?_⟩) ?_ ?_; rotate_left; (·intro w'; go_simp; with_reducible rfl); rotate_left; (·simp only [putW]; rfl)
             refine done_ (done_of HT_.out (by kernel_rfl)) ?_
             try go_wp2
             have n0_ := Aside0.mk (Kd.R_drew HO_7.out); have n1_ := Aside0.mk (Kd.R_drew HO_8.out); have n2_ := Aside0.mk (blk_drew BK162.out); have n3_ := Aside0.mk (below_drew1 HB.out); clear HO_7 HO_8 BK162 HB; have HO_7 := n0_; have HO_8 := n1_; have BK162 := n2_; have HB := n3_; clear n0_ n1_ n2_ n3_
             have p172 : 0 ≤ (x9_2 : Int) := of_decide_eq_true (by first | (with_reducible assumption) | assumption)
             have q172 : x9_2 < (l1.length : Int) := of_decide_eq_true (by first | (with_reducible assumption) | assumption)
             obtain ⟨ad172, e172, hx172_0⟩ := Kd.at_int HR1.out x9_2 p172 q172
             have hw172_0 := hx172_0
             obtain rfl : ad168 = ad172 := (by injection e172)
             replace hx172_0 := (HB.out.cell (World.block_lt_of_cell? w _ hx172_0)).trans hx172_0
             replace p172 := eq_true p172; replace q172 := eq_true q172
             have p173 : 0 ≤ (a2 : Int) := of_decide_eq_true (by first | (with_reducible assumption) | assumption)
             have q173 : a2 < (t163.length : Int) := of_decide_eq_true (by first | (with_reducible assumption) | assumption)
             obtain ⟨ad173, e173, hx173_0, hx173_1⟩ := at_T38 (Kd.R_reads' HO_7.out).2.2 a2 p173 q173
             obtain rfl : ad166 = ad173 := (by injection e173)
             replace p173 := eq_true p173; replace q173 := eq_true q173
             refine start_ (n := 17) (S := fun w' => w'.cell? ⟨gb162, 0, none⟩ = some (.int .i64 a0_0) ∧ w'.cell? ⟨gb162, 1, none⟩ = some (.slice A0_1 l0_1.length c0_1) ∧ w'.cell? (ad168.add (x9_2).toNat) = some (.int .i64 (rd l1 x9_2)) ∧ w'.cell? (ad166.add ((a2).toNat * 2)) = some (.int .i64 ((rd_T38 t163 a2).f0)) ∧ w'.cell? ⟨(ad166.add ((a2).toNat * 2)).block, (ad166.add ((a2).toNat * 2)).off + 1, none⟩ = some (.int .i64 ((rd_T38 t163 a2).f1))) (ds := []) #[yF,yF,yF,yF,yF,yF,yF,yF,yF,yF,yF,yF,yF,yF,yF,yF,yF] (by kernel_rfl) rfl rfl ⟨(blk_cell BK162.out 0).trans rfl, (blk_cell BK162.out 1).trans rfl, ((HB.out.cell (World.block_lt_of_cell? w _ hw172_0)).trans hw172_0), hx173_0, hx173_1⟩ (fun hHeld => ?_); refine with_tabW mapmakerref40_Lower.tab9 mapmakerref40_Lower.bits9 (fun HT_ HW_ => ?_)
             generalize w31.drew = w32 at HO_7 HO_8 BK162 HB hx172_0 hx173_0 hx173_1 hHeld ⊢
             refine pure_ (i := 1) (N := some 53) (v := ?_) (a' := ?_) #[yF,yT,yF,yF,yF,yF,yF,yF,yF,yF,yF,yF,yF,yF,yF,yF,yF] rfl rfl (any_of HT_.out (by kernel_rfl)) (fun _ _ _ h => h) (Or.inl ⟨by rfl, ?_⟩) ?_ ?_; rotate_left; (·intro w'; go_simp; with_reducible rfl); rotate_left; (·simp only [putW]; rfl); refine pure_ (i := 2) (N := some 54) (v := ?_) (a' := ?_) #[yF,yT,yT,yF,yF,yF,yF,yF,yF,yF,yF,yF,yF,yF,yF,yF,yF] rfl rfl (any_of HT_.out (by kernel_rfl)) (fun _ _ _ h => h) (Or.inl ⟨by rfl, ?_⟩) ?_ ?_; rotate_left; (·intro w'; go_simp; with_reducible rfl); rotate_left; (·simp only [putW]; rfl); refine pure_ (i := 3) (N := some 55) (v := ?_) (a' := ?_) #[yF,yT,yT,yT,yF,yF,yF,yF,yF,yF,yF,yF,yF,yF,yF,yF,yF] rfl rfl (any_of HT_.out (by kernel_rfl)) (fun _ _ _ h => h) (Or.inl ⟨by rfl, ?_⟩) ?_ ?_; rotate_left; (·intro w'; go_simp; with_reducible rfl); rotate_left; (·simp only [putW]; rfl); refine pure_ (i := 4) (N := some 56) (v := ?_) (a' := ?_) #[yF,yT,yT,yT,yT,yF,yF,yF,yF,yF,yF,yF,yF,yF,yF,yF,yF] rfl rfl (any_of HT_.out (by kernel_rfl)) (fun _ _ _ h => h) (Or.inl ⟨by rfl, ?_⟩) ?_ ?_; rotate_left; (·intro w'; go_simp; with_reducible rfl); rotate_left; (·simp only [putW]; rfl); refine pure_ (i := 6) (N := some 58) (v := ?_) (a' := ?_) #[yF,yT,yT,yT,yT,yF,yT,yF,yF,yF,yF,yF,yF,yF,yF,yF,yF] rfl rfl (any_of HT_.out (by kernel_rfl)) (fun _ _ _ h => h) (Or.inl ⟨by rfl, ?_⟩) ?_ ?_; rotate_left; (·intro w'; go_simp; with_reducible rfl); rotate_left; (·simp only [putW]; rfl); refine pure_ (i := 7) (N := some 59) (v := ?_) (a' := ?_) #[yF,yT,yT,yT,yT,yF,yT,yT,yF,yF,yF,yF,yF,yF,yF,yF,yF] rfl rfl (any_of HT_.out (by kernel_rfl)) (fun _ _ _ h => h) (Or.inl ⟨by rfl, ?_⟩) ?_ ?_; rotate_left; (·intro w'; go_simp; with_reducible rfl); rotate_left; (·simp only [putW]; rfl); refine pure_ (i := 8) (N := some 60) (v := ?_) (a' := ?_) #[yF,yT,yT,yT,yT,yF,yT,yT,yT,yF,yF,yF,yF,yF,yF,yF,yF] rfl rfl (any_of HT_.out (by kernel_rfl)) (fun _ _ _ h => h) (Or.inl ⟨by rfl, ?_⟩) ?_ ?_; rotate_left; (·intro w'; go_simp; with_reducible rfl); rotate_left; (·simp only [putW]; rfl); refine pure_ (i := 9) (N := some 61) (v := ?_) (a' := ?_) #[yF,yT,yT,yT,yT,yF,yT,yT,yT,yT,yF,yF,yF,yF,yF,yF,yF] rfl rfl (any_of HT_.out (by kernel_rfl)) (fun _ _ _ h => h) (Or.inl ⟨by rfl, ?_⟩) ?_ ?_; rotate_left; (·intro w'; go_simp; with_reducible rfl); rotate_left; (·simp only [putW]; rfl); refine take_ (i := 0) (N := some 52) (v := ?_) (a' := ?_) #[yT,yT,yT,yT,yT,yF,yT,yT,yT,yT,yF,yF,yF,yF,yF,yF,yF] rfl rfl (take_ofW HT_.out HW_.out (by kernel_rfl)) (fun _ _ _ h => h) (Or.inl ⟨by rfl, ?_⟩) hHeld ?_ ?_; rotate_left; (·rintro w' ⟨s0, s1, s2, s3, s4⟩; go_simp; with_reducible rfl); rotate_left; (·simp only [putW]; rfl); refine take_ (i := 5) (N := some 57) (v := ?_) (a' := ?_) #[yT,yT,yT,yT,yT,yT,yT,yT,yT,yT,yF,yF,yF,yF,yF,yF,yF] rfl rfl (take_ofW HT_.out HW_.out (by kernel_rfl)) (fun _ _ _ h => h) (Or.inl ⟨by rfl, ?_⟩) hHeld ?_ ?_; rotate_left; (·rintro w' ⟨s0, s1, s2, s3, s4⟩; go_simp; with_reducible rfl); rotate_left; (·simp only [putW]; rfl); refine take_ (i := 10) (N := some 62) (v := ?_) (a' := ?_) #[yT,yT,yT,yT,yT,yT,yT,yT,yT,yT,yT,yF,yF,yF,yF,yF,yF] rfl rfl (take_ofW HT_.out HW_.out (by kernel_rfl)) (fun _ _ _ h => h) (Or.inl ⟨by rfl, ?_⟩) hHeld ?_ ?_; rotate_left; (·rintro w' ⟨s0, s1, s2, s3, s4⟩; go_simp; with_reducible rfl); rotate_left; (·simp only [putW]; rfl); refine one_ (i := 11) (N := some 63) #[yT,yT,yT,yT,yT,yT,yT,yT,yT,yT,yT,yT,yF,yF,yF,yF,yF] rfl rfl (one_of HT_.out (by kernel_rfl)) (by decide) (fun K hK => ?_)
             refine goes_ Try.func21 (by kernel_rfl) rfl #[.agg #[.int .i64 a0_0, .slice A0_1 l0_1.length c0_1], .slice (some ad168) l1.length c1, .int .i64 (rd l1 x9_2), .int .i64 ((rd_T38 t163 a2).f1)] (by rfl) rfl rfl byL ?_
             with_reducible refine (mapmakerref40_Find.calls k2 a0_0 _ _ l0_1 _ _ l1 (rd l1 x9_2) ((rd_T38 t163 a2).f1) t174 false _ ?side1 ?side2 ?side3 ?side4 A19.out).mono ?_
             (case side1 => exact byC (Kd.C_below HR0_1.out HB.out))
             (case side2 => exact HC0_1.out)
             (case side3 => exact byC (Kd.C_below HR1.out HB.out))
             (case side4 => exact HC1.out)
             rintro e w33 ⟨rfl, hb⟩
             have HS3_ := (hb.cell (World.block_lt_of_cell? _ _ (hHeld.2.2.2.1))).trans (hHeld.2.2.2.1)
             have HS4_ := (hb.cell (World.block_lt_of_cell? _ _ (hHeld.2.2.2.2))).trans (hHeld.2.2.2.2)
             refine ⟨_, rfl, ?_⟩
             have n0_ := Aside0.mk (Kd.R_below (byR HO_7.out) hb); have n1_ := Aside0.mk (Kd.R_below (byR HO_8.out) hb); have n2_ := Aside0.mk (blk_below (g := gb162) (o := .cells #[.int .i64 a0_0, .slice A0_1 l0_1.length c0_1] 24 (0, 0)) (byK BK162.out) hb); have n3_ := Aside0.mk (below_step (byB1 HB.out GE162.out) hb); clear HO_7 HO_8 BK162 HB; have HO_7 := n0_; have HO_8 := n1_; have BK162 := n2_; have HB := n3_; clear n0_ n1_ n2_ n3_
             (try clear hb)
             (try clear hb2)
             (try clear hk)
             (try clear hi)
             refine hK.out _ _ ⟨(blk_cell BK162.out 0).trans rfl, (blk_cell BK162.out 1).trans rfl, ((HB.out.cell (World.block_lt_of_cell? w _ hw172_0)).trans hw172_0), HS3_, HS4_⟩ (fun hHeld => ?_)
             clear hK K
             refine norm_ (a' := ?_) ?_ ?_
             rotate_left
             ·show Act.put _ (some 63) _ = _
              simp only [putW]; rfl
             refine pure_ (i := 12) (N := some 51) (v := ?_) (a' := ?_) #[yT,yT,yT,yT,yT,yT,yT,yT,yT,yT,yT,yT,yT,yF,yF,yF,yF] rfl rfl (any_of HT_.out (by kernel_rfl)) (fun _ _ _ h => h) (Or.inl ⟨by rfl, ?_⟩) ?_ ?_; rotate_left; (·intro w'; go_simp; with_reducible rfl); rotate_left; (·simp only [putW]; rfl); refine pure_ (i := 13) (N := some 64) (v := ?_) (a' := ?_) #[yT,yT,yT,yT,yT,yT,yT,yT,yT,yT,yT,yT,yT,yT,yF,yF,yF] rfl rfl (any_of HT_.out (by kernel_rfl)) (fun _ _ _ h => h) (Or.inl ⟨by rfl, ?_⟩) ?_ ?_; rotate_left; (·intro w'; go_simp; with_reducible rfl); rotate_left; (·simp only [putW]; rfl); refine pure_ (i := 14) (N := some 65) (v := ?_) (a' := ?_) #[yT,yT,yT,yT,yT,yT,yT,yT,yT,yT,yT,yT,yT,yT,yT,yF,yF] rfl rfl (any_of HT_.out (by kernel_rfl)) (fun _ _ _ h => h) (Or.inl ⟨by rfl, ?_⟩) ?_ ?_; rotate_left; (·intro w'; go_simp; with_reducible rfl); rotate_left; (·simp only [putW]; rfl); refine pure_ (i := 15) (N := some 12) (v := ?_) (a' := ?_) #[yT,yT,yT,yT,yT,yT,yT,yT,yT,yT,yT,yT,yT,yT,yT,yT,yF] rfl rfl (any_of HT_.out (by kernel_rfl)) (fun _ _ _ h => h) (Or.inl ⟨by rfl, ?_⟩) ?_ ?_; rotate_left; (·intro w'; go_simp; with_reducible rfl); rotate_left; (·simp only [putW]; rfl); refine pure_ (i := 16) (N := some 13) (v := ?_) (a' := ?_) #[yT,yT,yT,yT,yT,yT,yT,yT,yT,yT,yT,yT,yT,yT,yT,yT,yT] rfl rfl (any_of HT_.out (by kernel_rfl)) (fun _ _ _ h => h) (Or.inl ⟨by rfl, ?_⟩) ?_ ?_; rotate_left; (·intro w'; go_simp; with_reducible rfl); rotate_left; (·simp only [putW]; rfl)
             refine done_ (done_of HT_.out (by kernel_rfl)) ?_
             try go_wp2
             go_roundg k2
             case measure => have := HJ4.out; have := HK2.out; omega
             case rel => exact ⟨(x8_2), (wrap64 (x9_2 + 1)), (by first | rfl | (simp; done) | (simp [*]; done)), H', ⟨by have := HJ4.out; have := HK2.out; omega⟩, ⟨by (with_reducible repeat (first | apply Kd.R_alloc | apply Kd.R_drewN | apply Kd.R_drew)); exact HO_7.out⟩, ⟨by (with_reducible repeat (first | apply Kd.R_alloc | apply Kd.R_drewN | apply Kd.R_drew)); exact HO_8.out⟩, ⟨by (with_reducible repeat (first | refine blk_drewN ?_ _ | refine blk_drew ?_ | refine blk_alloc ?_ _)); exact BK162.out⟩, ⟨by repeat (first | (with_reducible first | exact HB.out | apply below_alloc | apply pw_below_drewN | apply below_drew1 | refine below_set ?_ GE162.out) | exact HB.out)⟩⟩
           ·replace c20 := Bool.eq_false_iff.mpr c20
            subst c20
            have H1 : (mapmakerref40_Lower.l0 k2 l1 a2 t163 x8_2 (wrap64 (x9_2 + 1)) a0_0 l0_1) = some r := by rw [if_neg (show ¬ (false = true) by decide)] at H; exact H
            clear H; have H := H1; clear H1
            have H' := Aside0.mk H
            clear H
            obtain ⟨Ao34, co34, eo34⟩ := Kd.R_slice HO_7.out
            subst eo34
            have p166 : 0 ≤ (a2 : Int) := of_decide_eq_true (by first | (with_reducible assumption) | assumption)
            have q166 : a2 < (t163.length : Int) := of_decide_eq_true (by first | (with_reducible assumption) | assumption)
            obtain ⟨ad166, e166, hx166_0, hx166_1⟩ := at_T38 (Kd.R_reads' HO_7.out).2.2 a2 p166 q166
            cases e166
            replace p166 := eq_true p166; replace q166 := eq_true q166
            try go_wp2_with (first | ((with_reducible refine gate_callee (f := 33) rfl ?_); refine goesL_ (some 32) rfl rfl Try.func33 (by kernel_rfl) rfl #[.slice A1 l1.length c1, .int .i64 ((rd_T38 t163 a2).f0)] rfl byL ?_; (with_reducible refine (mapmakerref40_Rank.calls k2 _ _ l1 ((rd_T38 t163 a2).f0) t167 _ ?side1 ?side2 A14.out).mono ?_); (case side1 => exact byC (Kd.C_below HR1.out HB.out)); (case side2 => exact HC1.out); rintro e w' ⟨rfl, ⟨nd, rfl⟩⟩; refine ⟨_, rfl, ?_⟩))
            (try (rw [drewN_self wr]; generalize hq_ : World.drewN wr _ = wr; have n0_ : Aside0 (Kd.R k38 38 wr w.heap.size (fun _ => True) (.slice (some ad166) t163.length co34) t163) := ⟨by rw [← hq_]; exact (byR HO_7.out)⟩; have n1_ : Aside0 (Kd.R (Kd.int .i64) 3 wr w.heap.size (fun _ => True) u8 x8_2) := ⟨by rw [← hq_]; exact (byR HO_8.out)⟩; have n2_ : Aside0 (wr.heap[gb162]? = some (.cells #[.int .i64 a0_0, .slice A0_1 l0_1.length c0_1] 24 (0, 0))) := ⟨by rw [← hq_]; exact (byK BK162.out)⟩; have n3_ : Aside0 (Below w.heap.size w wr) := ⟨by rw [← hq_]; exact (byB1 HB.out GE162.out)⟩; clear HO_7 HO_8 BK162 HB hq_; have HO_7 := n0_; have HO_8 := n1_; have BK162 := n2_; have HB := n3_; clear n0_ n1_ n2_ n3_))
            have n0_ := Aside0.mk (Kd.R_drew HO_7.out); have n1_ := Aside0.mk (Kd.R_drew HO_8.out); have n2_ := Aside0.mk (blk_drew BK162.out); have n3_ := Aside0.mk (below_drew1 HB.out); clear HO_7 HO_8 BK162 HB; have HO_7 := n0_; have HO_8 := n1_; have BK162 := n2_; have HB := n3_; clear n0_ n1_ n2_ n3_
            have p168 : 0 ≤ (x9_2 : Int) := of_decide_eq_true (by first | (with_reducible assumption) | assumption)
            have q168 : x9_2 < (l1.length : Int) := of_decide_eq_true (by first | (with_reducible assumption) | assumption)
            obtain ⟨ad168, e168, hx168_0⟩ := Kd.at_int HR1.out x9_2 p168 q168
            have hw168_0 := hx168_0
            cases e168
            replace hx168_0 := (HB.out.cell (World.block_lt_of_cell? w _ hx168_0)).trans hx168_0
            replace p168 := eq_true p168; replace q168 := eq_true q168
            have p169 : 0 ≤ (a2 : Int) := of_decide_eq_true (by first | (with_reducible assumption) | assumption)
            have q169 : a2 < (t163.length : Int) := of_decide_eq_true (by first | (with_reducible assumption) | assumption)
            obtain ⟨ad169, e169, hx169_0, hx169_1⟩ := at_T38 (Kd.R_reads' HO_7.out).2.2 a2 p169 q169
            obtain rfl : ad166 = ad169 := (by injection e169)
            replace p169 := eq_true p169; replace q169 := eq_true q169
            refine start_ (n := 17) (S := fun w' => w'.cell? ⟨gb162, 0, none⟩ = some (.int .i64 a0_0) ∧ w'.cell? ⟨gb162, 1, none⟩ = some (.slice A0_1 l0_1.length c0_1) ∧ w'.cell? (ad168.add (x9_2).toNat) = some (.int .i64 (rd l1 x9_2)) ∧ w'.cell? (ad166.add ((a2).toNat * 2)) = some (.int .i64 ((rd_T38 t163 a2).f0)) ∧ w'.cell? ⟨(ad166.add ((a2).toNat * 2)).block, (ad166.add ((a2).toNat * 2)).off + 1, none⟩ = some (.int .i64 ((rd_T38 t163 a2).f1))) (ds := []) #[yF,yF,yF,yF,yF,yF,yF,yF,yF,yF,yF,yF,yF,yF,yF,yF,yF] (by kernel_rfl) rfl rfl ⟨(blk_cell BK162.out 0).trans rfl, (blk_cell BK162.out 1).trans rfl, ((HB.out.cell (World.block_lt_of_cell? w _ hw168_0)).trans hw168_0), hx169_0, hx169_1⟩ (fun hHeld => ?_); refine with_tabW mapmakerref40_Lower.tab8 mapmakerref40_Lower.bits8 (fun HT_ HW_ => ?_)
            generalize wr.drew = w35 at HO_7 HO_8 BK162 HB hx168_0 hx169_0 hx169_1 hHeld ⊢
            refine pure_ (i := 1) (N := some 38) (v := ?_) (a' := ?_) #[yF,yT,yF,yF,yF,yF,yF,yF,yF,yF,yF,yF,yF,yF,yF,yF,yF] rfl rfl (any_of HT_.out (by kernel_rfl)) (fun _ _ _ h => h) (Or.inl ⟨by rfl, ?_⟩) ?_ ?_; rotate_left; (·intro w'; go_simp; with_reducible rfl); rotate_left; (·simp only [putW]; rfl); refine pure_ (i := 2) (N := some 39) (v := ?_) (a' := ?_) #[yF,yT,yT,yF,yF,yF,yF,yF,yF,yF,yF,yF,yF,yF,yF,yF,yF] rfl rfl (any_of HT_.out (by kernel_rfl)) (fun _ _ _ h => h) (Or.inl ⟨by rfl, ?_⟩) ?_ ?_; rotate_left; (·intro w'; go_simp; with_reducible rfl); rotate_left; (·simp only [putW]; rfl); refine pure_ (i := 3) (N := some 40) (v := ?_) (a' := ?_) #[yF,yT,yT,yT,yF,yF,yF,yF,yF,yF,yF,yF,yF,yF,yF,yF,yF] rfl rfl (any_of HT_.out (by kernel_rfl)) (fun _ _ _ h => h) (Or.inl ⟨by rfl, ?_⟩) ?_ ?_; rotate_left; (·intro w'; go_simp; with_reducible rfl); rotate_left; (·simp only [putW]; rfl); refine pure_ (i := 4) (N := some 41) (v := ?_) (a' := ?_) #[yF,yT,yT,yT,yT,yF,yF,yF,yF,yF,yF,yF,yF,yF,yF,yF,yF] rfl rfl (any_of HT_.out (by kernel_rfl)) (fun _ _ _ h => h) (Or.inl ⟨by rfl, ?_⟩) ?_ ?_; rotate_left; (·intro w'; go_simp; with_reducible rfl); rotate_left; (·simp only [putW]; rfl); refine pure_ (i := 6) (N := some 43) (v := ?_) (a' := ?_) #[yF,yT,yT,yT,yT,yF,yT,yF,yF,yF,yF,yF,yF,yF,yF,yF,yF] rfl rfl (any_of HT_.out (by kernel_rfl)) (fun _ _ _ h => h) (Or.inl ⟨by rfl, ?_⟩) ?_ ?_; rotate_left; (·intro w'; go_simp; with_reducible rfl); rotate_left; (·simp only [putW]; rfl); refine pure_ (i := 7) (N := some 44) (v := ?_) (a' := ?_) #[yF,yT,yT,yT,yT,yF,yT,yT,yF,yF,yF,yF,yF,yF,yF,yF,yF] rfl rfl (any_of HT_.out (by kernel_rfl)) (fun _ _ _ h => h) (Or.inl ⟨by rfl, ?_⟩) ?_ ?_; rotate_left; (·intro w'; go_simp; with_reducible rfl); rotate_left; (·simp only [putW]; rfl); refine pure_ (i := 8) (N := some 45) (v := ?_) (a' := ?_) #[yF,yT,yT,yT,yT,yF,yT,yT,yT,yF,yF,yF,yF,yF,yF,yF,yF] rfl rfl (any_of HT_.out (by kernel_rfl)) (fun _ _ _ h => h) (Or.inl ⟨by rfl, ?_⟩) ?_ ?_; rotate_left; (·intro w'; go_simp; with_reducible rfl); rotate_left; (·simp only [putW]; rfl); refine pure_ (i := 9) (N := some 46) (v := ?_) (a' := ?_) #[yF,yT,yT,yT,yT,yF,yT,yT,yT,yT,yF,yF,yF,yF,yF,yF,yF] rfl rfl (any_of HT_.out (by kernel_rfl)) (fun _ _ _ h => h) (Or.inl ⟨by rfl, ?_⟩) ?_ ?_; rotate_left; (·intro w'; go_simp; with_reducible rfl); rotate_left; (·simp only [putW]; rfl); refine take_ (i := 0) (N := some 37) (v := ?_) (a' := ?_) #[yT,yT,yT,yT,yT,yF,yT,yT,yT,yT,yF,yF,yF,yF,yF,yF,yF] rfl rfl (take_ofW HT_.out HW_.out (by kernel_rfl)) (fun _ _ _ h => h) (Or.inl ⟨by rfl, ?_⟩) hHeld ?_ ?_; rotate_left; (·rintro w' ⟨s0, s1, s2, s3, s4⟩; go_simp; with_reducible rfl); rotate_left; (·simp only [putW]; rfl); refine take_ (i := 5) (N := some 42) (v := ?_) (a' := ?_) #[yT,yT,yT,yT,yT,yT,yT,yT,yT,yT,yF,yF,yF,yF,yF,yF,yF] rfl rfl (take_ofW HT_.out HW_.out (by kernel_rfl)) (fun _ _ _ h => h) (Or.inl ⟨by rfl, ?_⟩) hHeld ?_ ?_; rotate_left; (·rintro w' ⟨s0, s1, s2, s3, s4⟩; go_simp; with_reducible rfl); rotate_left; (·simp only [putW]; rfl); refine take_ (i := 10) (N := some 47) (v := ?_) (a' := ?_) #[yT,yT,yT,yT,yT,yT,yT,yT,yT,yT,yT,yF,yF,yF,yF,yF,yF] rfl rfl (take_ofW HT_.out HW_.out (by kernel_rfl)) (fun _ _ _ h => h) (Or.inl ⟨by rfl, ?_⟩) hHeld ?_ ?_; rotate_left; (·rintro w' ⟨s0, s1, s2, s3, s4⟩; go_simp; with_reducible rfl); rotate_left; (·simp only [putW]; rfl); refine one_ (i := 11) (N := some 48) #[yT,yT,yT,yT,yT,yT,yT,yT,yT,yT,yT,yT,yF,yF,yF,yF,yF] rfl rfl (one_of HT_.out (by kernel_rfl)) (by decide) (fun K hK => ?_)
            refine goes_ Try.func21 (by kernel_rfl) rfl #[.agg #[.int .i64 a0_0, .slice A0_1 l0_1.length c0_1], .slice (some ad168) l1.length c1, .int .i64 (rd l1 x9_2), .int .i64 ((rd_T38 t163 a2).f0)] (by rfl) rfl rfl byL ?_
            with_reducible refine (mapmakerref40_Find.calls k2 a0_0 _ _ l0_1 _ _ l1 (rd l1 x9_2) ((rd_T38 t163 a2).f0) t170 false _ ?side1 ?side2 ?side3 ?side4 A18.out).mono ?_
            (case side1 => exact byC (Kd.C_below HR0_1.out HB.out))
            (case side2 => exact HC0_1.out)
            (case side3 => exact byC (Kd.C_below HR1.out HB.out))
            (case side4 => exact HC1.out)
            rintro e w36 ⟨rfl, hb⟩
            have HS3_ := (hb.cell (World.block_lt_of_cell? _ _ (hHeld.2.2.2.1))).trans (hHeld.2.2.2.1)
            have HS4_ := (hb.cell (World.block_lt_of_cell? _ _ (hHeld.2.2.2.2))).trans (hHeld.2.2.2.2)
            refine ⟨_, rfl, ?_⟩
            have n0_ := Aside0.mk (Kd.R_below (byR HO_7.out) hb); have n1_ := Aside0.mk (Kd.R_below (byR HO_8.out) hb); have n2_ := Aside0.mk (blk_below (g := gb162) (o := .cells #[.int .i64 a0_0, .slice A0_1 l0_1.length c0_1] 24 (0, 0)) (byK BK162.out) hb); have n3_ := Aside0.mk (below_step (byB1 HB.out GE162.out) hb); clear HO_7 HO_8 BK162 HB; have HO_7 := n0_; have HO_8 := n1_; have BK162 := n2_; have HB := n3_; clear n0_ n1_ n2_ n3_
            (try clear hb)
            (try clear hb2)
            (try clear hk)
            (try clear hi)
            refine hK.out _ _ ⟨(blk_cell BK162.out 0).trans rfl, (blk_cell BK162.out 1).trans rfl, ((HB.out.cell (World.block_lt_of_cell? w _ hw168_0)).trans hw168_0), HS3_, HS4_⟩ (fun hHeld => ?_)
            clear hK K
            refine norm_ (a' := ?_) ?_ ?_
            rotate_left
            ·show Act.put _ (some 48) _ = _
             simp only [putW]; rfl
            refine pure_ (i := 12) (N := some 36) (v := ?_) (a' := ?_) #[yT,yT,yT,yT,yT,yT,yT,yT,yT,yT,yT,yT,yT,yF,yF,yF,yF] rfl rfl (any_of HT_.out (by kernel_rfl)) (fun _ _ _ h => h) (Or.inl ⟨by rfl, ?_⟩) ?_ ?_; rotate_left; (·intro w'; go_simp; with_reducible rfl); rotate_left; (·simp only [putW]; rfl); refine pure_ (i := 13) (N := some 49) (v := ?_) (a' := ?_) #[yT,yT,yT,yT,yT,yT,yT,yT,yT,yT,yT,yT,yT,yT,yF,yF,yF] rfl rfl (any_of HT_.out (by kernel_rfl)) (fun _ _ _ h => h) (Or.inl ⟨by rfl, ?_⟩) ?_ ?_; rotate_left; (·intro w'; go_simp; with_reducible rfl); rotate_left; (·simp only [putW]; rfl); refine pure_ (i := 14) (N := some 50) (v := ?_) (a' := ?_) #[yT,yT,yT,yT,yT,yT,yT,yT,yT,yT,yT,yT,yT,yT,yT,yF,yF] rfl rfl (any_of HT_.out (by kernel_rfl)) (fun _ _ _ h => h) (Or.inl ⟨by rfl, ?_⟩) ?_ ?_; rotate_left; (·intro w'; go_simp; with_reducible rfl); rotate_left; (·simp only [putW]; rfl); refine pure_ (i := 15) (N := some 10) (v := ?_) (a' := ?_) #[yT,yT,yT,yT,yT,yT,yT,yT,yT,yT,yT,yT,yT,yT,yT,yT,yF] rfl rfl (any_of HT_.out (by kernel_rfl)) (fun _ _ _ h => h) (Or.inl ⟨by rfl, ?_⟩) ?_ ?_; rotate_left; (·intro w'; go_simp; with_reducible rfl); rotate_left; (·simp only [putW]; rfl); refine pure_ (i := 16) (N := some 11) (v := ?_) (a' := ?_) #[yT,yT,yT,yT,yT,yT,yT,yT,yT,yT,yT,yT,yT,yT,yT,yT,yT] rfl rfl (any_of HT_.out (by kernel_rfl)) (fun _ _ _ h => h) (Or.inl ⟨by rfl, ?_⟩) ?_ ?_; rotate_left; (·intro w'; go_simp; with_reducible rfl); rotate_left; (·simp only [putW]; rfl)
            refine done_ (done_of HT_.out (by kernel_rfl)) ?_
            try go_wp2
            have n0_ := Aside0.mk (Kd.R_drew HO_7.out); have n1_ := Aside0.mk (Kd.R_drew HO_8.out); have n2_ := Aside0.mk (blk_drew BK162.out); have n3_ := Aside0.mk (below_drew1 HB.out); clear HO_7 HO_8 BK162 HB; have HO_7 := n0_; have HO_8 := n1_; have BK162 := n2_; have HB := n3_; clear n0_ n1_ n2_ n3_
            have p172 : 0 ≤ (x9_2 : Int) := of_decide_eq_true (by first | (with_reducible assumption) | assumption)
            have q172 : x9_2 < (l1.length : Int) := of_decide_eq_true (by first | (with_reducible assumption) | assumption)
            obtain ⟨ad172, e172, hx172_0⟩ := Kd.at_int HR1.out x9_2 p172 q172
            have hw172_0 := hx172_0
            obtain rfl : ad168 = ad172 := (by injection e172)
            replace hx172_0 := (HB.out.cell (World.block_lt_of_cell? w _ hx172_0)).trans hx172_0
            replace p172 := eq_true p172; replace q172 := eq_true q172
            have p173 : 0 ≤ (a2 : Int) := of_decide_eq_true (by first | (with_reducible assumption) | assumption)
            have q173 : a2 < (t163.length : Int) := of_decide_eq_true (by first | (with_reducible assumption) | assumption)
            obtain ⟨ad173, e173, hx173_0, hx173_1⟩ := at_T38 (Kd.R_reads' HO_7.out).2.2 a2 p173 q173
            obtain rfl : ad166 = ad173 := (by injection e173)
            replace p173 := eq_true p173; replace q173 := eq_true q173
            refine start_ (n := 17) (S := fun w' => w'.cell? ⟨gb162, 0, none⟩ = some (.int .i64 a0_0) ∧ w'.cell? ⟨gb162, 1, none⟩ = some (.slice A0_1 l0_1.length c0_1) ∧ w'.cell? (ad168.add (x9_2).toNat) = some (.int .i64 (rd l1 x9_2)) ∧ w'.cell? (ad166.add ((a2).toNat * 2)) = some (.int .i64 ((rd_T38 t163 a2).f0)) ∧ w'.cell? ⟨(ad166.add ((a2).toNat * 2)).block, (ad166.add ((a2).toNat * 2)).off + 1, none⟩ = some (.int .i64 ((rd_T38 t163 a2).f1))) (ds := []) #[yF,yF,yF,yF,yF,yF,yF,yF,yF,yF,yF,yF,yF,yF,yF,yF,yF] (by kernel_rfl) rfl rfl ⟨(blk_cell BK162.out 0).trans rfl, (blk_cell BK162.out 1).trans rfl, ((HB.out.cell (World.block_lt_of_cell? w _ hw172_0)).trans hw172_0), hx173_0, hx173_1⟩ (fun hHeld => ?_); refine with_tabW mapmakerref40_Lower.tab9 mapmakerref40_Lower.bits9 (fun HT_ HW_ => ?_)
            generalize w36.drew = w37 at HO_7 HO_8 BK162 HB hx172_0 hx173_0 hx173_1 hHeld ⊢
            refine pure_ (i := 1) (N := some 53) (v := ?_) (a' := ?_) #[yF,yT,yF,yF,yF,yF,yF,yF,yF,yF,yF,yF,yF,yF,yF,yF,yF] rfl rfl (any_of HT_.out (by kernel_rfl)) (fun _ _ _ h => h) (Or.inl ⟨by rfl, ?_⟩) ?_ ?_; rotate_left; (·intro w'; go_simp; with_reducible rfl); rotate_left; (·simp only [putW]; rfl); refine pure_ (i := 2) (N := some 54) (v := ?_) (a' := ?_) #[yF,yT,yT,yF,yF,yF,yF,yF,yF,yF,yF,yF,yF,yF,yF,yF,yF] rfl rfl (any_of HT_.out (by kernel_rfl)) (fun _ _ _ h => h) (Or.inl ⟨by rfl, ?_⟩) ?_ ?_; rotate_left; (·intro w'; go_simp; with_reducible rfl); rotate_left; (·simp only [putW]; rfl); refine pure_ (i := 3) (N := some 55) (v := ?_) (a' := ?_) #[yF,yT,yT,yT,yF,yF,yF,yF,yF,yF,yF,yF,yF,yF,yF,yF,yF] rfl rfl (any_of HT_.out (by kernel_rfl)) (fun _ _ _ h => h) (Or.inl ⟨by rfl, ?_⟩) ?_ ?_; rotate_left; (·intro w'; go_simp; with_reducible rfl); rotate_left; (·simp only [putW]; rfl); refine pure_ (i := 4) (N := some 56) (v := ?_) (a' := ?_) #[yF,yT,yT,yT,yT,yF,yF,yF,yF,yF,yF,yF,yF,yF,yF,yF,yF] rfl rfl (any_of HT_.out (by kernel_rfl)) (fun _ _ _ h => h) (Or.inl ⟨by rfl, ?_⟩) ?_ ?_; rotate_left; (·intro w'; go_simp; with_reducible rfl); rotate_left; (·simp only [putW]; rfl); refine pure_ (i := 6) (N := some 58) (v := ?_) (a' := ?_) #[yF,yT,yT,yT,yT,yF,yT,yF,yF,yF,yF,yF,yF,yF,yF,yF,yF] rfl rfl (any_of HT_.out (by kernel_rfl)) (fun _ _ _ h => h) (Or.inl ⟨by rfl, ?_⟩) ?_ ?_; rotate_left; (·intro w'; go_simp; with_reducible rfl); rotate_left; (·simp only [putW]; rfl); refine pure_ (i := 7) (N := some 59) (v := ?_) (a' := ?_) #[yF,yT,yT,yT,yT,yF,yT,yT,yF,yF,yF,yF,yF,yF,yF,yF,yF] rfl rfl (any_of HT_.out (by kernel_rfl)) (fun _ _ _ h => h) (Or.inl ⟨by rfl, ?_⟩) ?_ ?_; rotate_left; (·intro w'; go_simp; with_reducible rfl); rotate_left; (·simp only [putW]; rfl); refine pure_ (i := 8) (N := some 60) (v := ?_) (a' := ?_) #[yF,yT,yT,yT,yT,yF,yT,yT,yT,yF,yF,yF,yF,yF,yF,yF,yF] rfl rfl (any_of HT_.out (by kernel_rfl)) (fun _ _ _ h => h) (Or.inl ⟨by rfl, ?_⟩) ?_ ?_; rotate_left; (·intro w'; go_simp; with_reducible rfl); rotate_left; (·simp only [putW]; rfl); refine pure_ (i := 9) (N := some 61) (v := ?_) (a' := ?_) #[yF,yT,yT,yT,yT,yF,yT,yT,yT,yT,yF,yF,yF,yF,yF,yF,yF] rfl rfl (any_of HT_.out (by kernel_rfl)) (fun _ _ _ h => h) (Or.inl ⟨by rfl, ?_⟩) ?_ ?_; rotate_left; (·intro w'; go_simp; with_reducible rfl); rotate_left; (·simp only [putW]; rfl); refine take_ (i := 0) (N := some 52) (v := ?_) (a' := ?_) #[yT,yT,yT,yT,yT,yF,yT,yT,yT,yT,yF,yF,yF,yF,yF,yF,yF] rfl rfl (take_ofW HT_.out HW_.out (by kernel_rfl)) (fun _ _ _ h => h) (Or.inl ⟨by rfl, ?_⟩) hHeld ?_ ?_; rotate_left; (·rintro w' ⟨s0, s1, s2, s3, s4⟩; go_simp; with_reducible rfl); rotate_left; (·simp only [putW]; rfl); refine take_ (i := 5) (N := some 57) (v := ?_) (a' := ?_) #[yT,yT,yT,yT,yT,yT,yT,yT,yT,yT,yF,yF,yF,yF,yF,yF,yF] rfl rfl (take_ofW HT_.out HW_.out (by kernel_rfl)) (fun _ _ _ h => h) (Or.inl ⟨by rfl, ?_⟩) hHeld ?_ ?_; rotate_left; (·rintro w' ⟨s0, s1, s2, s3, s4⟩; go_simp; with_reducible rfl); rotate_left; (·simp only [putW]; rfl); refine take_ (i := 10) (N := some 62) (v := ?_) (a' := ?_) #[yT,yT,yT,yT,yT,yT,yT,yT,yT,yT,yT,yF,yF,yF,yF,yF,yF] rfl rfl (take_ofW HT_.out HW_.out (by kernel_rfl)) (fun _ _ _ h => h) (Or.inl ⟨by rfl, ?_⟩) hHeld ?_ ?_; rotate_left; (·rintro w' ⟨s0, s1, s2, s3, s4⟩; go_simp; with_reducible rfl); rotate_left; (·simp only [putW]; rfl); refine one_ (i := 11) (N := some 63) #[yT,yT,yT,yT,yT,yT,yT,yT,yT,yT,yT,yT,yF,yF,yF,yF,yF] rfl rfl (one_of HT_.out (by kernel_rfl)) (by decide) (fun K hK => ?_)
            refine goes_ Try.func21 (by kernel_rfl) rfl #[.agg #[.int .i64 a0_0, .slice A0_1 l0_1.length c0_1], .slice (some ad168) l1.length c1, .int .i64 (rd l1 x9_2), .int .i64 ((rd_T38 t163 a2).f1)] (by rfl) rfl rfl byL ?_
            with_reducible refine (mapmakerref40_Find.calls k2 a0_0 _ _ l0_1 _ _ l1 (rd l1 x9_2) ((rd_T38 t163 a2).f1) t174 t175 _ ?side1 ?side2 ?side3 ?side4 A19.out).mono ?_
            (case side1 => exact byC (Kd.C_below HR0_1.out HB.out))
            (case side2 => exact HC0_1.out)
            (case side3 => exact byC (Kd.C_below HR1.out HB.out))
            (case side4 => exact HC1.out)
            rintro e w38 ⟨rfl, hb⟩
            have HS3_ := (hb.cell (World.block_lt_of_cell? _ _ (hHeld.2.2.2.1))).trans (hHeld.2.2.2.1)
            have HS4_ := (hb.cell (World.block_lt_of_cell? _ _ (hHeld.2.2.2.2))).trans (hHeld.2.2.2.2)
            refine ⟨_, rfl, ?_⟩
            have n0_ := Aside0.mk (Kd.R_below (byR HO_7.out) hb); have n1_ := Aside0.mk (Kd.R_below (byR HO_8.out) hb); have n2_ := Aside0.mk (blk_below (g := gb162) (o := .cells #[.int .i64 a0_0, .slice A0_1 l0_1.length c0_1] 24 (0, 0)) (byK BK162.out) hb); have n3_ := Aside0.mk (below_step (byB1 HB.out GE162.out) hb); clear HO_7 HO_8 BK162 HB; have HO_7 := n0_; have HO_8 := n1_; have BK162 := n2_; have HB := n3_; clear n0_ n1_ n2_ n3_
            (try clear hb)
            (try clear hb2)
            (try clear hk)
            (try clear hi)
            refine hK.out _ _ ⟨(blk_cell BK162.out 0).trans rfl, (blk_cell BK162.out 1).trans rfl, ((HB.out.cell (World.block_lt_of_cell? w _ hw172_0)).trans hw172_0), HS3_, HS4_⟩ (fun hHeld => ?_)
            clear hK K
            refine norm_ (a' := ?_) ?_ ?_
            rotate_left
            ·show Act.put _ (some 63) _ = _
             simp only [putW]; rfl
            refine pure_ (i := 12) (N := some 51) (v := ?_) (a' := ?_) #[yT,yT,yT,yT,yT,yT,yT,yT,yT,yT,yT,yT,yT,yF,yF,yF,yF] rfl rfl (any_of HT_.out (by kernel_rfl)) (fun _ _ _ h => h) (Or.inl ⟨by rfl, ?_⟩) ?_ ?_; rotate_left; (·intro w'; go_simp; with_reducible rfl); rotate_left; (·simp only [putW]; rfl); refine pure_ (i := 13) (N := some 64) (v := ?_) (a' := ?_) #[yT,yT,yT,yT,yT,yT,yT,yT,yT,yT,yT,yT,yT,yT,yF,yF,yF] rfl rfl (any_of HT_.out (by kernel_rfl)) (fun _ _ _ h => h) (Or.inl ⟨by rfl, ?_⟩) ?_ ?_; rotate_left; (·intro w'; go_simp; with_reducible rfl); rotate_left; (·simp only [putW]; rfl); refine pure_ (i := 14) (N := some 65) (v := ?_) (a' := ?_) #[yT,yT,yT,yT,yT,yT,yT,yT,yT,yT,yT,yT,yT,yT,yT,yF,yF] rfl rfl (any_of HT_.out (by kernel_rfl)) (fun _ _ _ h => h) (Or.inl ⟨by rfl, ?_⟩) ?_ ?_; rotate_left; (·intro w'; go_simp; with_reducible rfl); rotate_left; (·simp only [putW]; rfl); refine pure_ (i := 15) (N := some 12) (v := ?_) (a' := ?_) #[yT,yT,yT,yT,yT,yT,yT,yT,yT,yT,yT,yT,yT,yT,yT,yT,yF] rfl rfl (any_of HT_.out (by kernel_rfl)) (fun _ _ _ h => h) (Or.inl ⟨by rfl, ?_⟩) ?_ ?_; rotate_left; (·intro w'; go_simp; with_reducible rfl); rotate_left; (·simp only [putW]; rfl); refine pure_ (i := 16) (N := some 13) (v := ?_) (a' := ?_) #[yT,yT,yT,yT,yT,yT,yT,yT,yT,yT,yT,yT,yT,yT,yT,yT,yT] rfl rfl (any_of HT_.out (by kernel_rfl)) (fun _ _ _ h => h) (Or.inl ⟨by rfl, ?_⟩) ?_ ?_; rotate_left; (·intro w'; go_simp; with_reducible rfl); rotate_left; (·simp only [putW]; rfl)
            refine done_ (done_of HT_.out (by kernel_rfl)) ?_
            try go_wp2
            go_roundg k2
            case measure => have := HJ4.out; have := HK2.out; omega
            case rel => exact ⟨(x8_2), (wrap64 (x9_2 + 1)), (by first | rfl | (simp; done) | (simp [*]; done)), H', ⟨by have := HJ4.out; have := HK2.out; omega⟩, ⟨by (with_reducible repeat (first | apply Kd.R_alloc | apply Kd.R_drewN | apply Kd.R_drew)); exact HO_7.out⟩, ⟨by (with_reducible repeat (first | apply Kd.R_alloc | apply Kd.R_drewN | apply Kd.R_drew)); exact HO_8.out⟩, ⟨by (with_reducible repeat (first | refine blk_drewN ?_ _ | refine blk_drew ?_ | refine blk_alloc ?_ _)); exact BK162.out⟩, ⟨by repeat (first | (with_reducible first | exact HB.out | apply below_alloc | apply pw_below_drewN | apply below_drew1 | refine below_set ?_ GE162.out) | exact HB.out)⟩⟩
          ·rw [if_neg c17] at H
           exact absurd H (by simp)
         ·rw [if_neg c16] at H
          exact absurd H (by simp)
        ·rw [if_neg c15] at H
         have c15b0 : decide (x9_2 < t167) = false := decide_eq_false c15
         clear c15
         obtain rfl := Option.some.inj H
         obtain ⟨Ao39, co39, eo39⟩ := Kd.R_slice HO_7.out
         subst eo39
         have p166 : 0 ≤ (a2 : Int) := of_decide_eq_true (by first | (with_reducible assumption) | assumption)
         have q166 : a2 < (t163.length : Int) := of_decide_eq_true (by first | (with_reducible assumption) | assumption)
         obtain ⟨ad166, e166, hx166_0, hx166_1⟩ := at_T38 (Kd.R_reads' HO_7.out).2.2 a2 p166 q166
         cases e166
         replace p166 := eq_true p166; replace q166 := eq_true q166
         go_wp2_with (first | ((with_reducible refine gate_callee (f := 33) rfl ?_); refine goesL_ (some 32) rfl rfl Try.func33 (by kernel_rfl) rfl #[.slice A1 l1.length c1, .int .i64 ((rd_T38 t163 a2).f0)] rfl byL ?_; (with_reducible refine (mapmakerref40_Rank.calls k2 _ _ l1 ((rd_T38 t163 a2).f0) t167 _ ?side1 ?side2 A14.out).mono ?_); (case side1 => exact byC (Kd.C_below HR1.out HB.out)); (case side2 => exact HC1.out); rintro e w' ⟨rfl, ⟨nd, rfl⟩⟩; refine ⟨_, rfl, ?_⟩))
         go_ret
         exact ⟨_, by first | rfl | (simp [errW_none, errW_some] <;> rfl) | (simp [*, errW_none, errW_some] <;> rfl), by (with_reducible repeat (first | apply Kd.R_alloc | apply Kd.R_drewN | apply Kd.R_drew)); exact HO_8.out, by repeat (first | (with_reducible first | exact HB.out | apply below_alloc | apply pw_below_drewN | apply below_drew1 | refine below_set ?_ GE162.out) | exact HB.out)⟩
       ·rw [if_neg c13] at H
        exact absurd H (by simp)
      ·rw [if_neg c12] at H
       exact absurd H (by simp)

end Go.Proofs.Ytcfeehaoeaoegaa.Print
