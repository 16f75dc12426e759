/- Written by a program of this claim's author (xprint.py, over the kit's print.py): the call of mapmaker/mapmakerref37.Parts comes to what the Lean function of its name says. -/
import Derived.Test.YtnnknbghfbjcnaaPrint0
import Derived.Test.YtnnknbghfbjcnaaF23
import Derived.Test.YtnnknbghfbjcnaaHXShort
namespace Go.Proofs.Ytnnknbghfbjcnaa.Print
open Go.RowKit Go.Proofs.YtnnknbghfbjcnaaW.PrintWords Go.Proofs.YtnnknbghfbjcnaaW.PrintLast Go.Proofs.YtnnknbghfbjcnaaW.PrintMore
attribute [local go_sem] max2_int min2_int max_two min_two max_three min_three max_four min_four   -- for this text's walks alone
set_option linter.unusedVariables false
set_option linter.unusedSimpArgs false

/-! ### mapmakerref37_Parts: function 21 -/
mutual
def mapmakerref37_Parts.l0 : Nat → List Int → Int → Int → List (S40) → Option (List Int)
 | 0, _, _, _, _ => none
 | k + 1, x3, x4, x248000, x248001 => if x4 < x248000 then (if x3.length < 17592186044416 then (mapmakerref37_Parts.l0 k (x3 ++ [x4]) (wrap64 (x4 + 1)) x248000 x248001) else (none)) else (mapmakerref37_Parts.l1 k x3 0 x248000 x248001)
def mapmakerref37_Parts.l1 : Nat → List Int → Int → Int → List (S40) → Option (List Int)
 | 0, _, _, _, _ => none
 | k + 1, x3, x5, x248000, x248001 => if x5 < x248000 then (mapmakerref37_Parts.l2 k x3 x5 0 x248000 x248001) else (some x3)
def mapmakerref37_Parts.l2 : Nat → List Int → Int → Int → Int → List (S40) → Option (List Int)
 | 0, _, _, _, _, _ => none
 | k + 1, x3, x5, x6, x248000, x248001 => if x6 < (x248001.length : Int) then (if 0 ≤ x6 then (if 0 ≤ ((rd_T40 x248001 x6).f0) then (if ((rd_T40 x248001 x6).f0) < (x3.length : Int) then (if 0 ≤ ((rd_T40 x248001 x6).f1) then (if ((rd_T40 x248001 x6).f1) < (x3.length : Int) then (mapmakerref37_Parts.l2 k ((x3.set (((rd_T40 x248001 x6).f0) : Int).toNat (mn (rd x3 ((rd_T40 x248001 x6).f0)) (rd x3 ((rd_T40 x248001 x6).f1)))).set (((rd_T40 x248001 x6).f1) : Int).toNat (mn (rd x3 ((rd_T40 x248001 x6).f0)) (rd x3 ((rd_T40 x248001 x6).f1)))) x5 (wrap64 (x6 + 1)) x248000 x248001) else (none)) else (none)) else (none)) else (none)) else (none)) else (mapmakerref37_Parts.l1 k x3 (wrap64 (x5 + 1)) x248000 x248001)
end
def mapmakerref37_Parts.f (k : Nat) (a0_0 : Int) (l0_1 : List (S40)) : Option (List Int) := (mapmakerref37_Check.f k a0_0 l0_1).bind fun t248 => (if t248 = 0 then (mapmakerref37_Parts.l0 k ([] : List Int) 0 a0_0 l0_1) else (some ([] : List Int)))
theorem mapmakerref37_Parts.mono_l : ∀ k, (∀ y0 y1 y2 y3, LeO (mapmakerref37_Parts.l0 k y0 y1 y2 y3) (mapmakerref37_Parts.l0 (k + 1) y0 y1 y2 y3)) ∧ (∀ y0 y1 y2 y3, LeO (mapmakerref37_Parts.l1 k y0 y1 y2 y3) (mapmakerref37_Parts.l1 (k + 1) y0 y1 y2 y3)) ∧ (∀ y0 y1 y2 y3 y4, LeO (mapmakerref37_Parts.l2 k y0 y1 y2 y3 y4) (mapmakerref37_Parts.l2 (k + 1) y0 y1 y2 y3 y4))
 | 0 => ⟨fun _ _ _ _ r h => by simp [mapmakerref37_Parts.l0] at h, fun _ _ _ _ r h => by simp [mapmakerref37_Parts.l1] at h, fun _ _ _ _ _ r h => by simp [mapmakerref37_Parts.l2] at h⟩
 | k + 1 => by
  obtain ⟨ih0, ih1, ih2⟩ := mapmakerref37_Parts.mono_l k
  refine ⟨?_, ?_, ?_⟩
  ·intro y0 y1 y2 y3
   unfold mapmakerref37_Parts.l0
   repeat' first
   | (with_reducible exact ih0 _ _ _ _)
   | (with_reducible exact ih1 _ _ _ _)
   | (with_reducible exact ih2 _ _ _ _ _)
   | (with_reducible exact mapmakerref37_Check.mono _ _ _)
   | (with_reducible exact LeO.refl _)
   | (with_reducible exact LeO.none _)
   | (with_reducible refine LeO.ite ?_ ?_)
   | (with_reducible refine LeO.bind ?_ (fun _ => ?_))
   | exact ih0 _ _ _ _
   | exact ih1 _ _ _ _
   | exact ih2 _ _ _ _ _
   | exact mapmakerref37_Check.mono _ _ _
   | exact LeO.none _
   | refine LeO.ite ?_ ?_
   | refine LeO.bind ?_ (fun _ => ?_)
  ·intro y0 y1 y2 y3
   unfold mapmakerref37_Parts.l1
   repeat' first
   | (with_reducible exact ih0 _ _ _ _)
   | (with_reducible exact ih1 _ _ _ _)
   | (with_reducible exact ih2 _ _ _ _ _)
   | (with_reducible exact mapmakerref37_Check.mono _ _ _)
   | (with_reducible exact LeO.refl _)
   | (with_reducible exact LeO.none _)
   | (with_reducible refine LeO.ite ?_ ?_)
   | (with_reducible refine LeO.bind ?_ (fun _ => ?_))
   | exact ih0 _ _ _ _
   | exact ih1 _ _ _ _
   | exact ih2 _ _ _ _ _
   | exact mapmakerref37_Check.mono _ _ _
   | exact LeO.none _
   | refine LeO.ite ?_ ?_
   | refine LeO.bind ?_ (fun _ => ?_)
  ·intro y0 y1 y2 y3 y4
   unfold mapmakerref37_Parts.l2
   repeat' first
   | (with_reducible exact ih0 _ _ _ _)
   | (with_reducible exact ih1 _ _ _ _)
   | (with_reducible exact ih2 _ _ _ _ _)
   | (with_reducible exact mapmakerref37_Check.mono _ _ _)
   | (with_reducible exact LeO.refl _)
   | (with_reducible exact LeO.none _)
   | (with_reducible refine LeO.ite ?_ ?_)
   | (with_reducible refine LeO.bind ?_ (fun _ => ?_))
   | exact ih0 _ _ _ _
   | exact ih1 _ _ _ _
   | exact ih2 _ _ _ _ _
   | exact mapmakerref37_Check.mono _ _ _
   | exact LeO.none _
   | refine LeO.ite ?_ ?_
   | refine LeO.bind ?_ (fun _ => ?_)
theorem mapmakerref37_Parts.mono : ∀ a0 a1 k, LeO (mapmakerref37_Parts.f k a0 a1) (mapmakerref37_Parts.f (k + 1) a0 a1) := by
 intro a0 a1 k
 obtain ⟨ih0, ih1, ih2⟩ := mapmakerref37_Parts.mono_l k
 unfold mapmakerref37_Parts.f
 repeat' first
   | (with_reducible exact ih0 _ _ _ _)
   | (with_reducible exact ih1 _ _ _ _)
   | (with_reducible exact ih2 _ _ _ _ _)
   | (with_reducible exact mapmakerref37_Check.mono _ _ _)
   | (with_reducible exact LeO.refl _)
   | (with_reducible exact LeO.none _)
   | (with_reducible refine LeO.ite ?_ ?_)
   | (with_reducible refine LeO.bind ?_ (fun _ => ?_))
   | exact ih0 _ _ _ _
   | exact ih1 _ _ _ _
   | exact ih2 _ _ _ _ _
   | exact mapmakerref37_Check.mono _ _ _
   | exact LeO.none _
   | refine LeO.ite ?_ ?_
   | refine LeO.bind ?_ (fun _ => ?_)
set_option maxHeartbeats 8000000 in
set_option maxRecDepth 100000 in
theorem mapmakerref37_Parts.calls (k : Nat) (a0_0 : Int) (A0_1 : Option Addr) (c0_1 : Nat) (l0_1 : List (S40)) (r : List Int) (w : World) (hr0_1 : Kd.C k40 w A0_1 l0_1.length l0_1) (hc0_1 : l0_1.length ≤ c0_1) (h : mapmakerref37_Parts.f k a0_0 l0_1 = some r) :
  Calls Try.prog 21 #[.agg #[.int .i64 a0_0, .slice A0_1 l0_1.length c0_1]] w fun e w' => ∃ v0_ : Value, e = .returned (v0_) ∧ Kd.R (Kd.int .i64) 3 w' w.heap.size (fun _ => True) v0_ r ∧ Below w.heap.size w w' := by
 have hu24 := Try.underlying24
 have hu40 := Try.underlying40
 have HR0_1 := Aside0.mk hr0_1
 have HC0_1 := Aside0.mk hc0_1
 clear hr0_1 hc0_1
 have HB := Aside0.mk (Below.refl w.heap.size w)
 have H : ((mapmakerref37_Check.f k a0_0 l0_1).bind fun t248 => (if t248 = 0 then (mapmakerref37_Parts.l0 k ([] : List Int) 0 a0_0 l0_1) else (some ([] : List Int)))) = some r := h
 clear h
 replace H := Option.bind_eq_some_iff.mp H
 obtain ⟨t248, A20, H⟩ := H
 replace H : (if t248 = 0 then (mapmakerref37_Parts.l0 k ([] : List Int) 0 a0_0 l0_1) else (some ([] : List Int))) = some r := H
 have A2 := Aside0.mk A20
 clear A20
 by_cases c3 : t248 = 0
 ·rw [if_pos c3] at H
  have c3b0 : (t248 == 0) = true := beq_iff_eq.mpr c3
  have c3b1 : (t248 != 0) = false := bne_eq_false_iff_eq.mpr c3
  clear c3
  have H' := Aside0.mk H
  clear H
  go_enter Try.func21, Try.ntmps21
  go_wp2_with (first | ((with_reducible refine gate_dst (N := 1) rfl ?_); refine box_event ?hg (N := 1) ?hd (cs := #[.int .i64 a0_0, .slice A0_1 l0_1.length c0_1]) (t := 24) ?hr ?_; (case hd => rfl); (case hg => rfl); (case hr => first | (go_simp; done) | (go_simp; rfl)); intro gb247 hg w4 hbox hb; have n0_ := Aside0.mk (below_step (byB HB.out) hb); have n1_ := Aside0.mk (hbox); have n2_ := Aside0.mk ((by rw [hg]; exact (below_size (byB HB.out)) : w.heap.size ≤ gb247)); have n3_ := Aside0.mk ((by rw [hg]; exact (below_size (byB HB.out)) : w.heap.size ≤ gb247)); clear HB; have HB := n0_; have BK247 := n1_; have GW247 := n2_; have GE247 := n3_; clear n0_ n1_ n2_ n3_ hb hbox hg; have hcz5_0 : w4.cell? ⟨gb247, 0, none⟩ = some (.int .i64 a0_0) := (blk_cell BK247.out 0).trans rfl; have hcz5_1 : w4.cell? ⟨gb247, 1, none⟩ = some (.slice A0_1 l0_1.length c0_1) := (blk_cell BK247.out 1).trans rfl; have hfz5_0 := blk_frozen BK247.out 0; have hfz5_1 := blk_frozen BK247.out 1) | (go_at_call 23; (with_reducible refine (mapmakerref37_Check.calls k a0_0 _ _ l0_1 t248 _ ?side1 ?side2 A2.out).mono ?_); (case side1 => exact byC (Kd.C_below HR0_1.out HB.out)); (case side2 => exact HC0_1.out); rintro e w6 ⟨rfl, hb⟩; have n0_ := Aside0.mk (blk_below (g := gb247) (o := .cells #[.int .i64 a0_0, .slice A0_1 l0_1.length c0_1] 24 (0, 0)) (byK BK247.out) hb); have n1_ := Aside0.mk (below_step (byB1 HB.out GE247.out) hb); clear BK247 HB; have BK247 := n0_; have HB := n1_; clear n0_ n1_; (try clear hb); (try clear hb2); (try clear hk); (try clear hi)))
  repeat (go_quiet (first | ((with_reducible refine gate_dst (N := 1) rfl ?_); refine box_event ?hg (N := 1) ?hd (cs := #[.int .i64 a0_0, .slice A0_1 l0_1.length c0_1]) (t := 24) ?hr ?_; (case hd => rfl); (case hg => rfl); (case hr => first | (go_simp; done) | (go_simp; rfl)); intro gb247 hg w4 hbox hb; have n0_ := Aside0.mk (below_step (byB HB.out) hb); have n1_ := Aside0.mk (hbox); have n2_ := Aside0.mk ((by rw [hg]; exact (below_size (byB HB.out)) : w.heap.size ≤ gb247)); have n3_ := Aside0.mk ((by rw [hg]; exact (below_size (byB HB.out)) : w.heap.size ≤ gb247)); clear HB; have HB := n0_; have BK247 := n1_; have GW247 := n2_; have GE247 := n3_; clear n0_ n1_ n2_ n3_ hb hbox hg; have hcz5_0 : w4.cell? ⟨gb247, 0, none⟩ = some (.int .i64 a0_0) := (blk_cell BK247.out 0).trans rfl; have hcz5_1 : w4.cell? ⟨gb247, 1, none⟩ = some (.slice A0_1 l0_1.length c0_1) := (blk_cell BK247.out 1).trans rfl; have hfz5_0 := blk_frozen BK247.out 0; have hfz5_1 := blk_frozen BK247.out 1) | (go_at_call 23; (with_reducible refine (mapmakerref37_Check.calls k a0_0 _ _ l0_1 t248 _ ?side1 ?side2 A2.out).mono ?_); (case side1 => exact byC (Kd.C_below HR0_1.out HB.out)); (case side2 => exact HC0_1.out); rintro e w6 ⟨rfl, hb⟩; have n0_ := Aside0.mk (blk_below (g := gb247) (o := .cells #[.int .i64 a0_0, .slice A0_1 l0_1.length c0_1] 24 (0, 0)) (byK BK247.out) hb); have n1_ := Aside0.mk (below_step (byB1 HB.out GE247.out) hb); clear BK247 HB; have BK247 := n0_; have HB := n1_; clear n0_ n1_; (try clear hb); (try clear hb2); (try clear hk); (try clear hi))); try go_wp2_with (first | ((with_reducible refine gate_dst (N := 1) rfl ?_); refine box_event ?hg (N := 1) ?hd (cs := #[.int .i64 a0_0, .slice A0_1 l0_1.length c0_1]) (t := 24) ?hr ?_; (case hd => rfl); (case hg => rfl); (case hr => first | (go_simp; done) | (go_simp; rfl)); intro gb247 hg w4 hbox hb; have n0_ := Aside0.mk (below_step (byB HB.out) hb); have n1_ := Aside0.mk (hbox); have n2_ := Aside0.mk ((by rw [hg]; exact (below_size (byB HB.out)) : w.heap.size ≤ gb247)); have n3_ := Aside0.mk ((by rw [hg]; exact (below_size (byB HB.out)) : w.heap.size ≤ gb247)); clear HB; have HB := n0_; have BK247 := n1_; have GW247 := n2_; have GE247 := n3_; clear n0_ n1_ n2_ n3_ hb hbox hg; have hcz5_0 : w4.cell? ⟨gb247, 0, none⟩ = some (.int .i64 a0_0) := (blk_cell BK247.out 0).trans rfl; have hcz5_1 : w4.cell? ⟨gb247, 1, none⟩ = some (.slice A0_1 l0_1.length c0_1) := (blk_cell BK247.out 1).trans rfl; have hfz5_0 := blk_frozen BK247.out 0; have hfz5_1 := blk_frozen BK247.out 1) | (go_at_call 23; (with_reducible refine (mapmakerref37_Check.calls k a0_0 _ _ l0_1 t248 _ ?side1 ?side2 A2.out).mono ?_); (case side1 => exact byC (Kd.C_below HR0_1.out HB.out)); (case side2 => exact HC0_1.out); rintro e w6 ⟨rfl, hb⟩; have n0_ := Aside0.mk (blk_below (g := gb247) (o := .cells #[.int .i64 a0_0, .slice A0_1 l0_1.length c0_1] 24 (0, 0)) (byK BK247.out) hb); have n1_ := Aside0.mk (below_step (byB1 HB.out GE247.out) hb); clear BK247 HB; have BK247 := n0_; have HB := n1_; clear n0_ n1_; (try clear hb); (try clear hb2); (try clear hk); (try clear hi))))
  go_loopg [3, 4] k (fun kq v3 v4 w' => ∃ (x3_1 : List Int) (x4_1 : Int), v4 = .int .i64 x4_1 ∧ Aside0 (mapmakerref37_Parts.l0 kq x3_1 x4_1 a0_0 l0_1 = some r) ∧ Aside0 (kq ≤ k) ∧ Aside0 (Kd.R (Kd.int .i64) 3 w' w.heap.size (fun _ => True) v3 x3_1) ∧ Aside0 (w'.heap[gb247]? = some (.cells #[.int .i64 a0_0, (.slice A0_1 l0_1.length c0_1)] 24 (0, 0))) ∧ Aside0 (Below w.heap.size w w'))
  case atStart => exact ⟨(([] : List Int)), (0), (by first | rfl | (simp; done) | (simp [*]; done)), H', ⟨Nat.le_refl _⟩, ⟨by first | exact Kd.R_nil _ _ _ _ _ | exact Kd.N_nil _ _ _ _ _ | exact Kd.V_nil _ _ _ _ _ | exact Kd.Q_nil _ _ _ _ _ | exact Kd.S_nil _ _ _ _ _⟩, ⟨by (with_reducible repeat (first | refine blk_drewN ?_ _ | refine blk_drew ?_ | refine blk_alloc ?_ _)); exact BK247.out⟩, ⟨by repeat (first | (with_reducible first | exact HB.out | apply below_alloc | apply pw_below_drewN | apply below_drew1 | refine below_set ?_ GE247.out) | exact HB.out)⟩⟩
  case round =>
   clear H'
   try clear c2
   try clear p2
   try clear c3
   try clear c3b0
   try clear c3b1
   try clear hcz5_0
   try clear hcz5_1
   try clear hfz5_0
   try clear hfz5_1
   obtain ⟨x3_1, x4_1, rfl, HA, HK1, HO_3, BK247, HB⟩ := hrel
   cases gk with
   | zero => exact absurd HA.out (by simp [mapmakerref37_Parts.l0])
   | succ k1 =>
    have H := HA.out
    clear HA
    simp only [mapmakerref37_Parts.l0] at H
    by_cases c7 : x4_1 < a0_0
    ·rw [if_pos c7] at H
     have c7b0 : decide (x4_1 < a0_0) = true := decide_eq_true c7
     clear c7
     by_cases c8 : x3_1.length < 17592186044416
     ·rw [if_pos c8] at H
      have LMc8 := Aside0.mk c8
      clear c8
      obtain ⟨y249, hy249⟩ : ∃ y_ : List Int, y_ = (x3_1 ++ [x4_1]) := ⟨_, rfl⟩
      replace H : (mapmakerref37_Parts.l0 k1 y249 (wrap64 (x4_1 + 1)) a0_0 l0_1) = some r := by first | (rw [hy249]; with_reducible exact H) | (have H2_ := (Option.bind_some _ _).symm.trans H; rw [hy249]; with_reducible exact H2_) | (have H2_ := (Option.bind_some _ _).symm.trans H; with_reducible exact H2_) | with_reducible exact H | (rw [hy249]; exact H) | exact H
      have Ny249 := Aside0.mk hy249
      clear hy249
      have H' := Aside0.mk H
      clear H
      have hcz9_0 : wr.cell? ⟨gb247, 0, none⟩ = some (.int .i64 a0_0) := (blk_cell BK247.out 0).trans rfl
      have hcz9_1 : wr.cell? ⟨gb247, 1, none⟩ = some (.slice A0_1 l0_1.length c0_1) := (blk_cell BK247.out 1).trans rfl
      have hfz9_0 := blk_frozen BK247.out 0
      have hfz9_1 := blk_frozen BK247.out 1
      go_wp2_with (first | ((with_reducible refine gate_builtin (b := .append) (xs := #[.tmp 18, .tmp 20]) rfl ?_); at_builtin; refine Kd.R_append (Kd.int .i64) (w0 := w) w.heap.size rfl (.tmp 18) (.tmp 20) 31 3 (.int .i64 0) 8 rfl Try.underlying31 info3 rfl (by decide) (by omega) u3 x3_1 x4_1 [.int .i64 x4_1] (fun _ => True) (fun _ => False) rfl rfl ?aP (fun _ hk => hk.elim) ?aF ?aO ?aB ?aS ?aL ?_; (case aP => exact rfl); (case aB => exact (byB1 HB.out GE247.out)); (case aF => exact (fun _ _ => trivial)); (case aO => exact (byR HO_3.out)); (case aS => exact (below_size (byB1 HB.out GE247.out))); (case aL => have := LMc8.out; omega); intro v250 w10 ho hb hg hat; rw [← Ny249.out] at ho; have n0_ := Aside0.mk (blk_grown (g := gb247) (o := .cells #[.int .i64 a0_0, .slice A0_1 l0_1.length c0_1] 24 (0, 0)) (byK BK247.out) hg (Kd.R_ne HO_3.out BK247.out (by decide))); have n1_ := Aside0.mk (hb); have n2_ := Aside0.mk (ho); clear BK247 HB HO_3; have BK247 := n0_; have HB := n1_; have HO251 := n2_; clear n0_ n1_ n2_ ho hb hg hat))
      repeat (go_quiet (first | ((with_reducible refine gate_builtin (b := .append) (xs := #[.tmp 18, .tmp 20]) rfl ?_); at_builtin; refine Kd.R_append (Kd.int .i64) (w0 := w) w.heap.size rfl (.tmp 18) (.tmp 20) 31 3 (.int .i64 0) 8 rfl Try.underlying31 info3 rfl (by decide) (by omega) u3 x3_1 x4_1 [.int .i64 x4_1] (fun _ => True) (fun _ => False) rfl rfl ?aP (fun _ hk => hk.elim) ?aF ?aO ?aB ?aS ?aL ?_; (case aP => exact rfl); (case aB => exact (byB1 HB.out GE247.out)); (case aF => exact (fun _ _ => trivial)); (case aO => exact (byR HO_3.out)); (case aS => exact (below_size (byB1 HB.out GE247.out))); (case aL => have := LMc8.out; omega); intro v250 w10 ho hb hg hat; rw [← Ny249.out] at ho; have n0_ := Aside0.mk (blk_grown (g := gb247) (o := .cells #[.int .i64 a0_0, .slice A0_1 l0_1.length c0_1] 24 (0, 0)) (byK BK247.out) hg (Kd.R_ne HO_3.out BK247.out (by decide))); have n1_ := Aside0.mk (hb); have n2_ := Aside0.mk (ho); clear BK247 HB HO_3; have BK247 := n0_; have HB := n1_; have HO251 := n2_; clear n0_ n1_ n2_ ho hb hg hat)); try go_wp2_with (first | ((with_reducible refine gate_builtin (b := .append) (xs := #[.tmp 18, .tmp 20]) rfl ?_); at_builtin; refine Kd.R_append (Kd.int .i64) (w0 := w) w.heap.size rfl (.tmp 18) (.tmp 20) 31 3 (.int .i64 0) 8 rfl Try.underlying31 info3 rfl (by decide) (by omega) u3 x3_1 x4_1 [.int .i64 x4_1] (fun _ => True) (fun _ => False) rfl rfl ?aP (fun _ hk => hk.elim) ?aF ?aO ?aB ?aS ?aL ?_; (case aP => exact rfl); (case aB => exact (byB1 HB.out GE247.out)); (case aF => exact (fun _ _ => trivial)); (case aO => exact (byR HO_3.out)); (case aS => exact (below_size (byB1 HB.out GE247.out))); (case aL => have := LMc8.out; omega); intro v250 w10 ho hb hg hat; rw [← Ny249.out] at ho; have n0_ := Aside0.mk (blk_grown (g := gb247) (o := .cells #[.int .i64 a0_0, .slice A0_1 l0_1.length c0_1] 24 (0, 0)) (byK BK247.out) hg (Kd.R_ne HO_3.out BK247.out (by decide))); have n1_ := Aside0.mk (hb); have n2_ := Aside0.mk (ho); clear BK247 HB HO_3; have BK247 := n0_; have HB := n1_; have HO251 := n2_; clear n0_ n1_ n2_ ho hb hg hat)))
      go_roundg k1
      case measure => have := HK1.out; omega
      case rel => exact ⟨(y249), (wrap64 (x4_1 + 1)), (by first | rfl | (simp; done) | (simp [*]; done)), H', ⟨by have := HK1.out; omega⟩, ⟨by (with_reducible repeat (first | apply Kd.R_alloc | apply Kd.R_drewN | apply Kd.R_drew)); exact HO251.out⟩, ⟨by (with_reducible repeat (first | refine blk_drewN ?_ _ | refine blk_drew ?_ | refine blk_alloc ?_ _)); exact BK247.out⟩, ⟨by repeat (first | (with_reducible first | exact HB.out | apply below_alloc | apply pw_below_drewN | apply below_drew1 | refine below_set ?_ GE247.out) | exact HB.out)⟩⟩
     ·rw [if_neg c8] at H
      exact absurd H (by simp)
    ·rw [if_neg c7] at H
     have c7b0 : decide (x4_1 < a0_0) = false := decide_eq_false c7
     clear c7
     have H' := Aside0.mk H
     clear H
     have hcz11_0 : wr.cell? ⟨gb247, 0, none⟩ = some (.int .i64 a0_0) := (blk_cell BK247.out 0).trans rfl
     have hcz11_1 : wr.cell? ⟨gb247, 1, none⟩ = some (.slice A0_1 l0_1.length c0_1) := (blk_cell BK247.out 1).trans rfl
     have hfz11_0 := blk_frozen BK247.out 0
     have hfz11_1 := blk_frozen BK247.out 1
     go_wp2
     repeat (go_quiet (fail); try go_wp2)
     go_loopg [5] k1 (fun kq v5 w' => ∃ (x3_2 : List Int) (x5_2 : Int), v5 = .int .i64 x5_2 ∧ Aside0 (mapmakerref37_Parts.l1 kq x3_2 x5_2 a0_0 l0_1 = some r) ∧ Aside0 (kq ≤ k1) ∧ Aside0 (Kd.R (Kd.int .i64) 3 w' w.heap.size (fun _ => True) u3 x3_2) ∧ Aside0 (w'.heap[gb247]? = some (.cells #[.int .i64 a0_0, (.slice A0_1 l0_1.length c0_1)] 24 (0, 0))) ∧ Aside0 (Below w.heap.size w w'))
     case atStart => exact ⟨(x3_1), (0), (by first | rfl | (simp; done) | (simp [*]; done)), H', ⟨Nat.le_refl _⟩, ⟨by (with_reducible repeat (first | apply Kd.R_alloc | apply Kd.R_drewN | apply Kd.R_drew)); exact HO_3.out⟩, ⟨by (with_reducible repeat (first | refine blk_drewN ?_ _ | refine blk_drew ?_ | refine blk_alloc ?_ _)); exact BK247.out⟩, ⟨by repeat (first | (with_reducible first | exact HB.out | apply below_alloc | apply pw_below_drewN | apply below_drew1 | refine below_set ?_ GE247.out) | exact HB.out)⟩⟩
     case round =>
      clear H'
      try clear c2
      try clear p2
      try clear c3
      try clear c3b0
      try clear c3b1
      try clear p6
      try clear c7
      try clear c7b0
      try clear c8
      try clear hcz11_0
      try clear hcz11_1
      try clear hcz5_0
      try clear hcz5_1
      try clear hcz9_0
      try clear hcz9_1
      try clear hfz11_0
      try clear hfz11_1
      try clear hfz5_0
      try clear hfz5_1
      try clear hfz9_0
      try clear hfz9_1
      try clear p2
      obtain ⟨x3_2, x5_2, rfl, HA, HK2, HO_3, BK247, HB⟩ := hrel
      cases gk with
      | zero => exact absurd HA.out (by simp [mapmakerref37_Parts.l1])
      | succ k2 =>
       have H := HA.out
       clear HA
       simp only [mapmakerref37_Parts.l1] at H
       by_cases c12 : x5_2 < a0_0
       ·rw [if_pos c12] at H
        have c12b0 : decide (x5_2 < a0_0) = true := decide_eq_true c12
        clear c12
        have H' := Aside0.mk H
        clear H
        have hcz13_0 : wr.cell? ⟨gb247, 0, none⟩ = some (.int .i64 a0_0) := (blk_cell BK247.out 0).trans rfl
        have hcz13_1 : wr.cell? ⟨gb247, 1, none⟩ = some (.slice A0_1 l0_1.length c0_1) := (blk_cell BK247.out 1).trans rfl
        have hfz13_0 := blk_frozen BK247.out 0
        have hfz13_1 := blk_frozen BK247.out 1
        go_wp2
        repeat (go_quiet (fail); try go_wp2)
        go_loopg [6] k2 (fun kq v6 w' => ∃ (x3_3 : List Int) (x6_3 : Int), v6 = .int .i64 x6_3 ∧ Aside0 (mapmakerref37_Parts.l2 kq x3_3 x5_2 x6_3 a0_0 l0_1 = some r) ∧ Aside0 (kq ≤ k2) ∧ Aside0 (Kd.R (Kd.int .i64) 3 w' w.heap.size (fun _ => True) u3 x3_3) ∧ Aside0 (w'.heap[gb247]? = some (.cells #[.int .i64 a0_0, (.slice A0_1 l0_1.length c0_1)] 24 (0, 0))) ∧ Aside0 (Below w.heap.size w w'))
        case atStart => exact ⟨(x3_2), (0), (by first | rfl | (simp; done) | (simp [*]; done)), H', ⟨Nat.le_refl _⟩, ⟨by (with_reducible repeat (first | apply Kd.R_alloc | apply Kd.R_drewN | apply Kd.R_drew)); exact HO_3.out⟩, ⟨by (with_reducible repeat (first | refine blk_drewN ?_ _ | refine blk_drew ?_ | refine blk_alloc ?_ _)); exact BK247.out⟩, ⟨by repeat (first | (with_reducible first | exact HB.out | apply below_alloc | apply pw_below_drewN | apply below_drew1 | refine below_set ?_ GE247.out) | exact HB.out)⟩⟩
        case round =>
         clear H'
         try clear c1
         try clear c2
         try clear p2
         try clear c3
         try clear c3b0
         try clear c3b1
         try clear p6
         try clear c7
         try clear c7b0
         try clear c8
         try clear c12
         try clear c12b0
         try clear hcz11_0
         try clear hcz11_1
         try clear hcz13_0
         try clear hcz13_1
         try clear hcz5_0
         try clear hcz5_1
         try clear hcz9_0
         try clear hcz9_1
         try clear hfz11_0
         try clear hfz11_1
         try clear hfz13_0
         try clear hfz13_1
         try clear hfz5_0
         try clear hfz5_1
         try clear hfz9_0
         try clear hfz9_1
         try clear p2
         try clear p6
         obtain ⟨x3_3, x6_3, rfl, HA, HK3, HO_3, BK247, HB⟩ := hrel
         cases gk with
         | zero => exact absurd HA.out (by simp [mapmakerref37_Parts.l2])
         | succ k3 =>
          have H := HA.out
          clear HA
          simp only [mapmakerref37_Parts.l2] at H
          by_cases c14 : x6_3 < (l0_1.length : Int)
          ·rw [if_pos c14] at H
           have c14b0 : decide (x6_3 < (l0_1.length : Int)) = true := decide_eq_true c14
           clear c14
           by_cases c15 : 0 ≤ x6_3
           ·rw [if_pos c15] at H
            have c15b0 : decide (0 ≤ x6_3) = true := decide_eq_true c15
            clear c15
            by_cases c16 : 0 ≤ ((rd_T40 l0_1 x6_3).f0)
            ·rw [if_pos c16] at H
             have c16b0 : decide (0 ≤ ((rd_T40 l0_1 x6_3).f0)) = true := decide_eq_true c16
             clear c16
             by_cases c17 : ((rd_T40 l0_1 x6_3).f0) < (x3_3.length : Int)
             ·rw [if_pos c17] at H
              have c17b0 : decide (((rd_T40 l0_1 x6_3).f0) < (x3_3.length : Int)) = true := decide_eq_true c17
              clear c17
              by_cases c18 : 0 ≤ ((rd_T40 l0_1 x6_3).f1)
              ·rw [if_pos c18] at H
               have c18b0 : decide (0 ≤ ((rd_T40 l0_1 x6_3).f1)) = true := decide_eq_true c18
               clear c18
               by_cases c19 : ((rd_T40 l0_1 x6_3).f1) < (x3_3.length : Int)
               ·rw [if_pos c19] at H
                have c19b0 : decide (((rd_T40 l0_1 x6_3).f1) < (x3_3.length : Int)) = true := decide_eq_true c19
                clear c19
                obtain ⟨ji20, hji20⟩ : ∃ j_ : Int, (mn (rd x3_3 ((rd_T40 l0_1 x6_3).f0)) (rd x3_3 ((rd_T40 l0_1 x6_3).f1))) = j_ := ⟨_, rfl⟩
                replace H : (mapmakerref37_Parts.l2 k3 ((x3_3.set (((rd_T40 l0_1 x6_3).f0) : Int).toNat (ji20)).set (((rd_T40 l0_1 x6_3).f1) : Int).toNat (ji20)) x5_2 (wrap64 (x6_3 + 1)) a0_0 l0_1) = some r := by first | (rw [hji20] at H; exact H) | (simp only [hji20] at H ⊢; exact H)
                have hji20_ : (if (rd x3_3 ((rd_T40 l0_1 x6_3).f1)) < (rd x3_3 ((rd_T40 l0_1 x6_3).f0)) then (rd x3_3 ((rd_T40 l0_1 x6_3).f1)) else (rd x3_3 ((rd_T40 l0_1 x6_3).f0))) = ji20 := hji20
                obtain ⟨y256, hy256⟩ : ∃ y_ : List Int, y_ = (x3_3.set (((rd_T40 l0_1 x6_3).f0) : Int).toNat (ji20)) := ⟨_, rfl⟩
                replace H : (mapmakerref37_Parts.l2 k3 (y256.set (((rd_T40 l0_1 x6_3).f1) : Int).toNat (ji20)) x5_2 (wrap64 (x6_3 + 1)) a0_0 l0_1) = some r := by first | (rw [hy256]; with_reducible exact H) | (have H2_ := (Option.bind_some _ _).symm.trans H; rw [hy256]; with_reducible exact H2_) | (have H2_ := (Option.bind_some _ _).symm.trans H; with_reducible exact H2_) | with_reducible exact H | (rw [hy256]; exact H) | exact H
                have Ny256 := Aside0.mk hy256
                clear hy256
                obtain ⟨y257, hy257⟩ : ∃ y_ : List Int, y_ = (y256.set (((rd_T40 l0_1 x6_3).f1) : Int).toNat (ji20)) := ⟨_, rfl⟩
                replace H : (mapmakerref37_Parts.l2 k3 y257 x5_2 (wrap64 (x6_3 + 1)) a0_0 l0_1) = some r := by first | (rw [hy257]; with_reducible exact H) | (have H2_ := (Option.bind_some _ _).symm.trans H; rw [hy257]; with_reducible exact H2_) | (have H2_ := (Option.bind_some _ _).symm.trans H; with_reducible exact H2_) | with_reducible exact H | (rw [hy257]; exact H) | exact H
                have Ny257 := Aside0.mk hy257
                clear hy257
                have H' := Aside0.mk H
                clear H
                have hcz23_0 : wr.cell? ⟨gb247, 0, none⟩ = some (.int .i64 a0_0) := (blk_cell BK247.out 0).trans rfl
                have hcz23_1 : wr.cell? ⟨gb247, 1, none⟩ = some (.slice A0_1 l0_1.length c0_1) := (blk_cell BK247.out 1).trans rfl
                have hfz23_0 := blk_frozen BK247.out 0
                have hfz23_1 := blk_frozen BK247.out 1
                have p252 : 0 ≤ (x6_3 : Int) := of_decide_eq_true (by first | (with_reducible assumption) | assumption)
                have q252 : x6_3 < (l0_1.length : Int) := of_decide_eq_true (by first | (with_reducible assumption) | assumption)
                obtain ⟨ad252, e252, hx252_0, hx252_1⟩ := at_T40 HR0_1.out x6_3 p252 q252
                cases e252
                replace hx252_0 := (HB.out.cell (World.block_lt_of_cell? w _ hx252_0)).trans hx252_0
                replace hx252_1 := (HB.out.cell (World.block_lt_of_cell? w _ hx252_1)).trans hx252_1
                replace p252 := eq_true p252
                replace q252 := eq_true q252
                go_wp2_with (first | ((with_reducible refine gate_dst (N := 7) rfl ?_); refine box_event ?hg (N := 7) ?hd (cs := #[.int .i64 0, .int .i64 0]) (t := 40) ?hr ?_; (case hd => rfl); (case hg => rfl); (case hr => first | (go_simp; done) | (go_simp; rfl)); intro gb253 hg w24 hbox hb; have n0_ := Aside0.mk (Kd.R_below (byR HO_3.out) hb); have n1_ := Aside0.mk (blk_below (g := gb247) (o := .cells #[.int .i64 a0_0, .slice (some ad252) l0_1.length c0_1] 24 (0, 0)) (byK BK247.out) hb); have n2_ := Aside0.mk (below_step (byB1 HB.out GE247.out) hb); have n3_ := Aside0.mk (hbox); have n4_ := Aside0.mk ((by rw [hg]; exact (below_size (byB1 HB.out GE247.out)) : w.heap.size ≤ gb253)); have n5_ := Aside0.mk ((by rw [hg]; exact (below_size (byB1 HB.out GE247.out)) : w.heap.size ≤ gb253)); have n6_ := Aside0.mk ((by rw [hg]; exact Nat.ne_of_lt (blk_lt (g := gb247) (o := .cells #[.int .i64 a0_0, .slice (some ad252) l0_1.length c0_1] 24 (0, 0)) (byK BK247.out)) : gb247 ≠ gb253)); have n7_ := Aside0.mk ((by rw [hg]; exact Nat.ne_of_gt (blk_lt (g := gb247) (o := .cells #[.int .i64 a0_0, .slice (some ad252) l0_1.length c0_1] 24 (0, 0)) (byK BK247.out)) : gb253 ≠ gb247)); clear HO_3 BK247 HB; have HO_3 := n0_; have BK247 := n1_; have HB := n2_; have BK253 := n3_; have GW253 := n4_; have GE253 := n5_; have NB247_253 := n6_; have NB253_247 := n7_; clear n0_ n1_ n2_ n3_ n4_ n5_ n6_ n7_ hb hbox hg; have hnb25 := NB253_247.out; have hnc25 := NB247_253.out; have hcz26_0 : w24.cell? ⟨gb253, 0, none⟩ = some (.int .i64 0) := (blk_cell BK253.out 0).trans rfl; have hcz26_1 : w24.cell? ⟨gb253, 1, none⟩ = some (.int .i64 0) := (blk_cell BK253.out 1).trans rfl; have hfz26_0 := blk_frozen BK253.out 0; have hfz26_1 := blk_frozen BK253.out 1) | ((with_reducible refine gate_store (t := 40) (p := 7) rfl ?_); (try (rw [drewN_self w24]; generalize hq_ : World.drewN w24 _ = w24; have n0_ := Aside0.mk (Kd.R_at hq_ HO_3.out); have n1_ := Aside0.mk (blk_at hq_ BK247.out); have n2_ := Aside0.mk (blk_at hq_ BK253.out); have n3_ := Aside0.mk (below_at hq_ HB.out); clear hq_ HO_3 BK247 BK253 HB; have HO_3 := n0_; have BK247 := n1_; have BK253 := n2_; have HB := n3_; clear n0_ n1_ n2_ n3_)); refine store_event (t := 40) (p := 7) (v := ?vo_w27) (w1 := ((w24.setCell ⟨gb253, 0, none⟩ (.int .i64 ((rd_T40 l0_1 x6_3).f0))).setCell ⟨gb253, 1, none⟩ (.int .i64 ((rd_T40 l0_1 x6_3).f1)))) ?hg ?ho ?hn ?hr ?_; (case ho => rfl); (case hg => rfl); (case hn => rfl); (case hr => first | (go_simp; done) | (go_simp; rfl)); intro w27 hw; have n0_ : Aside0 (Kd.R (Kd.int .i64) 3 w27 w.heap.size (fun _ => True) u3 x3_3) := ⟨(by rw [hw]; exact (by (with_reducible repeat (first | apply Kd.R_alloc | apply Kd.R_drewN | apply Kd.R_drew)); exact Kd.R_mono (Kd.R_far (p := ⟨gb253, 1, none⟩) (Kd.R_far (p := ⟨gb253, 0, none⟩) (Kd.R_types HO_3.out BK253.out (by decide)) (fun _ hk => hk.2) (.int .i64 ((rd_T40 l0_1 x6_3).f0))) (fun _ hk => hk.2) (.int .i64 ((rd_T40 l0_1 x6_3).f1))) (fun _ hk => trivial)))⟩; have n1_ : Aside0 (w27.heap[gb247]? = some (.cells #[.int .i64 a0_0, .slice (some ad252) l0_1.length c0_1] 24 (0, 0))) := ⟨(by rw [hw]; exact (by (with_reducible repeat (first | refine blk_drewN ?_ _ | refine blk_drew ?_ | refine blk_alloc ?_ _)); refine blk_far ?_ NB247_253.out _; (with_reducible repeat (first | refine blk_drewN ?_ _ | refine blk_drew ?_ | refine blk_alloc ?_ _)); refine blk_far ?_ NB247_253.out _; (with_reducible repeat (first | refine blk_drewN ?_ _ | refine blk_drew ?_ | refine blk_alloc ?_ _)); exact BK247.out))⟩; have n2_ : Aside0 (w27.heap[gb253]? = some (.cells #[.int .i64 ((rd_T40 l0_1 x6_3).f0), .int .i64 ((rd_T40 l0_1 x6_3).f1)] 40 (0, 0))) := ⟨(by rw [hw]; exact (by (with_reducible repeat (first | refine blk_drewN ?_ _ | refine blk_drew ?_ | refine blk_alloc ?_ _)); refine blk_put (cs := #[.int .i64 ((rd_T40 l0_1 x6_3).f0), .int .i64 0]) ?_ 1 _ rfl; (with_reducible repeat (first | refine blk_drewN ?_ _ | refine blk_drew ?_ | refine blk_alloc ?_ _)); refine blk_put (cs := #[.int .i64 0, .int .i64 0]) ?_ 0 _ rfl; (with_reducible repeat (first | refine blk_drewN ?_ _ | refine blk_drew ?_ | refine blk_alloc ?_ _)); exact BK253.out))⟩; have n3_ : Aside0 (Below w.heap.size w w27) := ⟨(by rw [hw]; exact (byB2 HB.out GE247.out GE253.out))⟩; clear hw HO_3 BK247 BK253 HB; have HO_3 := n0_; have BK247 := n1_; have BK253 := n2_; have HB := n3_; clear n0_ n1_ n2_ n3_; have hcz28_0 : w27.cell? ⟨gb253, 0, none⟩ = some (.int .i64 ((rd_T40 l0_1 x6_3).f0)) := (blk_cell BK253.out 0).trans rfl; have hcz28_1 : w27.cell? ⟨gb253, 1, none⟩ = some (.int .i64 ((rd_T40 l0_1 x6_3).f1)) := (blk_cell BK253.out 1).trans rfl; have hfz28_0 := blk_frozen BK253.out 0; have hfz28_1 := blk_frozen BK253.out 1; obtain ⟨Ao29, co29, eo29⟩ := Kd.R_slice HO_3.out; subst eo29; have p254 : 0 ≤ (((rd_T40 l0_1 x6_3).f0) : Int) := of_decide_eq_true (by first | (with_reducible assumption) | assumption); have q254 : ((rd_T40 l0_1 x6_3).f0) < (x3_3.length : Int) := of_decide_eq_true (by first | (with_reducible assumption) | assumption); obtain ⟨ad254, e254, hx254_0⟩ := Kd.at_int (Kd.R_reads' HO_3.out).2.2 ((rd_T40 l0_1 x6_3).f0) p254 q254; cases e254; replace p254 := eq_true p254; replace q254 := eq_true q254; have p255 : 0 ≤ (((rd_T40 l0_1 x6_3).f1) : Int) := of_decide_eq_true (by first | (with_reducible assumption) | assumption); have q255 : ((rd_T40 l0_1 x6_3).f1) < (x3_3.length : Int) := of_decide_eq_true (by first | (with_reducible assumption) | assumption); obtain ⟨ad255, e255, hx255_0⟩ := Kd.at_int (Kd.R_reads' HO_3.out).2.2 ((rd_T40 l0_1 x6_3).f1) p255 q255; obtain rfl : ad254 = ad255 := (by injection e255); replace p255 := eq_true p255; replace q255 := eq_true q255; have p21 : 0 ≤ (((rd_T40 l0_1 x6_3).f0) : Int) := of_decide_eq_true (by first | (with_reducible assumption) | assumption); have q21 : (((rd_T40 l0_1 x6_3).f0) : Int) < ((x3_3.length : Int) : Int) := of_decide_eq_true (by first | (with_reducible assumption) | assumption); obtain ⟨go21, co21, eo21, gb21, gl21, cl21, HG21⟩ := Kd.R_form HO_3.out (by omega); (first | cases eo21 | (injection eo21 with ea_ en_ ec_; (first | subst ea_ | (injection ea_ with ea_; subst ea_)); subst ec_; clear en_)); have GB21 := Aside0.mk gb21; have GG21 := Aside0.mk HG21; clear gb21 gl21 HG21; (first | simp only [add_plain] at hx254_0 | skip); (first | simp only [add_plain] at hx255_0 | skip); obtain ⟨hx21_0, hf21_0⟩ := Kd.R_celln 0 HO_3.out (((rd_T40 l0_1 x6_3).f0) : Int) p21 q21; replace p21 := eq_true p21; replace q21 := eq_true q21; obtain ⟨hy30_, hz30_⟩ := Kd.R_celln 0 HO_3.out (((rd_T40 l0_1 x6_3).f0) : Int) (of_decide_eq_true (by first | (with_reducible assumption) | assumption)) (of_decide_eq_true (by first | (with_reducible assumption) | assumption)); have HP30 := Kd.R_putg HO_3.out (((rd_T40 l0_1 x6_3).f0) : Int) ji20) | ((with_reducible refine gate_store (t := 3) (p := 55) rfl ?_); (try (rw [drewN_self w27]; generalize hq_ : World.drewN w27 _ = w27; have n0_ := Aside0.mk (Kd.R_at hq_ HO_3.out); have n1_ := Aside0.mk (blk_at hq_ BK247.out); have n2_ := Aside0.mk (blk_at hq_ BK253.out); have n3_ := Aside0.mk (below_at hq_ HB.out); clear hq_ HO_3 BK247 BK253 HB; have HO_3 := n0_; have BK247 := n1_; have BK253 := n2_; have HB := n3_; clear n0_ n1_ n2_ n3_; (try (obtain ⟨hy30_, hz30_⟩ := Kd.R_celln 0 HO_3.out (((rd_T40 l0_1 x6_3).f0) : Int) (of_decide_eq_true (by first | (with_reducible assumption) | assumption)) (of_decide_eq_true (by first | (with_reducible assumption) | assumption)))); (try (have HP30 := Kd.R_putg HO_3.out (((rd_T40 l0_1 x6_3).f0) : Int) ji20)))); refine store_event (t := 3) (p := 55) (v := ?vo_w31) (w1 := (w27.setCell ⟨go21, (((rd_T40 l0_1 x6_3).f0) : Int).toNat, none⟩ (.int .i64 ji20))) ?hg ?ho ?hn ?hr ?_; (case ho => rfl); (case hg => rfl); (case hn => rfl); (case hr => first | (go_simp; done) | (go_simp; rfl)); intro w31 hw; have hg : w27.grownBy w31 (some go21) := (by rw [hw]; exact HP30.2); have hp_ : Kd.R (Kd.int .i64) 3 w31 w.heap.size (fun _ => True) (.slice (some ⟨go21, 0, none⟩) x3_3.length co29) y256 := (by rw [hw, Ny256.out]; exact HP30.1); clear HP30; have n0_ := Aside0.mk (hp_); have n1_ := Aside0.mk (blk_grown (g := gb247) (o := .cells #[.int .i64 a0_0, .slice (some ad252) l0_1.length c0_1] 24 (0, 0)) (byK BK247.out) hg (Kd.R_ne HO_3.out BK247.out (by decide))); have n2_ := Aside0.mk (blk_grown (g := gb253) (o := .cells #[.int .i64 ((rd_T40 l0_1 x6_3).f0), .int .i64 ((rd_T40 l0_1 x6_3).f1)] 40 (0, 0)) (byK BK253.out) hg (Kd.R_ne HO_3.out BK253.out (by decide))); have n3_ := Aside0.mk ((by rw [hw]; exact below_set (HB.out) GB21.out : Below w.heap.size w w31)); clear HO_3 BK247 BK253 HB; have HO_3 := n0_; have BK247 := n1_; have BK253 := n2_; have HB := n3_; clear n0_ n1_ n2_ n3_ hg hw hp_; have hcz32_0 : w31.cell? ⟨gb253, 0, none⟩ = some (.int .i64 ((rd_T40 l0_1 x6_3).f0)) := (blk_cell BK253.out 0).trans rfl; have hcz32_1 : w31.cell? ⟨gb253, 1, none⟩ = some (.int .i64 ((rd_T40 l0_1 x6_3).f1)) := (blk_cell BK253.out 1).trans rfl; have hfz32_0 := blk_frozen BK253.out 0; have hfz32_1 := blk_frozen BK253.out 1; have p22 : 0 ≤ (((rd_T40 l0_1 x6_3).f1) : Int) := of_decide_eq_true (by first | (with_reducible assumption) | assumption); have q22 : (((rd_T40 l0_1 x6_3).f1) : Int) < ((x3_3.length : Int) : Int) := of_decide_eq_true (by first | (with_reducible assumption) | assumption); obtain ⟨hx22_0, hf22_0⟩ := Kd.R_celln 0 HO_3.out (((rd_T40 l0_1 x6_3).f1) : Int) p22 q22; replace p22 := eq_true p22; replace q22 := eq_true q22; obtain ⟨hy33_, hz33_⟩ := Kd.R_celln 0 HO_3.out (((rd_T40 l0_1 x6_3).f1) : Int) (of_decide_eq_true (by first | (with_reducible assumption) | assumption)) (of_decide_eq_true (by first | (with_reducible assumption) | assumption)); have HP33 := Kd.R_putg HO_3.out (((rd_T40 l0_1 x6_3).f1) : Int) ji20) | ((with_reducible refine gate_store (t := 3) (p := 60) rfl ?_); (try (rw [drewN_self w31]; generalize hq_ : World.drewN w31 _ = w31; have n0_ := Aside0.mk (Kd.R_at hq_ HO_3.out); have n1_ := Aside0.mk (blk_at hq_ BK247.out); have n2_ := Aside0.mk (blk_at hq_ BK253.out); have n3_ := Aside0.mk (below_at hq_ HB.out); clear hq_ HO_3 BK247 BK253 HB; have HO_3 := n0_; have BK247 := n1_; have BK253 := n2_; have HB := n3_; clear n0_ n1_ n2_ n3_; (try (obtain ⟨hy33_, hz33_⟩ := Kd.R_celln 0 HO_3.out (((rd_T40 l0_1 x6_3).f1) : Int) (of_decide_eq_true (by first | (with_reducible assumption) | assumption)) (of_decide_eq_true (by first | (with_reducible assumption) | assumption)))); (try (have HP33 := Kd.R_putg HO_3.out (((rd_T40 l0_1 x6_3).f1) : Int) ji20)))); refine store_event (t := 3) (p := 60) (v := ?vo_w34) (w1 := (w31.setCell ⟨go21, (((rd_T40 l0_1 x6_3).f1) : Int).toNat, none⟩ (.int .i64 ji20))) ?hg ?ho ?hn ?hr ?_; (case ho => rfl); (case hg => rfl); (case hn => rfl); (case hr => first | (go_simp; done) | (go_simp; rfl)); intro w34 hw; have hg : w31.grownBy w34 (some go21) := (by rw [hw]; exact HP33.2); have hp_ : Kd.R (Kd.int .i64) 3 w34 w.heap.size (fun _ => True) (.slice (some ⟨go21, 0, none⟩) x3_3.length co29) y257 := (by rw [hw, Ny257.out]; exact HP33.1); clear HP33; have n0_ := Aside0.mk (hp_); have n1_ := Aside0.mk (blk_grown (g := gb247) (o := .cells #[.int .i64 a0_0, .slice (some ad252) l0_1.length c0_1] 24 (0, 0)) (byK BK247.out) hg (Kd.R_ne HO_3.out BK247.out (by decide))); have n2_ := Aside0.mk (blk_grown (g := gb253) (o := .cells #[.int .i64 ((rd_T40 l0_1 x6_3).f0), .int .i64 ((rd_T40 l0_1 x6_3).f1)] 40 (0, 0)) (byK BK253.out) hg (Kd.R_ne HO_3.out BK253.out (by decide))); have n3_ := Aside0.mk ((by rw [hw]; exact below_set (HB.out) GB21.out : Below w.heap.size w w34)); clear HO_3 BK247 BK253 HB; have HO_3 := n0_; have BK247 := n1_; have BK253 := n2_; have HB := n3_; clear n0_ n1_ n2_ n3_ hg hw hp_))
                repeat (go_quiet (first | ((with_reducible refine gate_dst (N := 7) rfl ?_); refine box_event ?hg (N := 7) ?hd (cs := #[.int .i64 0, .int .i64 0]) (t := 40) ?hr ?_; (case hd => rfl); (case hg => rfl); (case hr => first | (go_simp; done) | (go_simp; rfl)); intro gb253 hg w24 hbox hb; have n0_ := Aside0.mk (Kd.R_below (byR HO_3.out) hb); have n1_ := Aside0.mk (blk_below (g := gb247) (o := .cells #[.int .i64 a0_0, .slice (some ad252) l0_1.length c0_1] 24 (0, 0)) (byK BK247.out) hb); have n2_ := Aside0.mk (below_step (byB1 HB.out GE247.out) hb); have n3_ := Aside0.mk (hbox); have n4_ := Aside0.mk ((by rw [hg]; exact (below_size (byB1 HB.out GE247.out)) : w.heap.size ≤ gb253)); have n5_ := Aside0.mk ((by rw [hg]; exact (below_size (byB1 HB.out GE247.out)) : w.heap.size ≤ gb253)); have n6_ := Aside0.mk ((by rw [hg]; exact Nat.ne_of_lt (blk_lt (g := gb247) (o := .cells #[.int .i64 a0_0, .slice (some ad252) l0_1.length c0_1] 24 (0, 0)) (byK BK247.out)) : gb247 ≠ gb253)); have n7_ := Aside0.mk ((by rw [hg]; exact Nat.ne_of_gt (blk_lt (g := gb247) (o := .cells #[.int .i64 a0_0, .slice (some ad252) l0_1.length c0_1] 24 (0, 0)) (byK BK247.out)) : gb253 ≠ gb247)); clear HO_3 BK247 HB; have HO_3 := n0_; have BK247 := n1_; have HB := n2_; have BK253 := n3_; have GW253 := n4_; have GE253 := n5_; have NB247_253 := n6_; have NB253_247 := n7_; clear n0_ n1_ n2_ n3_ n4_ n5_ n6_ n7_ hb hbox hg; have hnb25 := NB253_247.out; have hnc25 := NB247_253.out; have hcz26_0 : w24.cell? ⟨gb253, 0, none⟩ = some (.int .i64 0) := (blk_cell BK253.out 0).trans rfl; have hcz26_1 : w24.cell? ⟨gb253, 1, none⟩ = some (.int .i64 0) := (blk_cell BK253.out 1).trans rfl; have hfz26_0 := blk_frozen BK253.out 0; have hfz26_1 := blk_frozen BK253.out 1) | ((with_reducible refine gate_store (t := 40) (p := 7) rfl ?_); (try (rw [drewN_self w24]; generalize hq_ : World.drewN w24 _ = w24; have n0_ := Aside0.mk (Kd.R_at hq_ HO_3.out); have n1_ := Aside0.mk (blk_at hq_ BK247.out); have n2_ := Aside0.mk (blk_at hq_ BK253.out); have n3_ := Aside0.mk (below_at hq_ HB.out); clear hq_ HO_3 BK247 BK253 HB; have HO_3 := n0_; have BK247 := n1_; have BK253 := n2_; have HB := n3_; clear n0_ n1_ n2_ n3_)); refine store_event (t := 40) (p := 7) (v := ?vo_w27) (w1 := ((w24.setCell ⟨gb253, 0, none⟩ (.int .i64 ((rd_T40 l0_1 x6_3).f0))).setCell ⟨gb253, 1, none⟩ (.int .i64 ((rd_T40 l0_1 x6_3).f1)))) ?hg ?ho ?hn ?hr ?_; (case ho => rfl); (case hg => rfl); (case hn => rfl); (case hr => first | (go_simp; done) | (go_simp; rfl)); intro w27 hw; have n0_ : Aside0 (Kd.R (Kd.int .i64) 3 w27 w.heap.size (fun _ => True) u3 x3_3) := ⟨(by rw [hw]; exact (by (with_reducible repeat (first | apply Kd.R_alloc | apply Kd.R_drewN | apply Kd.R_drew)); exact Kd.R_mono (Kd.R_far (p := ⟨gb253, 1, none⟩) (Kd.R_far (p := ⟨gb253, 0, none⟩) (Kd.R_types HO_3.out BK253.out (by decide)) (fun _ hk => hk.2) (.int .i64 ((rd_T40 l0_1 x6_3).f0))) (fun _ hk => hk.2) (.int .i64 ((rd_T40 l0_1 x6_3).f1))) (fun _ hk => trivial)))⟩; have n1_ : Aside0 (w27.heap[gb247]? = some (.cells #[.int .i64 a0_0, .slice (some ad252) l0_1.length c0_1] 24 (0, 0))) := ⟨(by rw [hw]; exact (by (with_reducible repeat (first | refine blk_drewN ?_ _ | refine blk_drew ?_ | refine blk_alloc ?_ _)); refine blk_far ?_ NB247_253.out _; (with_reducible repeat (first | refine blk_drewN ?_ _ | refine blk_drew ?_ | refine blk_alloc ?_ _)); refine blk_far ?_ NB247_253.out _; (with_reducible repeat (first | refine blk_drewN ?_ _ | refine blk_drew ?_ | refine blk_alloc ?_ _)); exact BK247.out))⟩; have n2_ : Aside0 (w27.heap[gb253]? = some (.cells #[.int .i64 ((rd_T40 l0_1 x6_3).f0), .int .i64 ((rd_T40 l0_1 x6_3).f1)] 40 (0, 0))) := ⟨(by rw [hw]; exact (by (with_reducible repeat (first | refine blk_drewN ?_ _ | refine blk_drew ?_ | refine blk_alloc ?_ _)); refine blk_put (cs := #[.int .i64 ((rd_T40 l0_1 x6_3).f0), .int .i64 0]) ?_ 1 _ rfl; (with_reducible repeat (first | refine blk_drewN ?_ _ | refine blk_drew ?_ | refine blk_alloc ?_ _)); refine blk_put (cs := #[.int .i64 0, .int .i64 0]) ?_ 0 _ rfl; (with_reducible repeat (first | refine blk_drewN ?_ _ | refine blk_drew ?_ | refine blk_alloc ?_ _)); exact BK253.out))⟩; have n3_ : Aside0 (Below w.heap.size w w27) := ⟨(by rw [hw]; exact (byB2 HB.out GE247.out GE253.out))⟩; clear hw HO_3 BK247 BK253 HB; have HO_3 := n0_; have BK247 := n1_; have BK253 := n2_; have HB := n3_; clear n0_ n1_ n2_ n3_; have hcz28_0 : w27.cell? ⟨gb253, 0, none⟩ = some (.int .i64 ((rd_T40 l0_1 x6_3).f0)) := (blk_cell BK253.out 0).trans rfl; have hcz28_1 : w27.cell? ⟨gb253, 1, none⟩ = some (.int .i64 ((rd_T40 l0_1 x6_3).f1)) := (blk_cell BK253.out 1).trans rfl; have hfz28_0 := blk_frozen BK253.out 0; have hfz28_1 := blk_frozen BK253.out 1; obtain ⟨Ao29, co29, eo29⟩ := Kd.R_slice HO_3.out; subst eo29; have p254 : 0 ≤ (((rd_T40 l0_1 x6_3).f0) : Int) := of_decide_eq_true (by first | (with_reducible assumption) | assumption); have q254 : ((rd_T40 l0_1 x6_3).f0) < (x3_3.length : Int) := of_decide_eq_true (by first | (with_reducible assumption) | assumption); obtain ⟨ad254, e254, hx254_0⟩ := Kd.at_int (Kd.R_reads' HO_3.out).2.2 ((rd_T40 l0_1 x6_3).f0) p254 q254; cases e254; replace p254 := eq_true p254; replace q254 := eq_true q254; have p255 : 0 ≤ (((rd_T40 l0_1 x6_3).f1) : Int) := of_decide_eq_true (by first | (with_reducible assumption) | assumption); have q255 : ((rd_T40 l0_1 x6_3).f1) < (x3_3.length : Int) := of_decide_eq_true (by first | (with_reducible assumption) | assumption); obtain ⟨ad255, e255, hx255_0⟩ := Kd.at_int (Kd.R_reads' HO_3.out).2.2 ((rd_T40 l0_1 x6_3).f1) p255 q255; obtain rfl : ad254 = ad255 := (by injection e255); replace p255 := eq_true p255; replace q255 := eq_true q255; have p21 : 0 ≤ (((rd_T40 l0_1 x6_3).f0) : Int) := of_decide_eq_true (by first | (with_reducible assumption) | assumption); have q21 : (((rd_T40 l0_1 x6_3).f0) : Int) < ((x3_3.length : Int) : Int) := of_decide_eq_true (by first | (with_reducible assumption) | assumption); obtain ⟨go21, co21, eo21, gb21, gl21, cl21, HG21⟩ := Kd.R_form HO_3.out (by omega); (first | cases eo21 | (injection eo21 with ea_ en_ ec_; (first | subst ea_ | (injection ea_ with ea_; subst ea_)); subst ec_; clear en_)); have GB21 := Aside0.mk gb21; have GG21 := Aside0.mk HG21; clear gb21 gl21 HG21; (first | simp only [add_plain] at hx254_0 | skip); (first | simp only [add_plain] at hx255_0 | skip); obtain ⟨hx21_0, hf21_0⟩ := Kd.R_celln 0 HO_3.out (((rd_T40 l0_1 x6_3).f0) : Int) p21 q21; replace p21 := eq_true p21; replace q21 := eq_true q21; obtain ⟨hy30_, hz30_⟩ := Kd.R_celln 0 HO_3.out (((rd_T40 l0_1 x6_3).f0) : Int) (of_decide_eq_true (by first | (with_reducible assumption) | assumption)) (of_decide_eq_true (by first | (with_reducible assumption) | assumption)); have HP30 := Kd.R_putg HO_3.out (((rd_T40 l0_1 x6_3).f0) : Int) ji20) | ((with_reducible refine gate_store (t := 3) (p := 55) rfl ?_); (try (rw [drewN_self w27]; generalize hq_ : World.drewN w27 _ = w27; have n0_ := Aside0.mk (Kd.R_at hq_ HO_3.out); have n1_ := Aside0.mk (blk_at hq_ BK247.out); have n2_ := Aside0.mk (blk_at hq_ BK253.out); have n3_ := Aside0.mk (below_at hq_ HB.out); clear hq_ HO_3 BK247 BK253 HB; have HO_3 := n0_; have BK247 := n1_; have BK253 := n2_; have HB := n3_; clear n0_ n1_ n2_ n3_; (try (obtain ⟨hy30_, hz30_⟩ := Kd.R_celln 0 HO_3.out (((rd_T40 l0_1 x6_3).f0) : Int) (of_decide_eq_true (by first | (with_reducible assumption) | assumption)) (of_decide_eq_true (by first | (with_reducible assumption) | assumption)))); (try (have HP30 := Kd.R_putg HO_3.out (((rd_T40 l0_1 x6_3).f0) : Int) ji20)))); refine store_event (t := 3) (p := 55) (v := ?vo_w31) (w1 := (w27.setCell ⟨go21, (((rd_T40 l0_1 x6_3).f0) : Int).toNat, none⟩ (.int .i64 ji20))) ?hg ?ho ?hn ?hr ?_; (case ho => rfl); (case hg => rfl); (case hn => rfl); (case hr => first | (go_simp; done) | (go_simp; rfl)); intro w31 hw; have hg : w27.grownBy w31 (some go21) := (by rw [hw]; exact HP30.2); have hp_ : Kd.R (Kd.int .i64) 3 w31 w.heap.size (fun _ => True) (.slice (some ⟨go21, 0, none⟩) x3_3.length co29) y256 := (by rw [hw, Ny256.out]; exact HP30.1); clear HP30; have n0_ := Aside0.mk (hp_); have n1_ := Aside0.mk (blk_grown (g := gb247) (o := .cells #[.int .i64 a0_0, .slice (some ad252) l0_1.length c0_1] 24 (0, 0)) (byK BK247.out) hg (Kd.R_ne HO_3.out BK247.out (by decide))); have n2_ := Aside0.mk (blk_grown (g := gb253) (o := .cells #[.int .i64 ((rd_T40 l0_1 x6_3).f0), .int .i64 ((rd_T40 l0_1 x6_3).f1)] 40 (0, 0)) (byK BK253.out) hg (Kd.R_ne HO_3.out BK253.out (by decide))); have n3_ := Aside0.mk ((by rw [hw]; exact below_set (HB.out) GB21.out : Below w.heap.size w w31)); clear HO_3 BK247 BK253 HB; have HO_3 := n0_; have BK247 := n1_; have BK253 := n2_; have HB := n3_; clear n0_ n1_ n2_ n3_ hg hw hp_; have hcz32_0 : w31.cell? ⟨gb253, 0, none⟩ = some (.int .i64 ((rd_T40 l0_1 x6_3).f0)) := (blk_cell BK253.out 0).trans rfl; have hcz32_1 : w31.cell? ⟨gb253, 1, none⟩ = some (.int .i64 ((rd_T40 l0_1 x6_3).f1)) := (blk_cell BK253.out 1).trans rfl; have hfz32_0 := blk_frozen BK253.out 0; have hfz32_1 := blk_frozen BK253.out 1; have p22 : 0 ≤ (((rd_T40 l0_1 x6_3).f1) : Int) := of_decide_eq_true (by first | (with_reducible assumption) | assumption); have q22 : (((rd_T40 l0_1 x6_3).f1) : Int) < ((x3_3.length : Int) : Int) := of_decide_eq_true (by first | (with_reducible assumption) | assumption); obtain ⟨hx22_0, hf22_0⟩ := Kd.R_celln 0 HO_3.out (((rd_T40 l0_1 x6_3).f1) : Int) p22 q22; replace p22 := eq_true p22; replace q22 := eq_true q22; obtain ⟨hy33_, hz33_⟩ := Kd.R_celln 0 HO_3.out (((rd_T40 l0_1 x6_3).f1) : Int) (of_decide_eq_true (by first | (with_reducible assumption) | assumption)) (of_decide_eq_true (by first | (with_reducible assumption) | assumption)); have HP33 := Kd.R_putg HO_3.out (((rd_T40 l0_1 x6_3).f1) : Int) ji20) | ((with_reducible refine gate_store (t := 3) (p := 60) rfl ?_); (try (rw [drewN_self w31]; generalize hq_ : World.drewN w31 _ = w31; have n0_ := Aside0.mk (Kd.R_at hq_ HO_3.out); have n1_ := Aside0.mk (blk_at hq_ BK247.out); have n2_ := Aside0.mk (blk_at hq_ BK253.out); have n3_ := Aside0.mk (below_at hq_ HB.out); clear hq_ HO_3 BK247 BK253 HB; have HO_3 := n0_; have BK247 := n1_; have BK253 := n2_; have HB := n3_; clear n0_ n1_ n2_ n3_; (try (obtain ⟨hy33_, hz33_⟩ := Kd.R_celln 0 HO_3.out (((rd_T40 l0_1 x6_3).f1) : Int) (of_decide_eq_true (by first | (with_reducible assumption) | assumption)) (of_decide_eq_true (by first | (with_reducible assumption) | assumption)))); (try (have HP33 := Kd.R_putg HO_3.out (((rd_T40 l0_1 x6_3).f1) : Int) ji20)))); refine store_event (t := 3) (p := 60) (v := ?vo_w34) (w1 := (w31.setCell ⟨go21, (((rd_T40 l0_1 x6_3).f1) : Int).toNat, none⟩ (.int .i64 ji20))) ?hg ?ho ?hn ?hr ?_; (case ho => rfl); (case hg => rfl); (case hn => rfl); (case hr => first | (go_simp; done) | (go_simp; rfl)); intro w34 hw; have hg : w31.grownBy w34 (some go21) := (by rw [hw]; exact HP33.2); have hp_ : Kd.R (Kd.int .i64) 3 w34 w.heap.size (fun _ => True) (.slice (some ⟨go21, 0, none⟩) x3_3.length co29) y257 := (by rw [hw, Ny257.out]; exact HP33.1); clear HP33; have n0_ := Aside0.mk (hp_); have n1_ := Aside0.mk (blk_grown (g := gb247) (o := .cells #[.int .i64 a0_0, .slice (some ad252) l0_1.length c0_1] 24 (0, 0)) (byK BK247.out) hg (Kd.R_ne HO_3.out BK247.out (by decide))); have n2_ := Aside0.mk (blk_grown (g := gb253) (o := .cells #[.int .i64 ((rd_T40 l0_1 x6_3).f0), .int .i64 ((rd_T40 l0_1 x6_3).f1)] 40 (0, 0)) (byK BK253.out) hg (Kd.R_ne HO_3.out BK253.out (by decide))); have n3_ := Aside0.mk ((by rw [hw]; exact below_set (HB.out) GB21.out : Below w.heap.size w w34)); clear HO_3 BK247 BK253 HB; have HO_3 := n0_; have BK247 := n1_; have BK253 := n2_; have HB := n3_; clear n0_ n1_ n2_ n3_ hg hw hp_)); try go_wp2_with (first | ((with_reducible refine gate_dst (N := 7) rfl ?_); refine box_event ?hg (N := 7) ?hd (cs := #[.int .i64 0, .int .i64 0]) (t := 40) ?hr ?_; (case hd => rfl); (case hg => rfl); (case hr => first | (go_simp; done) | (go_simp; rfl)); intro gb253 hg w24 hbox hb; have n0_ := Aside0.mk (Kd.R_below (byR HO_3.out) hb); have n1_ := Aside0.mk (blk_below (g := gb247) (o := .cells #[.int .i64 a0_0, .slice (some ad252) l0_1.length c0_1] 24 (0, 0)) (byK BK247.out) hb); have n2_ := Aside0.mk (below_step (byB1 HB.out GE247.out) hb); have n3_ := Aside0.mk (hbox); have n4_ := Aside0.mk ((by rw [hg]; exact (below_size (byB1 HB.out GE247.out)) : w.heap.size ≤ gb253)); have n5_ := Aside0.mk ((by rw [hg]; exact (below_size (byB1 HB.out GE247.out)) : w.heap.size ≤ gb253)); have n6_ := Aside0.mk ((by rw [hg]; exact Nat.ne_of_lt (blk_lt (g := gb247) (o := .cells #[.int .i64 a0_0, .slice (some ad252) l0_1.length c0_1] 24 (0, 0)) (byK BK247.out)) : gb247 ≠ gb253)); have n7_ := Aside0.mk ((by rw [hg]; exact Nat.ne_of_gt (blk_lt (g := gb247) (o := .cells #[.int .i64 a0_0, .slice (some ad252) l0_1.length c0_1] 24 (0, 0)) (byK BK247.out)) : gb253 ≠ gb247)); clear HO_3 BK247 HB; have HO_3 := n0_; have BK247 := n1_; have HB := n2_; have BK253 := n3_; have GW253 := n4_; have GE253 := n5_; have NB247_253 := n6_; have NB253_247 := n7_; clear n0_ n1_ n2_ n3_ n4_ n5_ n6_ n7_ hb hbox hg; have hnb25 := NB253_247.out; have hnc25 := NB247_253.out; have hcz26_0 : w24.cell? ⟨gb253, 0, none⟩ = some (.int .i64 0) := (blk_cell BK253.out 0).trans rfl; have hcz26_1 : w24.cell? ⟨gb253, 1, none⟩ = some (.int .i64 0) := (blk_cell BK253.out 1).trans rfl; have hfz26_0 := blk_frozen BK253.out 0; have hfz26_1 := blk_frozen BK253.out 1) | ((with_reducible refine gate_store (t := 40) (p := 7) rfl ?_); (try (rw [drewN_self w24]; generalize hq_ : World.drewN w24 _ = w24; have n0_ := Aside0.mk (Kd.R_at hq_ HO_3.out); have n1_ := Aside0.mk (blk_at hq_ BK247.out); have n2_ := Aside0.mk (blk_at hq_ BK253.out); have n3_ := Aside0.mk (below_at hq_ HB.out); clear hq_ HO_3 BK247 BK253 HB; have HO_3 := n0_; have BK247 := n1_; have BK253 := n2_; have HB := n3_; clear n0_ n1_ n2_ n3_)); refine store_event (t := 40) (p := 7) (v := ?vo_w27) (w1 := ((w24.setCell ⟨gb253, 0, none⟩ (.int .i64 ((rd_T40 l0_1 x6_3).f0))).setCell ⟨gb253, 1, none⟩ (.int .i64 ((rd_T40 l0_1 x6_3).f1)))) ?hg ?ho ?hn ?hr ?_; (case ho => rfl); (case hg => rfl); (case hn => rfl); (case hr => first | (go_simp; done) | (go_simp; rfl)); intro w27 hw; have n0_ : Aside0 (Kd.R (Kd.int .i64) 3 w27 w.heap.size (fun _ => True) u3 x3_3) := ⟨(by rw [hw]; exact (by (with_reducible repeat (first | apply Kd.R_alloc | apply Kd.R_drewN | apply Kd.R_drew)); exact Kd.R_mono (Kd.R_far (p := ⟨gb253, 1, none⟩) (Kd.R_far (p := ⟨gb253, 0, none⟩) (Kd.R_types HO_3.out BK253.out (by decide)) (fun _ hk => hk.2) (.int .i64 ((rd_T40 l0_1 x6_3).f0))) (fun _ hk => hk.2) (.int .i64 ((rd_T40 l0_1 x6_3).f1))) (fun _ hk => trivial)))⟩; have n1_ : Aside0 (w27.heap[gb247]? = some (.cells #[.int .i64 a0_0, .slice (some ad252) l0_1.length c0_1] 24 (0, 0))) := ⟨(by rw [hw]; exact (by (with_reducible repeat (first | refine blk_drewN ?_ _ | refine blk_drew ?_ | refine blk_alloc ?_ _)); refine blk_far ?_ NB247_253.out _; (with_reducible repeat (first | refine blk_drewN ?_ _ | refine blk_drew ?_ | refine blk_alloc ?_ _)); refine blk_far ?_ NB247_253.out _; (with_reducible repeat (first | refine blk_drewN ?_ _ | refine blk_drew ?_ | refine blk_alloc ?_ _)); exact BK247.out))⟩; have n2_ : Aside0 (w27.heap[gb253]? = some (.cells #[.int .i64 ((rd_T40 l0_1 x6_3).f0), .int .i64 ((rd_T40 l0_1 x6_3).f1)] 40 (0, 0))) := ⟨(by rw [hw]; exact (by (with_reducible repeat (first | refine blk_drewN ?_ _ | refine blk_drew ?_ | refine blk_alloc ?_ _)); refine blk_put (cs := #[.int .i64 ((rd_T40 l0_1 x6_3).f0), .int .i64 0]) ?_ 1 _ rfl; (with_reducible repeat (first | refine blk_drewN ?_ _ | refine blk_drew ?_ | refine blk_alloc ?_ _)); refine blk_put (cs := #[.int .i64 0, .int .i64 0]) ?_ 0 _ rfl; (with_reducible repeat (first | refine blk_drewN ?_ _ | refine blk_drew ?_ | refine blk_alloc ?_ _)); exact BK253.out))⟩; have n3_ : Aside0 (Below w.heap.size w w27) := ⟨(by rw [hw]; exact (byB2 HB.out GE247.out GE253.out))⟩; clear hw HO_3 BK247 BK253 HB; have HO_3 := n0_; have BK247 := n1_; have BK253 := n2_; have HB := n3_; clear n0_ n1_ n2_ n3_; have hcz28_0 : w27.cell? ⟨gb253, 0, none⟩ = some (.int .i64 ((rd_T40 l0_1 x6_3).f0)) := (blk_cell BK253.out 0).trans rfl; have hcz28_1 : w27.cell? ⟨gb253, 1, none⟩ = some (.int .i64 ((rd_T40 l0_1 x6_3).f1)) := (blk_cell BK253.out 1).trans rfl; have hfz28_0 := blk_frozen BK253.out 0; have hfz28_1 := blk_frozen BK253.out 1; obtain ⟨Ao29, co29, eo29⟩ := Kd.R_slice HO_3.out; subst eo29; have p254 : 0 ≤ (((rd_T40 l0_1 x6_3).f0) : Int) := of_decide_eq_true (by first | (with_reducible assumption) | assumption); have q254 : ((rd_T40 l0_1 x6_3).f0) < (x3_3.length : Int) := of_decide_eq_true (by first | (with_reducible assumption) | assumption); obtain ⟨ad254, e254, hx254_0⟩ := Kd.at_int (Kd.R_reads' HO_3.out).2.2 ((rd_T40 l0_1 x6_3).f0) p254 q254; cases e254; replace p254 := eq_true p254; replace q254 := eq_true q254; have p255 : 0 ≤ (((rd_T40 l0_1 x6_3).f1) : Int) := of_decide_eq_true (by first | (with_reducible assumption) | assumption); have q255 : ((rd_T40 l0_1 x6_3).f1) < (x3_3.length : Int) := of_decide_eq_true (by first | (with_reducible assumption) | assumption); obtain ⟨ad255, e255, hx255_0⟩ := Kd.at_int (Kd.R_reads' HO_3.out).2.2 ((rd_T40 l0_1 x6_3).f1) p255 q255; obtain rfl : ad254 = ad255 := (by injection e255); replace p255 := eq_true p255; replace q255 := eq_true q255; have p21 : 0 ≤ (((rd_T40 l0_1 x6_3).f0) : Int) := of_decide_eq_true (by first | (with_reducible assumption) | assumption); have q21 : (((rd_T40 l0_1 x6_3).f0) : Int) < ((x3_3.length : Int) : Int) := of_decide_eq_true (by first | (with_reducible assumption) | assumption); obtain ⟨go21, co21, eo21, gb21, gl21, cl21, HG21⟩ := Kd.R_form HO_3.out (by omega); (first | cases eo21 | (injection eo21 with ea_ en_ ec_; (first | subst ea_ | (injection ea_ with ea_; subst ea_)); subst ec_; clear en_)); have GB21 := Aside0.mk gb21; have GG21 := Aside0.mk HG21; clear gb21 gl21 HG21; (first | simp only [add_plain] at hx254_0 | skip); (first | simp only [add_plain] at hx255_0 | skip); obtain ⟨hx21_0, hf21_0⟩ := Kd.R_celln 0 HO_3.out (((rd_T40 l0_1 x6_3).f0) : Int) p21 q21; replace p21 := eq_true p21; replace q21 := eq_true q21; obtain ⟨hy30_, hz30_⟩ := Kd.R_celln 0 HO_3.out (((rd_T40 l0_1 x6_3).f0) : Int) (of_decide_eq_true (by first | (with_reducible assumption) | assumption)) (of_decide_eq_true (by first | (with_reducible assumption) | assumption)); have HP30 := Kd.R_putg HO_3.out (((rd_T40 l0_1 x6_3).f0) : Int) ji20) | ((with_reducible refine gate_store (t := 3) (p := 55) rfl ?_); (try (rw [drewN_self w27]; generalize hq_ : World.drewN w27 _ = w27; have n0_ := Aside0.mk (Kd.R_at hq_ HO_3.out); have n1_ := Aside0.mk (blk_at hq_ BK247.out); have n2_ := Aside0.mk (blk_at hq_ BK253.out); have n3_ := Aside0.mk (below_at hq_ HB.out); clear hq_ HO_3 BK247 BK253 HB; have HO_3 := n0_; have BK247 := n1_; have BK253 := n2_; have HB := n3_; clear n0_ n1_ n2_ n3_; (try (obtain ⟨hy30_, hz30_⟩ := Kd.R_celln 0 HO_3.out (((rd_T40 l0_1 x6_3).f0) : Int) (of_decide_eq_true (by first | (with_reducible assumption) | assumption)) (of_decide_eq_true (by first | (with_reducible assumption) | assumption)))); (try (have HP30 := Kd.R_putg HO_3.out (((rd_T40 l0_1 x6_3).f0) : Int) ji20)))); refine store_event (t := 3) (p := 55) (v := ?vo_w31) (w1 := (w27.setCell ⟨go21, (((rd_T40 l0_1 x6_3).f0) : Int).toNat, none⟩ (.int .i64 ji20))) ?hg ?ho ?hn ?hr ?_; (case ho => rfl); (case hg => rfl); (case hn => rfl); (case hr => first | (go_simp; done) | (go_simp; rfl)); intro w31 hw; have hg : w27.grownBy w31 (some go21) := (by rw [hw]; exact HP30.2); have hp_ : Kd.R (Kd.int .i64) 3 w31 w.heap.size (fun _ => True) (.slice (some ⟨go21, 0, none⟩) x3_3.length co29) y256 := (by rw [hw, Ny256.out]; exact HP30.1); clear HP30; have n0_ := Aside0.mk (hp_); have n1_ := Aside0.mk (blk_grown (g := gb247) (o := .cells #[.int .i64 a0_0, .slice (some ad252) l0_1.length c0_1] 24 (0, 0)) (byK BK247.out) hg (Kd.R_ne HO_3.out BK247.out (by decide))); have n2_ := Aside0.mk (blk_grown (g := gb253) (o := .cells #[.int .i64 ((rd_T40 l0_1 x6_3).f0), .int .i64 ((rd_T40 l0_1 x6_3).f1)] 40 (0, 0)) (byK BK253.out) hg (Kd.R_ne HO_3.out BK253.out (by decide))); have n3_ := Aside0.mk ((by rw [hw]; exact below_set (HB.out) GB21.out : Below w.heap.size w w31)); clear HO_3 BK247 BK253 HB; have HO_3 := n0_; have BK247 := n1_; have BK253 := n2_; have HB := n3_; clear n0_ n1_ n2_ n3_ hg hw hp_; have hcz32_0 : w31.cell? ⟨gb253, 0, none⟩ = some (.int .i64 ((rd_T40 l0_1 x6_3).f0)) := (blk_cell BK253.out 0).trans rfl; have hcz32_1 : w31.cell? ⟨gb253, 1, none⟩ = some (.int .i64 ((rd_T40 l0_1 x6_3).f1)) := (blk_cell BK253.out 1).trans rfl; have hfz32_0 := blk_frozen BK253.out 0; have hfz32_1 := blk_frozen BK253.out 1; have p22 : 0 ≤ (((rd_T40 l0_1 x6_3).f1) : Int) := of_decide_eq_true (by first | (with_reducible assumption) | assumption); have q22 : (((rd_T40 l0_1 x6_3).f1) : Int) < ((x3_3.length : Int) : Int) := of_decide_eq_true (by first | (with_reducible assumption) | assumption); obtain ⟨hx22_0, hf22_0⟩ := Kd.R_celln 0 HO_3.out (((rd_T40 l0_1 x6_3).f1) : Int) p22 q22; replace p22 := eq_true p22; replace q22 := eq_true q22; obtain ⟨hy33_, hz33_⟩ := Kd.R_celln 0 HO_3.out (((rd_T40 l0_1 x6_3).f1) : Int) (of_decide_eq_true (by first | (with_reducible assumption) | assumption)) (of_decide_eq_true (by first | (with_reducible assumption) | assumption)); have HP33 := Kd.R_putg HO_3.out (((rd_T40 l0_1 x6_3).f1) : Int) ji20) | ((with_reducible refine gate_store (t := 3) (p := 60) rfl ?_); (try (rw [drewN_self w31]; generalize hq_ : World.drewN w31 _ = w31; have n0_ := Aside0.mk (Kd.R_at hq_ HO_3.out); have n1_ := Aside0.mk (blk_at hq_ BK247.out); have n2_ := Aside0.mk (blk_at hq_ BK253.out); have n3_ := Aside0.mk (below_at hq_ HB.out); clear hq_ HO_3 BK247 BK253 HB; have HO_3 := n0_; have BK247 := n1_; have BK253 := n2_; have HB := n3_; clear n0_ n1_ n2_ n3_; (try (obtain ⟨hy33_, hz33_⟩ := Kd.R_celln 0 HO_3.out (((rd_T40 l0_1 x6_3).f1) : Int) (of_decide_eq_true (by first | (with_reducible assumption) | assumption)) (of_decide_eq_true (by first | (with_reducible assumption) | assumption)))); (try (have HP33 := Kd.R_putg HO_3.out (((rd_T40 l0_1 x6_3).f1) : Int) ji20)))); refine store_event (t := 3) (p := 60) (v := ?vo_w34) (w1 := (w31.setCell ⟨go21, (((rd_T40 l0_1 x6_3).f1) : Int).toNat, none⟩ (.int .i64 ji20))) ?hg ?ho ?hn ?hr ?_; (case ho => rfl); (case hg => rfl); (case hn => rfl); (case hr => first | (go_simp; done) | (go_simp; rfl)); intro w34 hw; have hg : w31.grownBy w34 (some go21) := (by rw [hw]; exact HP33.2); have hp_ : Kd.R (Kd.int .i64) 3 w34 w.heap.size (fun _ => True) (.slice (some ⟨go21, 0, none⟩) x3_3.length co29) y257 := (by rw [hw, Ny257.out]; exact HP33.1); clear HP33; have n0_ := Aside0.mk (hp_); have n1_ := Aside0.mk (blk_grown (g := gb247) (o := .cells #[.int .i64 a0_0, .slice (some ad252) l0_1.length c0_1] 24 (0, 0)) (byK BK247.out) hg (Kd.R_ne HO_3.out BK247.out (by decide))); have n2_ := Aside0.mk (blk_grown (g := gb253) (o := .cells #[.int .i64 ((rd_T40 l0_1 x6_3).f0), .int .i64 ((rd_T40 l0_1 x6_3).f1)] 40 (0, 0)) (byK BK253.out) hg (Kd.R_ne HO_3.out BK253.out (by decide))); have n3_ := Aside0.mk ((by rw [hw]; exact below_set (HB.out) GB21.out : Below w.heap.size w w34)); clear HO_3 BK247 BK253 HB; have HO_3 := n0_; have BK247 := n1_; have BK253 := n2_; have HB := n3_; clear n0_ n1_ n2_ n3_ hg hw hp_)))
                go_roundg k3
                case measure => have := HK1.out; have := HK2.out; have := HK3.out; omega
                case rel => exact ⟨(y257), (wrap64 (x6_3 + 1)), (by first | rfl | (simp; done) | (simp [*]; done)), H', ⟨by have := HK1.out; have := HK2.out; have := HK3.out; omega⟩, ⟨by (with_reducible repeat (first | apply Kd.R_alloc | apply Kd.R_drewN | apply Kd.R_drew)); exact HO_3.out⟩, ⟨by (with_reducible repeat (first | refine blk_drewN ?_ _ | refine blk_drew ?_ | refine blk_alloc ?_ _)); exact BK247.out⟩, ⟨by repeat (first | (with_reducible first | exact HB.out | apply below_alloc | apply pw_below_drewN | apply below_drew1 | refine below_set ?_ GE247.out | refine below_set ?_ GE253.out) | exact HB.out)⟩⟩
               ·rw [if_neg c19] at H
                exact absurd H (by simp)
              ·rw [if_neg c18] at H
               exact absurd H (by simp)
             ·rw [if_neg c17] at H
              exact absurd H (by simp)
            ·rw [if_neg c16] at H
             exact absurd H (by simp)
           ·rw [if_neg c15] at H
            exact absurd H (by simp)
          ·rw [if_neg c14] at H
           have c14b0 : decide (x6_3 < (l0_1.length : Int)) = false := decide_eq_false c14
           clear c14
           have H' := Aside0.mk H
           clear H
           have hcz35_0 : wr.cell? ⟨gb247, 0, none⟩ = some (.int .i64 a0_0) := (blk_cell BK247.out 0).trans rfl
           have hcz35_1 : wr.cell? ⟨gb247, 1, none⟩ = some (.slice A0_1 l0_1.length c0_1) := (blk_cell BK247.out 1).trans rfl
           have hfz35_0 := blk_frozen BK247.out 0
           have hfz35_1 := blk_frozen BK247.out 1
           go_wp2
           repeat (go_quiet (fail); try go_wp2)
           go_roundg k3
           case measure => have := HK1.out; have := HK2.out; have := HK3.out; omega
           case rel => exact ⟨(x3_3), (wrap64 (x5_2 + 1)), (by first | rfl | (simp; done) | (simp [*]; done)), H', ⟨by have := HK1.out; have := HK2.out; have := HK3.out; omega⟩, ⟨by (with_reducible repeat (first | apply Kd.R_alloc | apply Kd.R_drewN | apply Kd.R_drew)); exact HO_3.out⟩, ⟨by (with_reducible repeat (first | refine blk_drewN ?_ _ | refine blk_drew ?_ | refine blk_alloc ?_ _)); exact BK247.out⟩, ⟨by repeat (first | (with_reducible first | exact HB.out | apply below_alloc | apply pw_below_drewN | apply below_drew1 | refine below_set ?_ GE247.out) | exact HB.out)⟩⟩
       ·rw [if_neg c12] at H
        have c12b0 : decide (x5_2 < a0_0) = false := decide_eq_false c12
        clear c12
        obtain rfl := Option.some.inj H
        have hcz36_0 : wr.cell? ⟨gb247, 0, none⟩ = some (.int .i64 a0_0) := (blk_cell BK247.out 0).trans rfl
        have hcz36_1 : wr.cell? ⟨gb247, 1, none⟩ = some (.slice A0_1 l0_1.length c0_1) := (blk_cell BK247.out 1).trans rfl
        have hfz36_0 := blk_frozen BK247.out 0
        have hfz36_1 := blk_frozen BK247.out 1
        go_wp2
        repeat (go_quiet (fail); try go_wp2)
        go_ret
        exact ⟨_, by first | rfl | (simp [errW_none, errW_some] <;> rfl) | (simp [*, errW_none, errW_some] <;> rfl), by (with_reducible repeat (first | apply Kd.R_alloc | apply Kd.R_drewN | apply Kd.R_drew)); exact HO_3.out, by repeat (first | (with_reducible first | exact HB.out | apply below_alloc | apply pw_below_drewN | apply below_drew1 | refine below_set ?_ GE247.out) | exact HB.out)⟩
 ·rw [if_neg c3] at H
  have c3b0 : (t248 == 0) = false := beq_eq_false_iff_ne.mpr c3
  have c3b1 : (t248 != 0) = true := bne_iff_ne.mpr c3
  obtain rfl := Option.some.inj H
  go_enter Try.func21, Try.ntmps21
  go_wp2_with (first | ((with_reducible refine gate_dst (N := 1) rfl ?_); refine box_event ?hg (N := 1) ?hd (cs := #[.int .i64 a0_0, .slice A0_1 l0_1.length c0_1]) (t := 24) ?hr ?_; (case hd => rfl); (case hg => rfl); (case hr => first | (go_simp; done) | (go_simp; rfl)); intro gb247 hg w37 hbox hb; have n0_ := Aside0.mk (below_step (byB HB.out) hb); have n1_ := Aside0.mk (hbox); have n2_ := Aside0.mk ((by rw [hg]; exact (below_size (byB HB.out)) : w.heap.size ≤ gb247)); have n3_ := Aside0.mk ((by rw [hg]; exact (below_size (byB HB.out)) : w.heap.size ≤ gb247)); clear HB; have HB := n0_; have BK247 := n1_; have GW247 := n2_; have GE247 := n3_; clear n0_ n1_ n2_ n3_ hb hbox hg; have hcz38_0 : w37.cell? ⟨gb247, 0, none⟩ = some (.int .i64 a0_0) := (blk_cell BK247.out 0).trans rfl; have hcz38_1 : w37.cell? ⟨gb247, 1, none⟩ = some (.slice A0_1 l0_1.length c0_1) := (blk_cell BK247.out 1).trans rfl; have hfz38_0 := blk_frozen BK247.out 0; have hfz38_1 := blk_frozen BK247.out 1) | (go_at_call 23; (with_reducible refine (mapmakerref37_Check.calls k a0_0 _ _ l0_1 t248 _ ?side1 ?side2 A2.out).mono ?_); (case side1 => exact byC (Kd.C_below HR0_1.out HB.out)); (case side2 => exact HC0_1.out); rintro e w39 ⟨rfl, hb⟩; have n0_ := Aside0.mk (blk_below (g := gb247) (o := .cells #[.int .i64 a0_0, .slice A0_1 l0_1.length c0_1] 24 (0, 0)) (byK BK247.out) hb); have n1_ := Aside0.mk (below_step (byB1 HB.out GE247.out) hb); clear BK247 HB; have BK247 := n0_; have HB := n1_; clear n0_ n1_; (try clear hb); (try clear hb2); (try clear hk); (try clear hi)))
  repeat (go_quiet (first | ((with_reducible refine gate_dst (N := 1) rfl ?_); refine box_event ?hg (N := 1) ?hd (cs := #[.int .i64 a0_0, .slice A0_1 l0_1.length c0_1]) (t := 24) ?hr ?_; (case hd => rfl); (case hg => rfl); (case hr => first | (go_simp; done) | (go_simp; rfl)); intro gb247 hg w37 hbox hb; have n0_ := Aside0.mk (below_step (byB HB.out) hb); have n1_ := Aside0.mk (hbox); have n2_ := Aside0.mk ((by rw [hg]; exact (below_size (byB HB.out)) : w.heap.size ≤ gb247)); have n3_ := Aside0.mk ((by rw [hg]; exact (below_size (byB HB.out)) : w.heap.size ≤ gb247)); clear HB; have HB := n0_; have BK247 := n1_; have GW247 := n2_; have GE247 := n3_; clear n0_ n1_ n2_ n3_ hb hbox hg; have hcz38_0 : w37.cell? ⟨gb247, 0, none⟩ = some (.int .i64 a0_0) := (blk_cell BK247.out 0).trans rfl; have hcz38_1 : w37.cell? ⟨gb247, 1, none⟩ = some (.slice A0_1 l0_1.length c0_1) := (blk_cell BK247.out 1).trans rfl; have hfz38_0 := blk_frozen BK247.out 0; have hfz38_1 := blk_frozen BK247.out 1) | (go_at_call 23; (with_reducible refine (mapmakerref37_Check.calls k a0_0 _ _ l0_1 t248 _ ?side1 ?side2 A2.out).mono ?_); (case side1 => exact byC (Kd.C_below HR0_1.out HB.out)); (case side2 => exact HC0_1.out); rintro e w39 ⟨rfl, hb⟩; have n0_ := Aside0.mk (blk_below (g := gb247) (o := .cells #[.int .i64 a0_0, .slice A0_1 l0_1.length c0_1] 24 (0, 0)) (byK BK247.out) hb); have n1_ := Aside0.mk (below_step (byB1 HB.out GE247.out) hb); clear BK247 HB; have BK247 := n0_; have HB := n1_; clear n0_ n1_; (try clear hb); (try clear hb2); (try clear hk); (try clear hi))); try go_wp2_with (first | ((with_reducible refine gate_dst (N := 1) rfl ?_); refine box_event ?hg (N := 1) ?hd (cs := #[.int .i64 a0_0, .slice A0_1 l0_1.length c0_1]) (t := 24) ?hr ?_; (case hd => rfl); (case hg => rfl); (case hr => first | (go_simp; done) | (go_simp; rfl)); intro gb247 hg w37 hbox hb; have n0_ := Aside0.mk (below_step (byB HB.out) hb); have n1_ := Aside0.mk (hbox); have n2_ := Aside0.mk ((by rw [hg]; exact (below_size (byB HB.out)) : w.heap.size ≤ gb247)); have n3_ := Aside0.mk ((by rw [hg]; exact (below_size (byB HB.out)) : w.heap.size ≤ gb247)); clear HB; have HB := n0_; have BK247 := n1_; have GW247 := n2_; have GE247 := n3_; clear n0_ n1_ n2_ n3_ hb hbox hg; have hcz38_0 : w37.cell? ⟨gb247, 0, none⟩ = some (.int .i64 a0_0) := (blk_cell BK247.out 0).trans rfl; have hcz38_1 : w37.cell? ⟨gb247, 1, none⟩ = some (.slice A0_1 l0_1.length c0_1) := (blk_cell BK247.out 1).trans rfl; have hfz38_0 := blk_frozen BK247.out 0; have hfz38_1 := blk_frozen BK247.out 1) | (go_at_call 23; (with_reducible refine (mapmakerref37_Check.calls k a0_0 _ _ l0_1 t248 _ ?side1 ?side2 A2.out).mono ?_); (case side1 => exact byC (Kd.C_below HR0_1.out HB.out)); (case side2 => exact HC0_1.out); rintro e w39 ⟨rfl, hb⟩; have n0_ := Aside0.mk (blk_below (g := gb247) (o := .cells #[.int .i64 a0_0, .slice A0_1 l0_1.length c0_1] 24 (0, 0)) (byK BK247.out) hb); have n1_ := Aside0.mk (below_step (byB1 HB.out GE247.out) hb); clear BK247 HB; have BK247 := n0_; have HB := n1_; clear n0_ n1_; (try clear hb); (try clear hb2); (try clear hk); (try clear hi))))
  go_ret
  exact ⟨_, by first | rfl | (simp [errW_none, errW_some] <;> rfl) | (simp [*, errW_none, errW_some] <;> rfl), by first | exact Kd.R_nil _ _ _ _ _ | exact Kd.N_nil _ _ _ _ _ | exact Kd.V_nil _ _ _ _ _ | exact Kd.Q_nil _ _ _ _ _ | exact Kd.S_nil _ _ _ _ _, by repeat (first | (with_reducible first | exact HB.out | apply below_alloc | apply pw_below_drewN | apply below_drew1 | refine below_set ?_ GE247.out) | exact HB.out)⟩

end Go.Proofs.Ytnnknbghfbjcnaa.Print
